/- What the abstract run asks of this program itself: the sync.Once, and the reference's two functions by their tables. No condition. -/
import Derived.Test.YthcbefolifpbpaaE13
namespace Go.Proofs.Ythcbefolifpbpaa
open Go Go.Ai
noncomputable def env : Env := R.X.env20
theorem env_ok : env.Ok := R.X.env20_ok
end Go.Proofs.Ythcbefolifpbpaa
