/- What the abstract run asks of this program itself, once: its orders are mixed, its names, what stands for the copying of a map. No condition. -/
import Derived.Test.YtfjcfjfgamajkaaProg
import Derived.Test.YtfjcfjfgamajkaaAiTop
import Derived.KernelRfl
namespace Go.Proofs.Ytfjcfjfgamajkaa
open Go Go.Ai
noncomputable def env : Env := Env.of Try.prog 100000
theorem env_ok : env.Ok := Env.of_ok (by kernel_rfl) (by kernel_rfl) (by kernel_rfl)
end Go.Proofs.Ytfjcfjfgamajkaa
