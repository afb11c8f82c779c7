/- Of this program, for all inputs: contracts. No condition but those in the theorems. -/
import Derived.Test.YtlnepbkeiianmaaAiMemo2
import Derived.Test.YtlnepbkeiianmaaTy
namespace Go.Proofs.Ytlnepbkeiianmaa
open Go Go.Ai Go.Aw
noncomputable def env : Env := Env.of Try.prog 100000
theorem env_ok : env.Ok := Env.of_ok (by kernel_rfl) (by kernel_rfl) (by kernel_rfl)
end Go.Proofs.Ytlnepbkeiianmaa
