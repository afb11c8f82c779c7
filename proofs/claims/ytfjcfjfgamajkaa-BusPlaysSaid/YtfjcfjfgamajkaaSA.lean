/- Of this program, for all inputs: contracts. No condition but those in the theorems. -/
import Derived.Test.YtfjcfjfgamajkaaAiMemo2
import Derived.Test.YtfjcfjfgamajkaaTy
namespace Go.Proofs.Ytfjcfjfgamajkaa
open Go Go.Ai Go.Aw
noncomputable def env0 : Env := Env.of Try.prog 100000
theorem env0_ok : env0.Ok := Env.of_ok (by kernel_rfl) (by kernel_rfl) (by kernel_rfl)
theorem awake_ran : isTrue (run env0 100 16) = true := by
 kernel_rfl
noncomputable def env : Env := env0.memo1 16 (tNil (.bool true))
theorem env_ok : env.Ok := Env.closed1_ok env0_ok (d1 := 100) rfl (ran_true awake_ran)
theorem awake_eq (d : Nat) (h : Heap) : callD env (d + 1) 16 [] h = some (.bool true,h) := memo_call (t := tNil (.bool true)) rfl rfl d h
end Go.Proofs.Ytfjcfjfgamajkaa
