/- What the abstract run asks of this program itself, once: its orders are mixed, its names, what stands for the copying of a map, sync.Once. No condition. -/
import Derived.Test.YthcbefolifpbpaaOnce
import Derived.Test.YthcbefolifpbpaaAiOnce
import Derived.KernelRfl
namespace Go.Proofs.Ythcbefolifpbpaa
open Go Go.Ai
noncomputable def env : Env := Env.once Try.prog 100000 29
theorem env_ok : env.Ok := Env.once_ok ⟨enter_ok Try.func29 (by kernel_rfl) (by kernel_rfl), do_done, do_first⟩ (by kernel_rfl) (by kernel_rfl) (by kernel_rfl)
end Go.Proofs.Ythcbefolifpbpaa
