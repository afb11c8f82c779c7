/- Of this program, for all inputs: contracts. No condition but those in the theorems. -/
import Derived.Test.YtlnepbkeiianmaaAiMemo
namespace Go.Ai
open Go
set_option linter.unusedSimpArgs false
set_option linter.unusedVariables false
variable {P : Program}
/-! functions without arguments,run in an empty memory: what they answer they answer everywhere -/
theorem Stp.closed {ρ ρ' : Ren} {h h' : Heap} {w w' : World} (r : HRel ρ h w) (s : Stp (fun _ => none) ⟨0, .leaf⟩ w ρ' h' w') : Stp ρ h w ρ h w' := by
 have hold : ∀ b,b < w.heap.size -> w'.heap[b]? = w.heap[b]? := fun b hb => s.frm b hb own_nil
 refine ⟨Ext.refl _,⟨fun k b g => ?_,r.new,r.inj⟩,s.os,s.tape,s.output,s.size,fun b hb _ => hold b hb,fun _ o _ => o,Nat.le_refl _,fun k b l g e _ => ⟨k,b,l,g,e,rfl⟩,fun _ _ => rfl⟩
 obtain ⟨l,h1,h2⟩ := r.blk k b g
 exact ⟨l,h1,h2.mono (Ext.refl _) (hold _ h2.lt)⟩
def tNil (v : AV) (args : List AV) : Option AV := match args with | [] => some v | _ => none
end Go.Ai
