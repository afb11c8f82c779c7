/- Of this program, for all inputs: contracts. No condition but those in the theorems. -/
import Derived.Test.YtfjcfjfgamajkaaAiMemo
namespace Go.Ai
open Go
set_option linter.unusedSimpArgs false
set_option linter.unusedVariables false
variable {P : Program}
/-! functions without arguments,run in an empty memory: what they answer they answer everywhere -/
theorem Stp.closed {ρ ρ' : Ren} {h h' : Heap} {w w' : World} (r : HRel ρ h w) (s : Stp (fun _ => none) ⟨0, .leaf⟩ w ρ' h' w') : Stp ρ h w ρ h w' := by
 have hold : ∀ b,b < w.heap.size -> w'.heap[b]? = w.heap[b]? := fun b hb => s.frm b hb own_nil
 refine ⟨Ext.refl _,⟨fun k b g => ?_,r.new,r.inj⟩,s.os,s.tape,s.output,s.size,fun b hb _ => hold b hb,fun _ o _ => o,Nat.le_refl _,fun k b l g e _ => ⟨k,b,l,g,e,rfl⟩,fun _ _ => rfl⟩
 obtain ⟨l,h1,h2⟩ := r.blk k b g
 exact ⟨l,h1,h2.mono (Ext.refl _) (hold _ h2.lt)⟩
def tNil (v : AV) (args : List AV) : Option AV := match args with | [] => some v | _ => none
theorem closed_ok {E : Env} (ok : E.Ok) {d : Nat} {f : FuncId} {v : AV} (hv : plainW v = true) (hk : ∃ h',callD E d f [] ⟨0, .leaf⟩ = some (v,h')) (call : CallK) :
  CallOk E.P fun f' args h => if f' = f then memo (tNil v) call args h else none := by
 intro f' args h u h' hk2 ρ w xs hx hr o a next Q hn
 simp only at hk2
 split at hk2
 ·rename_i hf
  subst hf
  unfold memo tNil at hk2
  split at hk2
  ·rename_i z hz
   split at hz
   ·cases hz
    cases hk2
    rw [denL_nil] at hx
    cases hx
    obtain ⟨h'',e⟩ := hk
    refine callD_ok ok d f' [] ⟨0, .leaf⟩ _ h'' e (fun _ => none) w [] rfl (hrel_nil w) o a next Q fun ρ' z w' hst hz => ?_
    exact hn ρ z w' (hst.closed hr) (by rw [plainW_den hv ρ ρ']; exact hz)
   ·cases hz
  ·cases hk2
 ·cases hk2
theorem Env.closed1_ok {E : Env} {f1 : Nat} {v : AV} (ok : E.Ok) {d1 : Nat} (hv : plainW v = true) (h1 : ∃ h',callD E d1 f1 [] ⟨0, .leaf⟩ = some (v,h')) : (E.memo1 f1 (tNil v)).Ok :=
 ⟨ok.reg,ok.names,ok.clone,fun f g hf call hc => by
  simp only [Env.memo1] at hf
  split at hf
  ·rename_i e
   cases hf
   have := Nat.eq_of_beq_eq_true e
   subst this
   exact closed_ok ok hv h1 call
  ·exact ok.ora f g hf call hc⟩
theorem ran_true {E : Env} {d : Nat} {f : FuncId} (h : isTrue (run E d f) = true) : ∃ h',callD E d f [] ⟨0, .leaf⟩ = some (.bool true,h') := by
 unfold run at h
 unfold isTrue at h
 split at h
 ·rename_i h' e; exact ⟨h',e⟩
 ·cases h
end Go.Ai
