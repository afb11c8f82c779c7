/- Of this program, for all inputs: contracts. No condition but those in the theorems. -/
import Derived.Test.YtfjcfjfgamajkaaAiM5
namespace Go.Ai
open Go
set_option linter.unusedSimpArgs false
set_option linter.unusedVariables false
variable {P : Program}
/-! functions whose answers at some arguments are known: what they make is forgotten -/
/-- a scalar without a place -/
def plainA : AV → Bool
  | .bool _ => true
  | .int _ _ => true
  | .str _ => true
  | _ => false
def plainV : AV → Bool
  | .agg cs => cs.all plainA
  | v => plainA v
theorem plainA_den {v : AV} (h : plainA v = true) (ρ ρ' : Ren) : v.den ρ = v.den ρ' := by
  cases v <;> first | rfl | cases h
theorem plainL_den {cs : List AV} (h : cs.all plainA = true) (ρ ρ' : Ren) : denL ρ cs = denL ρ' cs := by
  induction cs with
  | nil => rfl
  | cons v cs ih =>
    simp only [List.all_cons, Bool.and_eq_true] at h
    rw [denL, denL, plainA_den h.1 ρ ρ', ih h.2]
theorem plainV_den {v : AV} (h : plainV v = true) (ρ ρ' : Ren) : v.den ρ = v.den ρ' := by
  cases v
  case agg cs => rw [AV.den, AV.den, plainL_den h ρ ρ']
  all_goals first | rfl | (simp [plainV, plainA] at h)
def plainW : AV → Bool
  | .tup vs => vs.all plainV
  | v => plainV v
theorem plainVs_den {cs : List AV} (h : cs.all plainV = true) (ρ ρ' : Ren) : denL ρ cs = denL ρ' cs := by
  induction cs with
  | nil => rfl
  | cons v cs ih =>
    simp only [List.all_cons, Bool.and_eq_true] at h
    rw [denL, denL, plainV_den h.1 ρ ρ', ih h.2]
theorem plainW_den {v : AV} (h : plainW v = true) (ρ ρ' : Ren) : v.den ρ = v.den ρ' := by
  cases v
  case tup cs => rw [AV.den, AV.den, plainVs_den h ρ ρ']
  case agg cs => exact plainV_den (v := .agg cs) (by simpa [plainW] using h) ρ ρ'
  all_goals first | rfl | (simp [plainW, plainV, plainA] at h)
theorem denL_det {ρ ρ' : Ren} (e : Ext ρ ρ') {vs : List AV} {x y : List Value} (h : denL ρ vs = some x) (g : denL ρ' vs = some y) : x = y := by
  rw [denL_mono e _ _ h] at g; cases g; rfl
theorem MRel.det {ρ ρ' : Ren} (e : Ext ρ ρ') : ∀ {es : List (AV × AV)} {L L' : List MapEntry}, MRel ρ es L → MRel ρ' es L' → MRel ρ es L'
  | [], [], [], _, _ => trivial
  | (k, v) :: es, a :: L, b :: L', ⟨h1, h2, h3⟩, ⟨g1, g2, g3⟩ => by
    refine ⟨?_, ?_, MRel.det e h3 g3⟩
    · rw [den_mono e _ _ h1] at g1; exact h1.trans g1
    · rw [den_mono e _ _ h2] at g2; exact h2.trans g2
  | [], [], _ :: _, _, h => h.elim
  | [], _ :: _, _, h, _ => h.elim
  | _ :: _, [], _, h, _ => h.elim
  | _ :: _, _ :: _, [], _, h => h.elim
theorem BlkRel.back {ρ ρ' : Ren} (e : Ext ρ ρ') {w w' : World} {l : Loc} {b : Blk} (h : BlkRel ρ w l b) (g : BlkRel ρ' w' l b) : BlkRel ρ w' l b := by
  cases b with
  | cells cs ext ro =>
    obtain ⟨C, T, fz, xs, h1, h2, h3, h4, h5⟩ := h
    obtain ⟨C', T', fz', xs', g1, g2, g3, g4, g5⟩ := g
    have := denL_det e h2 g2
    subst this
    exact ⟨C', T', fz', xs, g1, h2, g3, g4, g5⟩
  | map es ro =>
    obtain ⟨E, c, h1, h2⟩ := h
    obtain ⟨E', c', g1, g2⟩ := g
    exact ⟨E', c', g1, h2.det e g2⟩
/-- what was made is forgotten -/
theorem Stp.forget {ρ ρ' : Ren} {h h' : Heap} {w w' : World} (r : HRel ρ h w) (s : Stp ρ h w ρ' h' w') (hk : ∀ k b, h.get k = some b → h'.get k = some b) : Stp ρ h w ρ h w' := by
  refine ⟨Ext.refl _, ⟨fun k b g => ?_, r.new, r.inj⟩, s.os, s.tape, s.output, s.size, s.frm, fun _ o _ => o, Nat.le_refl _, fun k b l g e _ => ⟨k, b, l, g, e, rfl⟩, fun _ _ => rfl⟩
  obtain ⟨l, h1, h2⟩ := r.blk k b g
  obtain ⟨l', g1, g2⟩ := s.rel.blk k b (hk k b g)
  rw [s.ext _ _ h1] at g1; cases g1
  exact ⟨l, h1, h2.back s.ext g2⟩
/-- answers by a table -/
def memo (tbl : List AV → Option AV) : CallK → List AV → Heap → Option (AV × Heap) := fun _ args h => match tbl args with
  | some v => some (v, h)
  | none => none
theorem memo_ok {E : Env} (ok : E.Ok) {d : Nat} {f : FuncId} {tbl : List AV → Option AV} (hc : ∀ args v, tbl args = some v → plainW v = true ∧ ∀ h : Heap, ∃ h', callD E d f args h = some (v, h') ∧ ∀ j, j < h.next → h'.get j = h.get j) (call : CallK) :
    CallOk E.P fun f' args h => if f' = f then memo tbl call args h else none := by
  intro f' args h v h' hk ρ w xs hx hr o a next Q hn
  simp only at hk
  split at hk
  · rename_i hf
    subst hf
    unfold memo at hk
    split at hk
    · rename_i u hu
      cases hk
      obtain ⟨hp, hcall⟩ := hc args _ hu
      obtain ⟨h'', e, hkeep⟩ := hcall h
      refine callD_ok ok d f' args h _ h'' e ρ w xs hx hr o a next Q fun ρ' z w' hst hz => ?_
      refine hn ρ z w' (hst.forget hr fun k b g => ?_) (by rw [plainW_den hp ρ ρ']; exact hz)
      by_cases hlt : k < h.next
      · rw [hkeep k hlt]; exact g
      · obtain ⟨l, h1, _⟩ := hr.blk k b g
        rw [hr.new k (by omega)] at h1; cases h1
    · cases hk
  · cases hk
/-- one function more whose answers are known -/
noncomputable def Env.memo1 (E : Env) (f1 : Nat) (t1 : List AV → Option AV) : Env := { P := E.P, ora := fun f => match Nat.beq f f1 with | true => some (memo t1) | false => E.ora f, L := E.L }
theorem Env.memo1_ok {E : Env} {f1 : Nat} {t1 : List AV → Option AV} (ok : E.Ok) {d1 : Nat} (h1 : ∀ args v, t1 args = some v → plainW v = true ∧ ∀ h : Heap, ∃ h', callD E d1 f1 args h = some (v, h') ∧ ∀ j, j < h.next → h'.get j = h.get j) : (E.memo1 f1 t1).Ok :=
  ⟨ok.reg, ok.names, ok.clone, fun f g hf call hc => by
    simp only [Env.memo1] at hf
    split at hf
    · rename_i e
      cases hf
      have := Nat.eq_of_beq_eq_true e
      subst this
      exact memo_ok ok h1 call
    · exact ok.ora f g hf call hc⟩
/-- an answer known in one environment serves another one of the same program -/
theorem Env.memoOf_ok {E E0 : Env} {f1 : Nat} {t1 : List AV → Option AV} (ok : E.Ok) (ok0 : E0.Ok) (hP : E0.P = E.P) {d1 : Nat} (h1 : ∀ args v, t1 args = some v → plainW v = true ∧ ∀ h : Heap, ∃ h', callD E0 d1 f1 args h = some (v, h') ∧ ∀ j, j < h.next → h'.get j = h.get j) : (E.memo1 f1 t1).Ok :=
  ⟨ok.reg, ok.names, ok.clone, fun f g hf call hc => by
    simp only [Env.memo1] at hf
    split at hf
    · rename_i e
      cases hf
      have := Nat.eq_of_beq_eq_true e
      subst this
      have := memo_ok ok0 h1 call
      rw [hP] at this
      exact this
    · exact ok.ora f g hf call hc⟩
theorem memo1_call {E : Env} {f1 : Nat} {t1 : List AV → Option AV} {args : List AV} {v : AV} (ht : t1 args = some v) (d : Nat) (h : Heap) : callD (E.memo1 f1 t1) (d + 1) f1 args h = some (v, h) := by
  have : (E.memo1 f1 t1).ora f1 = some (memo t1) := by simp [Env.memo1]
  simp only [callD, this, memo, ht]
/-- an older one is as it was -/
theorem memo1_old {E : Env} {f1 f : Nat} {t1 : List AV → Option AV} {g : CallK → List AV → Heap → Option (AV × Heap)} (hne : Nat.beq f f1 = false) (hf : E.ora f = some g) : (E.memo1 f1 t1).ora f = some g := by
  simp only [Env.memo1, hne, hf]
theorem memo_call {E : Env} {f : Nat} {t : List AV → Option AV} (hf : E.ora f = some (memo t)) {args : List AV} {v : AV} (ht : t args = some v) (d : Nat) (h : Heap) : callD E (d + 1) f args h = some (v, h) := by
  simp only [callD, hf, memo, ht]
end Go.Ai
