/- Of this program, for all inputs: contracts. No condition but those in the theorems. -/
import Derived.Test.YtfjcfjfgamajkaaRB
import Derived.Test.YtfjcfjfgamajkaaQ3
namespace Go.Proofs.Ytfjcfjfgamajkaa
open Go Go.Ai Go.Aw Go.Proofs
open Nat renaming reduceBEq → uB, reduceEqDiff → uE, reduceLT → uL, reduceAdd → uA, reduceMul → uM, reduceSub → uS, reduceAnd → uN, reduceXor → uX, reduceOr → uO
open Int renaming reduceMod → vR, reduceDiv → vD, reduceLT → vL, reduceLE → vK, reduceEq → vE, reduceAdd → vA, reduceMul → vM, reduceToNat → vT, reduceSub → vS
set_option linter.unusedSimpArgs false
set_option linter.unusedVariables false
set_option maxRecDepth 10000
/-! acts over a bus none of whose steps come -/
structure OI (st : List Stp) (b : BS) : Prop where
  w : b.wf
  st : b.steps = st
  len : b.ms.length = 2
  m : ∀ S ∈ b.ms, S.n = 4 ∧ S.marks = []
  lg : b.lgB b.log.length
  cl : b.cell.length ≤ b.log.length + 1
  last : b.last.1 ≤ b.log.length
theorem OI.two {st : List Stp} (h1 : st.length < 4000) (h2 : ∀ s ∈ st, s.data.length = 64) : OI st (BS.two st) where
  w := BS.two_wf h1 h2
  st := rfl
  len := rfl
  m := fun S hS => by
    simp only [BS.two, List.mem_cons, List.not_mem_nil, or_false, or_self] at hS
    subst hS; exact ⟨rfl, rfl⟩
  lg := fun S hS => by
    simp only [BS.two, List.mem_cons, List.not_mem_nil, or_false, or_self] at hS
    subst hS; exact Nat.le_refl _
  cl := Nat.le_refl _
  last := Nat.le_refl _
theorem aheadL_quiet (now : Nat) : ∀ (l : List Stp) (b : BS), (∀ s ∈ l, s.tm ≠ now) → aheadL now l b = b
  | [], b, _ => rfl
  | s :: r, b, h => by
    rw [aheadL, if_neg (h s (by simp))]
    exact aheadL_quiet now r b fun t ht => h t (List.mem_cons_of_mem _ ht)
theorem quiet {b : BS} (h : ∀ s ∈ b.steps, s.tm ≠ b.log.length) : b.ahead = b := aheadL_quiet _ _ _ h
theorem write_mk (S : MS) (i : Int) (s : List Nat) : (S.write i s).1.marks = S.marks := by unfold MS.write; split <;> rfl
theorem flush_mk (S : MS) : S.flush.1.marks = S.marks := by unfold MS.flush; split <;> rfl
theorem ioR_q {b : BS} (hq : b.ahead = b) (ho : b.off = false) (t : Ent) (act : BS → Int × List Nat × BS) : b.ioR t act = ({ t with x := (act b).2.1, e := (act b).1 }, { (act b).2.2 with log := b.log ++ [{ t with x := (act b).2.1, e := (act b).1 }] }) := by
  unfold BS.ioR
  rw [hq, ho]
  rfl
theorem OI.io {st : List Stp} {b : BS} (I : OI st b) (hq : b.ahead = b) (ho : b.off = false) (t : Ent) (act : BS → Int × List Nat × BS) (w' : (b.ioR t act).2.wf) (e1 : (act b).2.2.steps = b.steps) (e2 : (act b).2.2.ms.length = 2) (e3 : ∀ S ∈ (act b).2.2.ms, S.n = 4 ∧ S.marks = [] ∧ S.lg.length ≤ b.log.length + 1) (e4 : (act b).2.2.cell.length ≤ b.cell.length + 1) (e5 : (act b).2.2.last.1 ≤ b.last.1 + 1) (e6 : (act b).2.2.off = false) :
    OI st (b.ioR t act).2 ∧ (b.ioR t act).2.log.length = b.log.length + 1 ∧ (b.ioR t act).2.off = false := by
  rw [ioR_q hq ho] at w' ⊢
  refine ⟨⟨w', e1.trans I.st, e2, fun S hS => ⟨(e3 S hS).1, (e3 S hS).2.1⟩, fun S hS => ?_, ?_, ?_⟩, by simp, e6⟩
  · have := (e3 S hS).2.2
    simp; omega
  · show (act b).2.2.cell.length ≤ _
    have := I.cl
    simp; omega
  · show (act b).2.2.last.1 ≤ _
    have := I.last
    simp; omega
theorem OI.at {st : List Stp} {b : BS} (I : OI st b) (hq : b.ahead = b) (ho : b.off = false) (t : Ent) (am : MS → Int × List Nat × MS) (w' : (b.ioR t (atAct t am)).2.wf) (h1 : ∀ S ∈ b.ms, (am S).2.2.n = S.n ∧ (am S).2.2.marks = S.marks ∧ (am S).2.2.lg.length ≤ S.lg.length + 1) : OI st (b.ioR t (atAct t am)).2 ∧ (b.ioR t (atAct t am)).2.log.length = b.log.length + 1 ∧ (b.ioR t (atAct t am)).2.off = false := by
  have base : ∀ S ∈ b.ms, S.n = 4 ∧ S.marks = [] ∧ S.lg.length ≤ b.log.length + 1 := fun S hS => ⟨(I.m S hS).1, (I.m S hS).2, Nat.le_succ_of_le (I.lg S hS)⟩
  refine I.io hq ho t (atAct t am) w' ?_ ?_ ?_ ?_ ?_ ?_ <;> unfold atAct <;> split
  · rfl
  · split <;> rfl
  · exact I.len
  · split
    · show (b.ms.set _ _).length = 2; rw [List.length_set]; exact I.len
    · exact I.len
  · exact base
  · split
    · rename_i S hS
      have hSm := List.mem_of_getElem? hS
      intro T hT
      rcases List.mem_or_eq_of_mem_set hT with q | rfl
      · exact base T q
      · obtain ⟨q1, q2, q3⟩ := h1 S hSm
        have := I.lg S hSm
        exact ⟨q1.trans (I.m S hSm).1, q2.trans (I.m S hSm).2, by omega⟩
    · exact base
  · exact Nat.le_succ _
  · split <;> exact Nat.le_succ _
  · exact Nat.le_succ _
  · split <;> exact Nat.le_succ _
  · exact ho
  · split <;> exact ho
theorem OI.over {st : List Stp} {b : BS} (I : OI st b) (hq : b.ahead = b) (ho : b.off = false) (hl : b.log.length < 1000) (a : Act) (h1 : a.x.length = 64) (h2 : a.lb.length = 32) :
    OI st (overR b a).2 ∧ (overR b a).2.log.length = b.log.length + (if a.r = 6 then 0 else 1) ∧ (overR b a).2.off = false := by
  have key : ∀ {x : Prop} {c : Nat}, a.r ≠ 6 → (x ∧ c = b.log.length + 1) → (x ∧ c = b.log.length + (if a.r = 6 then 0 else 1)) := fun h6 h => by rw [if_neg h6]; exact h
  unfold overR
  split
  · rename_i hr
    rw [if_neg (by omega)]
    exact I.at hq ho _ _ (BS.write_wf I.w _ _ _ h1 (by omega) I.lg (by omega)) (fun S _ => ⟨(write_n S _ _).1, write_mk S _ _, (write_n S _ _).2⟩)
  split
  · rw [if_neg (by omega)]
    exact I.at hq ho _ _ (BS.flush_wf I.w _ (by omega)) (fun S _ => ⟨(flush_n S).1, flush_mk S, Nat.le_trans (flush_n S).2 (Nat.le_succ _)⟩)
  split
  · rw [if_neg (by omega)]
    exact I.io hq ho _ _ (ioR_wf I.w _ rfl _ (pad_len (BS.last_len (BS.ahead_wf I.w))) (BS.ahead_wf I.w) (by omega)) rfl I.len (fun S hS => ⟨(I.m S hS).1, (I.m S hS).2, Nat.le_succ_of_le (I.lg S hS)⟩) (Nat.le_succ _) (Nat.le_succ _) ho
  split
  · rw [if_neg (by omega)]
    have hla : (advAct a.lb b).2.2.last.1 ≤ b.last.1 + 1 := by
      have : (advAct a.lb b).2.2.last.1 = b.last.1 + 1 := by
        show (BS.last { b with cell := b.cell ++ [(b.last.1 + 1, a.lb)] }).1 = _
        generalize b.last.1 + 1 = z
        unfold BS.last
        simp
      omega
    have hcl : b.ahead.cell.length < 3999 := by rw [hq]; have := I.cl; omega
    exact I.io hq ho _ _ (ioR_wf I.w _ (pad_len h2) _ (pad_len h2) (adv_wf (BS.ahead_wf I.w) hcl h2) (by omega)) rfl I.len (fun S hS => ⟨(I.m S hS).1, (I.m S hS).2, Nat.le_succ_of_le (I.lg S hS)⟩) (by simp [advAct]) hla ho
  split
  · rename_i h6
    exact ⟨I, rfl, ho⟩
  · exact I.at hq ho _ _ (BS.read_wf I.w _ _ (by omega)) (fun S _ => ⟨rfl, rfl, Nat.le_succ _⟩)
/-- how many acts are I/Os -/
def ios (l : List Act) : Nat := (l.filter fun a => decide (a.r ≠ 6)).length
end Go.Proofs.Ytfjcfjfgamajkaa
