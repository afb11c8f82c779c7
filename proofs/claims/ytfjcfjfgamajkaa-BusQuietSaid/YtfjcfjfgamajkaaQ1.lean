/- Of this program, for all inputs: contracts. No condition but those in the theorems. -/
import Derived.Test.YtfjcfjfgamajkaaPC
namespace Go.Proofs.Ytfjcfjfgamajkaa
open Go Go.Ai Go.Aw Go.Proofs
open Nat renaming reduceBEq → uB, reduceEqDiff → uE, reduceLT → uL, reduceAdd → uA, reduceMul → uM, reduceSub → uS, reduceAnd → uN, reduceXor → uX, reduceOr → uO
open Int renaming reduceMod → vR, reduceDiv → vD, reduceLT → vL, reduceLE → vK, reduceEq → vE, reduceAdd → vA, reduceMul → vM, reduceToNat → vT, reduceSub → vS
set_option linter.unusedSimpArgs false
set_option linter.unusedVariables false
set_option maxRecDepth 10000
/-! the plain law: a log done again makes the members the same -/
def rep1 (l : List MS) (t : Ent) : List MS := if t.e ≠ 0 then l else if t.kind = 2 then l.modify t.m.toNat (fun S => (S.write t.i t.x).1) else if t.kind = 3 then l.modify t.m.toNat (fun S => S.flush.1) else l
structure RInv (b : BS) : Prop where
  w : b.wf
  st : b.steps = []
  on : b.off = false
  ms : b.ms = b.log.foldl rep1 [MS.new 4, MS.new 4]
  len : b.ms.length = 2
  n4 : ∀ S ∈ b.ms, S.n = 4
  ok : ∀ t ∈ b.log, t.e = 0 → t.kind = 2 ∨ t.kind = 3 → 0 ≤ t.m ∧ t.m < 2
  lg : b.lgB b.log.length
  cl : b.cell.length ≤ b.log.length + 1
  last : b.last.1 ≤ b.log.length
theorem noahead {b : BS} (h : b.steps = []) : b.ahead = b := by unfold BS.ahead; rw [h]; rfl
theorem RInv.two : RInv (BS.two []) where
  w := BS.two_wf (by show 0 < 4000; omega) (fun _ h => by cases h)
  st := rfl
  on := rfl
  ms := rfl
  len := rfl
  n4 := fun S hS => by
    simp only [BS.two, List.mem_cons, List.not_mem_nil, or_false, or_self] at hS
    subst hS; rfl
  ok := fun t ht => by cases ht
  lg := fun S hS => by
    simp only [BS.two, List.mem_cons, List.not_mem_nil, or_false, or_self] at hS
    subst hS; exact Nat.le_refl _
  cl := Nat.le_refl _
  last := Nat.le_refl _
theorem write_n (S : MS) (i : Int) (s : List Nat) : (S.write i s).1.n = S.n ∧ (S.write i s).1.lg.length ≤ S.lg.length + 1 := by
  unfold MS.write
  split
  · exact ⟨rfl, by simp⟩
  · exact ⟨rfl, by simp⟩
theorem flush_n (S : MS) : S.flush.1.n = S.n ∧ S.flush.1.lg.length ≤ S.lg.length := by
  unfold MS.flush
  split
  · exact ⟨rfl, Nat.zero_le _⟩
  · exact ⟨rfl, Nat.le_refl _⟩
theorem ioR_on {b : BS} (h : b.steps = []) (ho : b.off = false) (t : Ent) (act : BS → Int × List Nat × BS) : b.ioR t act = ({ t with x := (act b).2.1, e := (act b).1 }, { (act b).2.2 with log := b.log ++ [{ t with x := (act b).2.1, e := (act b).1 }] }) := by
  unfold BS.ioR
  rw [noahead h, ho]
  rfl
/-- an act of a member keeps the law -/
theorem RInv.at {b : BS} (I : RInv b) (t : Ent) (am : MS → Int × List Nat × MS) (w' : (b.ioR t (atAct t am)).2.wf)
    (hk : t.kind = 1 ∨ t.kind = 2 ∨ t.kind = 3)
    (h1 : ∀ S ∈ b.ms, (am S).2.2.n = S.n ∧ (am S).2.2.lg.length ≤ S.lg.length + 1)
    (h2 : ∀ S, (am S).1 ≠ 0 → (am S).2.2 = S) (h3 : t.kind = 1 → ∀ S, (am S).2.2 = S)
    (h4 : ∀ S, (am S).1 = 0 → t.kind = 2 → (am S).2.1 = t.x ∧ (am S).2.2 = (S.write t.i t.x).1)
    (h5 : ∀ S, (am S).1 = 0 → t.kind = 3 → (am S).2.2 = S.flush.1) : RInv (b.ioR t (atAct t am)).2 := by
  rw [ioR_on I.st I.on] at w' ⊢
  have len := I.len
  unfold atAct at w' ⊢
  by_cases hm : t.m < 0
  · rw [if_pos hm] at w' ⊢
    refine ⟨w', I.st, I.on, ?_, I.len, I.n4, fun u hu he hk2 => ?_, fun S hS => Nat.le_trans (I.lg S hS) (by simp), Nat.le_trans I.cl (by simp), Nat.le_trans I.last (by simp)⟩
    · simp only [List.foldl_append, ← I.ms, List.foldl_cons, List.foldl_nil, rep1]; rfl
    · rcases List.mem_append.1 hu with q | q
      · exact I.ok u q he hk2
      · simp at q; subst q; exact absurd (show (2 : Int) = 0 from he) (by decide)
  · rw [if_neg hm] at w' ⊢
    cases hS : b.ms[t.m.toNat]? with
    | none =>
      rw [hS] at w'
      refine ⟨w', I.st, I.on, ?_, I.len, I.n4, fun u hu he hk2 => ?_, fun S hS => Nat.le_trans (I.lg S hS) (by simp), Nat.le_trans I.cl (by simp), Nat.le_trans I.last (by simp)⟩
      · simp only [List.foldl_append, ← I.ms, List.foldl_cons, List.foldl_nil, rep1]; rfl
      · rcases List.mem_append.1 hu with q | q
        · exact I.ok u q he hk2
        · simp at q; subst q; exact absurd (show (2 : Int) = 0 from he) (by decide)
    | some S =>
      rw [hS] at w'
      have hlt := (List.getElem?_eq_some_iff.1 hS).1
      obtain ⟨hlt', hSe⟩ := List.getElem?_eq_some_iff.1 hS
      have hSm := List.mem_of_getElem? hS
      refine ⟨w', I.st, I.on, ?_, by show (b.ms.set _ _).length = 2; rw [List.length_set]; exact I.len, fun T hT => ?_, fun u hu he hk2 => ?_, fun T hT => ?_, Nat.le_trans I.cl (by simp), Nat.le_trans I.last (by simp)⟩
      · simp only [List.foldl_append, ← I.ms, List.foldl_cons, List.foldl_nil, rep1]
        have setS : ∀ S', S' = S → b.ms.set t.m.toNat S' = b.ms := by
          rintro S' rfl
          rw [← hSe, List.set_getElem_self]
        have modS : ∀ f : MS → MS, b.ms.modify t.m.toNat f = b.ms.set t.m.toNat (f S) := by
          intro f
          apply List.ext_getElem?
          intro j
          rw [List.getElem?_modify, List.getElem?_set]
          by_cases hj : t.m.toNat = j
          · subst hj; rw [if_pos rfl, if_pos hlt, hS]; simp
          · rw [if_neg hj]; simp [hj]
        by_cases he : (am S).1 = 0
        · rw [if_neg (by simpa using he)]
          rcases hk with hk | hk | hk
          · rw [if_neg (by rw [hk]; decide), if_neg (by rw [hk]; decide)]
            exact setS _ (h3 hk S)
          · obtain ⟨e1, e2⟩ := h4 S he hk
            rw [if_pos hk, modS, e1, e2]
          · rw [if_neg (by rw [hk]; decide), if_pos hk, modS, h5 S he hk]
        · rw [if_pos he]
          exact setS _ (h2 S he)
      · rcases List.mem_or_eq_of_mem_set hT with q | rfl
        · exact I.n4 T q
        · exact (h1 S hSm).1.trans (I.n4 S hSm)
      · rcases List.mem_append.1 hu with q | q
        · exact I.ok u q he hk2
        · simp at q; subst q
          show 0 ≤ t.m ∧ t.m < 2
          omega
      · simp only [List.length_append, List.length_cons, List.length_nil]
        rcases List.mem_or_eq_of_mem_set hT with q | rfl
        · have := I.lg T q; omega
        · have := (h1 S hSm).2
          have := I.lg S hSm
          omega
theorem RInv.over {b : BS} (I : RInv b) (hl : b.log.length < 100) (a : Act) (h1 : a.x.length = 64) (h2 : a.lb.length = 32) : RInv (overR b a).2 ∧ (overR b a).2.log.length ≤ b.log.length + 1 := by
  have hlog : ∀ t act, (act b).2.2.log = b.log → ((b.ioR t act).2).log.length ≤ b.log.length + 1 := fun t act _ => by
    rw [ioR_on I.st I.on]; simp
  have logat : ∀ t am, (b.ioR t (atAct t am)).2.log.length ≤ b.log.length + 1 := fun t am => by rw [ioR_on I.st I.on]; simp
  have hcellwf : ∀ (t : Ent) (act : BS → Int × List Nat × BS), (act b).2.2.ms = b.ms → (act b).2.2.steps = [] → (act b).2.2.off = false → (act b).2.2.cell.length ≤ b.cell.length + 1 → (act b).2.2.last.1 ≤ b.last.1 + 1 → (b.ioR t act).2.wf → t.kind ≠ 2 → t.kind ≠ 3 → RInv (b.ioR t act).2 := by
    intro t act e1 e2 e3 e4 e5 w' k2 k3
    rw [ioR_on I.st I.on] at w' ⊢
    refine ⟨w', e2, e3, ?_, by show (act b).2.2.ms.length = 2; rw [e1]; exact I.len, fun S hS => I.n4 S (by rw [← e1]; exact hS), fun u hu he hk2 => ?_, fun S hS => Nat.le_trans (I.lg S (by rw [← e1]; exact hS)) (by simp), ?_, ?_⟩
    · simp only [List.foldl_append, ← I.ms, List.foldl_cons, List.foldl_nil, rep1, if_neg k2, if_neg k3, e1, ite_self]
    · rcases List.mem_append.1 hu with q | q
      · exact I.ok u q he hk2
      · simp at q; subst q
        rcases hk2 with q | q
        · exact absurd q k2
        · exact absurd q k3
    · show (act b).2.2.cell.length ≤ _
      have := I.cl
      simp; omega
    · show (act b).2.2.last.1 ≤ _
      have := I.last
      simp; omega
  unfold overR
  split
  · refine ⟨I.at _ _ (BS.write_wf I.w _ _ _ h1 (by omega) I.lg (by omega)) (.inr (.inl rfl)) (fun S _ => write_n S _ _) (fun S he => ?_) (fun h => by cases h) (fun S _ _ => ⟨rfl, rfl⟩) (fun S _ h => by cases h), logat _ _⟩
    show (S.write a.i a.x).1 = S
    change (S.write a.i a.x).2 ≠ 0 at he
    unfold MS.write at he ⊢
    split
    · rename_i q; rw [if_pos q] at he; exact absurd rfl he
    · rfl
  split
  · refine ⟨I.at _ _ (BS.flush_wf I.w _ (by omega)) (.inr (.inr rfl)) (fun S _ => ⟨(flush_n S).1, Nat.le_trans (flush_n S).2 (Nat.le_succ _)⟩) (fun S he => ?_) (fun h => by cases h) (fun S _ h => by cases h) (fun S _ _ => rfl), logat _ _⟩
    show S.flush.1 = S
    change S.flush.2 ≠ 0 at he
    unfold MS.flush at he ⊢
    split
    · rename_i q; rw [if_pos q] at he; exact absurd rfl he
    · rfl
  split
  · exact ⟨hcellwf _ _ rfl I.st I.on (Nat.le_succ _) (Nat.le_succ _) (ioR_wf I.w _ rfl _ (pad_len (BS.last_len (BS.ahead_wf I.w))) (BS.ahead_wf I.w) (by omega)) (by decide) (by decide), hlog _ _ rfl⟩
  split
  · have hla : (advAct a.lb b).2.2.last.1 ≤ b.last.1 + 1 := by
      have : (advAct a.lb b).2.2.last.1 = b.last.1 + 1 := by
        show (BS.last { b with cell := b.cell ++ [(b.last.1 + 1, a.lb)] }).1 = _
        generalize b.last.1 + 1 = z
        unfold BS.last
        simp
      omega
    refine ⟨hcellwf _ _ rfl I.st I.on (by simp [advAct]) hla (ioR_wf I.w _ (pad_len h2) _ (pad_len h2) (adv_wf (BS.ahead_wf I.w) (by rw [noahead I.st]; have := I.cl; omega) h2) (by omega)) (show (5 : Int) ≠ 2 by decide) (show (5 : Int) ≠ 3 by decide), hlog _ _ rfl⟩
  split
  · exact ⟨I, Nat.le_succ _⟩
  · exact ⟨I.at _ _ (BS.read_wf I.w _ _ (by omega)) (.inl rfl) (fun S _ => ⟨rfl, Nat.le_succ _⟩) (fun S _ => rfl) (fun _ S => rfl) (fun S _ h => by cases h) (fun S _ h => by cases h), logat _ _⟩
end Go.Proofs.Ytfjcfjfgamajkaa
