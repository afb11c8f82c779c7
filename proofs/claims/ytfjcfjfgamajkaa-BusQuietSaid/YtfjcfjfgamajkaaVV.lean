/- Of this program, for all inputs: contracts. No condition but those in the theorems. -/
import Derived.Test.YtfjcfjfgamajkaaU3
import Derived.Test.YtfjcfjfgamajkaaAwA
import Derived.SizedLaws
namespace Go.Proofs.Ytfjcfjfgamajkaa
open Go Go.Ai Go.Aw Go.Proofs
open Nat renaming reduceBEq → uB, reduceEqDiff → uE, reduceLT → uL, reduceAdd → uA, reduceMul → uM, reduceSub → uS, reduceAnd → uN, reduceXor → uX, reduceOr → uO
open Int renaming reduceMod → vR, reduceDiv → vD, reduceLT → vL, reduceLE → vK, reduceEq → vE, reduceAdd → vA, reduceMul → vM, reduceToNat → vT, reduceSub → vS
set_option linter.unusedSimpArgs false
set_option linter.unusedVariables false
set_option maxRecDepth 10000
theorem StA.len {h : Heap} {v : AV} {l : List Stp} (x : StA h v l) (hx : l = [] → lenE Try.prog 43 v = some (.int .i64 0)) : lenE Try.prog 43 v = some (.int .i64 (l.length : Int)) := by
  rcases x with ⟨rfl, _⟩ | ⟨K, vs, junk, ext, ro, _, ⟨n, rfl⟩ | rfl, _⟩
  · exact hx rfl
  · exact lns43 ..
  · exact lne43 ..
theorem StA.len' {h : Heap} {v : AV} {l : List Stp} (x : StA h v l) : lenE Try.prog 43 v = some (.int .i64 (l.length : Int)) := x.len fun e => by
  rcases x with ⟨_, rfl | ⟨q, o, n, rfl⟩⟩ | ⟨K, vs, junk, ext, ro, h0, _⟩
  · exact lnn43
  · exact lns43 ..
  · exact absurd e h0
theorem StA.okv {h : Heap} {v : AV} {l : List Stp} (x : StA h v l) : Aw.okv v = some v := by
  rcases x with ⟨_, rfl | ⟨q, o, n, rfl⟩⟩ | ⟨K, vs, junk, ext, ro, _, ⟨n, rfl⟩ | rfl, _⟩ <;> rfl
/-- steps made late -/
def Late (l m : List Stp) (q : Nat) : Prop := m.length = l.length ∧ ∀ (i : Nat) (s : Stp), m[i]? = some s → s.data.length = 64 ∧ (∃ t, l[i]? = some t ∧ s.picks = t.picks) ∧ (i < q → s.tm = ((1000 + i : Nat) : Int))
theorem Late.zero {l : List Stp} (h : ∀ s ∈ l, s.data.length = 64) : Late l l 0 := ⟨rfl, fun i s hs => ⟨h s (List.mem_of_getElem? hs), ⟨s, hs, rfl⟩, fun h => by omega⟩⟩
theorem Late.succ {l m : List Stp} {q : Nat} (h : Late l m q) {s : Stp} (hs : m[q]? = some s) : Late l (m.set q { s with tm := ((1000 + q : Nat) : Int) }) (q + 1) := by
  refine ⟨by rw [List.length_set]; exact h.1, fun i t ht => ?_⟩
  have hq := (List.getElem?_eq_some_iff.1 hs).1
  rw [List.getElem?_set] at ht
  by_cases hiq : q = i
  · subst hiq
    rw [if_pos rfl, if_pos hq] at ht
    cases ht
    obtain ⟨a1, a2, _⟩ := h.2 q s hs
    exact ⟨a1, a2, fun _ => rfl⟩
  · rw [if_neg hiq] at ht
    obtain ⟨a1, a2, a3⟩ := h.2 i t ht
    exact ⟨a1, a2, fun hi => a3 (by omega)⟩
theorem zip_setL {α : Type} {β : Type} : ∀ (l : List α) (ws : List β) (k : Nat) (s : α) (u : β), ws[k]? = some u → (l.zip ws).set k (s, u) = (l.set k s).zip ws
  | [], ws, k, s, u, h => by simp
  | a :: l, [], k, s, u, h => by simp at h
  | a :: l, w :: ws, 0, s, u, h => by simp at h; subst h; rfl
  | a :: l, w :: ws, k + 1, s, u, h => by
    simp only [List.zip_cons_cons, List.set_cons_succ]
    rw [zip_setL l ws k s u (by simpa using h)]
/-- members that are as the bus's are -/
structure QI (st : List Stp) (b : BS) (S0 S1 : MS) (n : Nat) : Prop where
  w : b.wf
  st : b.steps = st
  off : b.off = false
  ms : b.ms = [S0, S1]
  m0 : S0.n = 4 ∧ S0.marks = [] ∧ S0.hurt = false ∧ S0.lg.length ≤ n
  m1 : S1.n = 4 ∧ S1.marks = [] ∧ S1.hurt = false ∧ S1.lg.length ≤ n
  lg : b.log.length ≤ n
theorem QI.two {st : List Stp} (h1 : st.length < 4000) (h2 : ∀ s ∈ st, s.data.length = 64) : QI st (BS.two st) (MS.new 4) (MS.new 4) 0 := ⟨BS.two_wf h1 h2, rfl, rfl, rfl, ⟨rfl, rfl, rfl, Nat.le_refl _⟩, ⟨rfl, rfl, rfl, Nat.le_refl _⟩, Nat.le_refl _⟩
theorem write_h (S : MS) (i : Int) (s : List Nat) : (S.write i s).1.hurt = S.hurt := by unfold MS.write; split <;> rfl
theorem flush_h (S : MS) : S.flush.1.hurt = S.hurt := by unfold MS.flush; split <;> rfl
theorem QI.lgB {st : List Stp} {b : BS} {S0 S1 : MS} {n : Nat} (I : QI st b S0 S1 n) : b.lgB n := fun S hS => by
  rw [I.ms] at hS
  simp only [List.mem_cons, List.not_mem_nil, or_false] at hS
  rcases hS with rfl | rfl
  · exact I.m0.2.2.2
  · exact I.m1.2.2.2
theorem QI.mono {st : List Stp} {b : BS} {S0 S1 : MS} {n n' : Nat} (I : QI st b S0 S1 n) (h : n ≤ n') : QI st b S0 S1 n' := ⟨I.w, I.st, I.off, I.ms, ⟨I.m0.1, I.m0.2.1, I.m0.2.2.1, Nat.le_trans I.m0.2.2.2 h⟩, ⟨I.m1.1, I.m1.2.1, I.m1.2.2.1, Nat.le_trans I.m1.2.2.2 h⟩, Nat.le_trans I.lg h⟩
/-- an act of the first member, or of the other one -/
theorem QI.at {st : List Stp} {b : BS} {S0 S1 : MS} {n : Nat} (I : QI st b S0 S1 n) (hq : b.ahead = b) (t : Ent) (am : MS → Int × List Nat × MS) (z : Bool) (hm : t.m = if z then 1 else 0) (w' : (b.ioR t (atAct t am)).2.wf)
    (h1 : ∀ S, (am S).2.2.n = S.n ∧ (am S).2.2.marks = S.marks ∧ (am S).2.2.hurt = S.hurt ∧ (am S).2.2.lg.length ≤ S.lg.length + 1) :
    (b.ioR t (atAct t am)).1.e = (am (if z then S1 else S0)).1 ∧ (b.ioR t (atAct t am)).1.x = (am (if z then S1 else S0)).2.1 ∧ QI st (b.ioR t (atAct t am)).2 (if z then S0 else (am S0).2.2) (if z then (am S1).2.2 else S1) (n + 1) := by
  have e : b.ioR t (atAct t am) = ({ t with x := (am (if z then S1 else S0)).2.1, e := (am (if z then S1 else S0)).1 }, { b with ms := [if z then S0 else (am S0).2.2, if z then (am S1).2.2 else S1], log := b.log ++ [{ t with x := (am (if z then S1 else S0)).2.1, e := (am (if z then S1 else S0)).1 }] }) := by
    rw [ioR_q hq I.off]
    have : atAct t am b = ((am (if z then S1 else S0)).1, (am (if z then S1 else S0)).2.1, { b with ms := [if z then S0 else (am S0).2.2, if z then (am S1).2.2 else S1] }) := by
      unfold atAct
      cases z with
      | false =>
        have hm' : t.m = 0 := hm
        rw [if_neg (by omega), hm', I.ms]
        rfl
      | true =>
        have hm' : t.m = 1 := hm
        rw [if_neg (by omega), hm', I.ms]
        rfl
    rw [this]
  rw [e] at w' ⊢
  refine ⟨rfl, rfl, ⟨w', I.st, I.off, rfl, ?_, ?_, by have := I.lg; simp; omega⟩⟩
  · cases z with
    | false =>
      obtain ⟨a1, a2, a3, a4⟩ := h1 S0
      have := I.m0
      exact ⟨a1.trans this.1, a2.trans this.2.1, a3.trans this.2.2.1, Nat.le_trans a4 (by omega)⟩
    | true => exact ⟨I.m0.1, I.m0.2.1, I.m0.2.2.1, Nat.le_succ_of_le I.m0.2.2.2⟩
  · cases z with
    | true =>
      obtain ⟨a1, a2, a3, a4⟩ := h1 S1
      have := I.m1
      exact ⟨a1.trans this.1, a2.trans this.2.1, a3.trans this.2.2.1, Nat.le_trans a4 (by omega)⟩
    | false => exact ⟨I.m1.1, I.m1.2.1, I.m1.2.2.1, Nat.le_succ_of_le I.m1.2.2.2⟩
end Go.Proofs.Ytfjcfjfgamajkaa
namespace Go.Proofs.Ytfjcfjfgamajkaa
open Go Go.Ai Go.Aw Go.Proofs
open Nat renaming reduceBEq → uB, reduceEqDiff → uE, reduceLT → uL, reduceAdd → uA, reduceMul → uM, reduceSub → uS, reduceAnd → uN, reduceXor → uX, reduceOr → uO
open Int renaming reduceMod → vR, reduceDiv → vD, reduceLT → vL, reduceLE → vK, reduceEq → vE, reduceAdd → vA, reduceMul → vM, reduceToNat → vT, reduceSub → vS
set_option linter.unusedSimpArgs false
set_option linter.unusedVariables false
set_option maxRecDepth 10000
set_option maxHeartbeats 8000000 in
theorem busQuiet_ok (d : Nat) (h : Heap) (a1 : AV) (x1 : List Stp) (h1 : StA h a1 x1) (hsd : ∀ s ∈ x1, s.data.length = 64) (hpk : ∀ s ∈ x1, s.picks.length ≤ 140737488351232) (a2 : AV) (x2 : List Act) (h2 : ActsI h a2 x2) (o2 : ∀ a ∈ x2, a.ok) : G (callD env (d + 13) 5 [a1, a2] h) fun v h' => v = .bool true := by
  generalize hX : (fun (v : AV) (h' : Heap) => v = .bool true) = Q
  have l2 := h2.len
  have hl1 := h1.len'
  have ok1 := h1.okv
  by_cases g1 : 30 < x1.length
  · have d1 : decide ((30 : Int) < (x1.length : Int)) = true := decide_eq_true (by omega)
    rw [callD_run (E := env) [(21, .fl [(10, 0, 1), (12, 0, 1)])] (by kernel_rfl) Try.func5 rfl (by rw [Try.ntmps5]; simp) (by kernel_rfl)]; simp (maxSteps := 2000000) (implicitDefEqProofs := false) (disch := first | omega | (simp only [SD.down, uA, uL] <;> omega) | fail) only [Try.ntmps5, Try.results5, env_P, env_L, lncA, lnoA, hl1, ok1, l2, h2.okv, h2.same, d1, awake_eq, TA.down, TL.down, same_nilslice, resE, oneV, ↓reduceIte, reduceCtorEq, uB, uE, uL, uA, uM, uS, uN, uX, uO, vR, vD, vL, vK, vE, vA, vM, vT, vS]
    subst hX
    exact G.ok rfl
  have d1 : decide ((30 : Int) < (x1.length : Int)) = false := decide_eq_false (by omega)
  by_cases g2 : 60 < x2.length
  · have d2 : decide ((60 : Int) < (x2.length : Int)) = true := decide_eq_true (by omega)
    rw [callD_run (E := env) [(21, .fl [(10, 0, 1), (12, 0, 1)])] (by kernel_rfl) Try.func5 rfl (by rw [Try.ntmps5]; simp) (by kernel_rfl)]; simp (maxSteps := 2000000) (implicitDefEqProofs := false) (disch := first | omega | (simp only [SD.down, uA, uL] <;> omega) | fail) only [Try.ntmps5, Try.results5, env_P, env_L, lncA, lnoA, hl1, ok1, l2, h2.okv, h2.same, d1, d2, awake_eq, TA.down, TL.down, same_nilslice, resE, oneV, ↓reduceIte, reduceCtorEq, uB, uE, uL, uA, uM, uS, uN, uX, uO, vR, vD, vL, vK, vE, vA, vM, vT, vS]
    subst hX
    exact G.ok rfl
  have d2 : decide ((60 : Int) < (x2.length : Int)) = false := decide_eq_false (by omega)
  have app0 : ∃ (v : AV) (h' : Heap), appE Try.prog 43 (.slice h.next 0 0 0) a1 (h.new (.cells [] 0 false)) = some (v, h') ∧ okv v = some v ∧ h.next ≤ h'.next ∧ (∀ j, j < h.next → h'.get j = h.get j) ∧ ((x1 = [] ∧ v = .slice h.next 0 0 0) ∨ ∃ (K : Nat) (vs : List AV), x1 ≠ [] ∧ v = .eslice K 0 0 x1.length ∧ h.next ≤ K ∧ K < h'.next ∧ vs.length = x1.length ∧ h'.get K = some (.cells (stpsC (x1.zip vs)) 70 false) ∧ ∀ (i : Nat) (s : Stp) (u : AV), x1[i]? = some s → vs[i]? = some u → PickA h u s.picks) := by
    rcases h1 with ⟨h0, rfl | ⟨q, o, n, rfl⟩⟩ | ⟨K, vs, junk, ext, ro, h0, hv, h1, h2, h3, h4⟩
    · have ea : appE Try.prog 43 (.slice h.next 0 0 0) .nilslice (h.new (.cells [] 0 false)) = some (.slice h.next 0 0 0, h.new (.cells [] 0 false)) := app_00 el43 _ rfl (fun K => rfl)
      exact ⟨_, _, ea, rfl, by simp (maxSteps := 2000000) (implicitDefEqProofs := false) (disch := first | omega | (simp only [SD.down, uA, uL] <;> omega) | fail) only [TA.down, TL.down, same_nilslice, resE, oneV, ↓reduceIte, reduceCtorEq, uB, uE, uL, uA, uM, uS, uN, uX, uO, vR, vD, vL, vK, vE, vA, vM, vT, vS]; omega, fun j hj => by simp (maxSteps := 2000000) (implicitDefEqProofs := false) (disch := first | omega | (simp only [SD.down, uA, uL] <;> omega) | fail) only [TA.down, TL.down, same_nilslice, resE, oneV, ↓reduceIte, reduceCtorEq, uB, uE, uL, uA, uM, uS, uN, uX, uO, vR, vD, vL, vK, vE, vA, vM, vT, vS], .inl ⟨h0, rfl⟩⟩
    · have ea : appE Try.prog 43 (.slice h.next 0 0 0) (.slice q o 0 n) (h.new (.cells [] 0 false)) = some (.slice h.next 0 0 0, h.new (.cells [] 0 false)) := app_00 el43 _ rfl (fun K => rfl)
      exact ⟨_, _, ea, rfl, by simp (maxSteps := 2000000) (implicitDefEqProofs := false) (disch := first | omega | (simp only [SD.down, uA, uL] <;> omega) | fail) only [TA.down, TL.down, same_nilslice, resE, oneV, ↓reduceIte, reduceCtorEq, uB, uE, uL, uA, uM, uS, uN, uX, uO, vR, vD, vL, vK, vE, vA, vM, vT, vS]; omega, fun j hj => by simp (maxSteps := 2000000) (implicitDefEqProofs := false) (disch := first | omega | (simp only [SD.down, uA, uL] <;> omega) | fail) only [TA.down, TL.down, same_nilslice, resE, oneV, ↓reduceIte, reduceCtorEq, uB, uE, uL, uA, uM, uS, uN, uX, uO, vR, vD, vL, vK, vE, vA, vM, vT, vS], .inl ⟨h0, rfl⟩⟩
    · obtain ⟨m, hm⟩ : ∃ m, x1.length = m + 1 := ⟨x1.length - 1, by have := List.length_pos_iff.2 h0; omega⟩
      have hq' : (h.new (.cells [] 0 false)).get K = some (.cells (stpsC (x1.zip vs) ++ junk) ext ro) := by simp (maxSteps := 2000000) (implicitDefEqProofs := false) (disch := first | omega | (simp only [SD.down, uA, uL] <;> omega) | fail) only [TA.down, TL.down, same_nilslice, resE, oneV, ↓reduceIte, reduceCtorEq, uB, uE, uL, uA, uM, uS, uN, uX, uO, vR, vD, vL, vK, vE, vA, vM, vT, vS]; exact h3
      have hll := stps_len hsd h2
      have hsc : allSc (stpsC (x1.zip vs)) = true := stps_sc fun u hu => by
        obtain ⟨i, hi⟩ := List.mem_iff_getElem?.1 hu
        have hlt := (List.getElem?_eq_some_iff.1 hi).1
        exact (h4 i _ u (List.getElem?_eq_getElem (by omega)) hi).ok.2.1
      have hcut : cutE 0 ((m + 1) * (69 + 1)) (stpsC (x1.zip vs) ++ junk) = some (stpsC (x1.zip vs)) := by
        rw [cutE_of (by rw [List.length_append, hll, hm]; omega), List.drop_zero, List.take_append_of_le_length (by rw [hll, hm]; omega), List.take_of_length_le (by rw [hll, hm]; omega)]
      rcases hv with ⟨n, rfl⟩ | rfl
      · have ea := app_cap (P := Try.prog) (h := h.new (.cells [] 0 false)) (k := h.next) (o := 0) (c := n) (n := m) el43 (by omega) hq' hcut (by rw [hll, hm]) hsc
        rw [← hm] at ea
        exact ⟨_, _, ea, rfl, by simp (maxSteps := 2000000) (implicitDefEqProofs := false) (disch := first | omega | (simp only [SD.down, uA, uL] <;> omega) | fail) only [TA.down, TL.down, same_nilslice, resE, oneV, ↓reduceIte, reduceCtorEq, uB, uE, uL, uA, uM, uS, uN, uX, uO, vR, vD, vL, vK, vE, vA, vM, vT, vS]; omega, fun j hj => by simp (maxSteps := 2000000) (implicitDefEqProofs := false) (disch := first | omega | (simp only [SD.down, uA, uL] <;> omega) | fail) only [TA.down, TL.down, same_nilslice, resE, oneV, ↓reduceIte, reduceCtorEq, uB, uE, uL, uA, uM, uS, uN, uX, uO, vR, vD, vL, vK, vE, vA, vM, vT, vS], .inr ⟨_, vs, h0, rfl, by simp (maxSteps := 2000000) (implicitDefEqProofs := false) (disch := first | omega | (simp only [SD.down, uA, uL] <;> omega) | fail) only [TA.down, TL.down, same_nilslice, resE, oneV, ↓reduceIte, reduceCtorEq, uB, uE, uL, uA, uM, uS, uN, uX, uO, vR, vD, vL, vK, vE, vA, vM, vT, vS]; omega, by simp (maxSteps := 2000000) (implicitDefEqProofs := false) (disch := first | omega | (simp only [SD.down, uA, uL] <;> omega) | fail) only [TA.down, TL.down, same_nilslice, resE, oneV, ↓reduceIte, reduceCtorEq, uB, uE, uL, uA, uM, uS, uN, uX, uO, vR, vD, vL, vK, vE, vA, vM, vT, vS]; omega, h2, by simp (maxSteps := 2000000) (implicitDefEqProofs := false) (disch := first | omega | (simp only [SD.down, uA, uL] <;> omega) | fail) only [TA.down, TL.down, same_nilslice, resE, oneV, ↓reduceIte, reduceCtorEq, uB, uE, uL, uA, uM, uS, uN, uX, uO, vR, vD, vL, vK, vE, vA, vM, vT, vS], h4⟩⟩
      · have ea := app_capE (P := Try.prog) (h := h.new (.cells [] 0 false)) (k := h.next) (o := 0) (i := 0) (n := m) el43 (by omega) hq' hcut (by rw [hll, hm]) hsc
        rw [← hm] at ea
        exact ⟨_, _, ea, rfl, by simp (maxSteps := 2000000) (implicitDefEqProofs := false) (disch := first | omega | (simp only [SD.down, uA, uL] <;> omega) | fail) only [TA.down, TL.down, same_nilslice, resE, oneV, ↓reduceIte, reduceCtorEq, uB, uE, uL, uA, uM, uS, uN, uX, uO, vR, vD, vL, vK, vE, vA, vM, vT, vS]; omega, fun j hj => by simp (maxSteps := 2000000) (implicitDefEqProofs := false) (disch := first | omega | (simp only [SD.down, uA, uL] <;> omega) | fail) only [TA.down, TL.down, same_nilslice, resE, oneV, ↓reduceIte, reduceCtorEq, uB, uE, uL, uA, uM, uS, uN, uX, uO, vR, vD, vL, vK, vE, vA, vM, vT, vS], .inr ⟨_, vs, h0, rfl, by simp (maxSteps := 2000000) (implicitDefEqProofs := false) (disch := first | omega | (simp only [SD.down, uA, uL] <;> omega) | fail) only [TA.down, TL.down, same_nilslice, resE, oneV, ↓reduceIte, reduceCtorEq, uB, uE, uL, uA, uM, uS, uN, uX, uO, vR, vD, vL, vK, vE, vA, vM, vT, vS]; omega, by simp (maxSteps := 2000000) (implicitDefEqProofs := false) (disch := first | omega | (simp only [SD.down, uA, uL] <;> omega) | fail) only [TA.down, TL.down, same_nilslice, resE, oneV, ↓reduceIte, reduceCtorEq, uB, uE, uL, uA, uM, uS, uN, uX, uO, vR, vD, vL, vK, vE, vA, vM, vT, vS]; omega, h2, by simp (maxSteps := 2000000) (implicitDefEqProofs := false) (disch := first | omega | (simp only [SD.down, uA, uL] <;> omega) | fail) only [TA.down, TL.down, same_nilslice, resE, oneV, ↓reduceIte, reduceCtorEq, uB, uE, uL, uA, uM, uS, uN, uX, uO, vR, vD, vL, vK, vE, vA, vM, vT, vS], h4⟩⟩
  obtain ⟨lv, g0, ea, lok, hn0, hf0, hlv⟩ := app0
  have llen : lenE Try.prog 43 lv = some (.int .i64 (x1.length : Int)) := by
    rcases hlv with ⟨e0, rfl⟩ | ⟨K, vs, _, rfl, _⟩
    · rw [e0]; exact lns43 ..
    · exact lne43 ..
  rw [callD_run (E := env) [(21, .fl [(10, 0, 1), (12, 0, 1)])] (by kernel_rfl) Try.func5 rfl (by rw [Try.ntmps5]; simp) (by kernel_rfl)]; simp (maxSteps := 2000000) (implicitDefEqProofs := false) (disch := first | omega | (simp only [SD.down, uA, uL] <;> omega) | fail) only [Try.ntmps5, Try.results5, env_P, env_L, lncA, lnoA, hl1, ok1, l2, h2.okv, h2.same, d1, d2, b043, cls_append, ap43, ea, lok, awake_eq, TA.down, TL.down, same_nilslice, resE, oneV, ↓reduceIte, reduceCtorEq, uB, uE, uL, uA, uM, uS, uN, uX, uO, vR, vD, vL, vK, vE, vA, vM, vT, vS]
  rw [run_loop]
  refine loop_ind (fun j σ hh => ∃ q m, q + j = x1.length ∧ σ 1 = a2 ∧ σ 5 = lv ∧ σ 6 = .int .i64 (q : Int) ∧ Late x1 m q ∧ hh.next = g0.next ∧ (∀ j, j < h.next → hh.get j = h.get j) ∧ ((x1 = [] ∧ lv = .slice h.next 0 0 0) ∨ ∃ (K : Nat) (vs : List AV), x1 ≠ [] ∧ lv = .eslice K 0 0 x1.length ∧ h.next ≤ K ∧ K < g0.next ∧ vs.length = x1.length ∧ hh.get K = some (.cells (stpsC (m.zip vs)) 70 false) ∧ ∀ (i : Nat) (s : Stp) (u : AV), x1[i]? = some s → vs[i]? = some u → PickA h u s.picks)) ?_ ?_ x1.length _ _ _ (by simp; omega) ?_
  · rintro mm σ hh ⟨q, m, hq, s1, s5, s6, hL, hnx, hf, hst⟩
    obtain rfl : q = x1.length := by omega
    simp (maxSteps := 2000000) (implicitDefEqProofs := false) (disch := first | omega | (simp only [SD.down, uA, uL] <;> omega) | fail) only [run_it, s1, s5, s6, llen, lok, env_P, env_L, TA.down, TL.down, same_nilslice, resE, oneV, ↓reduceIte, reduceCtorEq, uB, uE, uL, uA, uM, uS, uN, uX, uO, vR, vD, vL, vK, vE, vA, vM, vT, vS]
    have kh : Keeps h hh := ⟨by omega, hf⟩
    have hmd : ∀ t ∈ m, t.data.length = 64 := fun t ht => by
      obtain ⟨i, hi⟩ := List.mem_iff_getElem?.1 ht
      exact (hL.2 i t hi).1
    have hmp : ∀ t ∈ m, t.picks.length ≤ 140737488351232 := fun t ht => by
      obtain ⟨i, hi⟩ := List.mem_iff_getElem?.1 ht
      obtain ⟨_, ⟨t', ht', e⟩, _⟩ := hL.2 i t hi
      rw [e]; exact hpk t' (List.mem_of_getElem? ht')
    have hmt : ∀ t ∈ m, ∃ i, t.tm = ((1000 + i : Nat) : Int) := fun t ht => by
      obtain ⟨i, hi⟩ := List.mem_iff_getElem?.1 ht
      have := (List.getElem?_eq_some_iff.1 hi).1
      exact ⟨i, (hL.2 i t hi).2.2 (by rw [← hL.1]; exact this)⟩
    have hml : m.length ≤ 30 := by rw [hL.1]; omega
    have stA : StA hh lv m := by
      rcases hst with ⟨e0, rfl⟩ | ⟨K, vs, h0, rfl, y1, y2, y3, y4, y5⟩
      · exact .inl ⟨List.eq_nil_of_length_eq_zero (by rw [hL.1, e0]; rfl), .inr ⟨_, _, _, rfl⟩⟩
      · refine .inr ⟨K, vs, [], 70, false, fun e => h0 (List.eq_nil_of_length_eq_zero (by rw [← hL.1, e]; rfl)), .inr (by rw [hL.1]), by omega, by rw [y3, hL.1], by rw [List.append_nil]; exact y4, fun i s u hs hu => ?_⟩
        obtain ⟨_, ⟨t', ht', e⟩, _⟩ := hL.2 i s hs
        rw [e]
        exact (y5 i t' u ht' hu).keep kh
    first | refine G.call (two_g (d + 4) hh (fun _ => 0) 100 lv m hmd (by omega) hmp stA) ?_ | refine G.callC (two_g (d + 4) hh (fun _ => 0) 100 lv m hmd (by omega) hmp stA) ?_ | refine G.callL (two_g (d + 4) hh (fun _ => 0) 100 lv m hmd (by omega) hmp stA) ?_
    rintro v q1 ⟨β, a, b, cp, C1, rfl, I1, k1, hC1, hD1⟩
    have hn1 := k1.1
    have qui : ∀ bb : BS, bb.steps = m → bb.log.length ≤ 100 → bb.ahead = bb := fun bb hb hlg => quiet fun s hs => by
      rw [hb] at hs
      obtain ⟨i, e⟩ := hmt s hs
      rw [e]; omega
    have stq : ∀ d' bb, bb.steps = m → bb.log.length ≤ 100 → StepOk d' bb 100 β cp [a, b] := fun d' bb hb hlg H C b2 s u Ms hs htm => by
      rw [hb] at hs
      obtain ⟨i, e⟩ := hmt s hs
      rw [e] at htm; omega
    have I1c := I1
    obtain ⟨_, _, _, _, _, _, _, _, _, _, _, jm, _, _, _⟩ := I1c
    have A0 := jm 0 a (MS.new 4) rfl rfl
    have A1 := jm 1 b (MS.new 4) rfl rfl
    clear jm stA hst
    simp (maxSteps := 2000000) (implicitDefEqProofs := false) (disch := first | omega | (simp only [SD.down, uA, uL] <;> omega) | fail) only [s1, s5, s6, env_P, env_L, TA.down, TL.down, same_nilslice, resE, oneV, ↓reduceIte, reduceCtorEq, uB, uE, uL, uA, uM, uS, uN, uX, uO, vR, vD, vL, vK, vE, vA, vM, vT, vS]
    first | refine G.call (m_copy (d + 6) q1 C1 102 202 a (MS.new 4) A0 (MS.new_wf (by omega)) rfl) ?_ | refine G.callC (m_copy (d + 6) q1 C1 102 202 a (MS.new 4) A0 (MS.new_wf (by omega)) rfl) ?_ | refine G.callL (m_copy (d + 6) q1 C1 102 202 a (MS.new 4) A0 (MS.new_wf (by omega)) rfl) ?_
    rintro v q2 ⟨c, rfl, B0, k2⟩
    have hn2 := k2.1
    have A1' := A1.keeps (c' := pnt C1 q1.next 202) k2 (fun j hj hc => (pnt_lt hj).trans hc)
    simp (maxSteps := 2000000) (implicitDefEqProofs := false) (disch := first | omega | (simp only [SD.down, uA, uL] <;> omega) | fail) only [s1, s5, s6, env_P, env_L, TA.down, TL.down, same_nilslice, resE, oneV, ↓reduceIte, reduceCtorEq, uB, uE, uL, uA, uM, uS, uN, uX, uO, vR, vD, vL, vK, vE, vA, vM, vT, vS]
    first | refine G.call (m_copy (d + 6) q2 (pnt C1 q1.next 202) 103 203 b (MS.new 4) A1' (MS.new_wf (by omega)) rfl) ?_ | refine G.callC (m_copy (d + 6) q2 (pnt C1 q1.next 202) 103 203 b (MS.new 4) A1' (MS.new_wf (by omega)) rfl) ?_ | refine G.callL (m_copy (d + 6) q2 (pnt C1 q1.next 202) 103 203 b (MS.new 4) A1' (MS.new_wf (by omega)) rfl) ?_
    rintro v q3 ⟨e, rfl, B1, k3⟩
    have hn3 := k3.1
    simp (maxSteps := 2000000) (implicitDefEqProofs := false) (disch := first | omega | (simp only [SD.down, uA, uL] <;> omega) | fail) only [s1, s5, s6, bs50, env_P, env_L, TA.down, TL.down, same_nilslice, resE, oneV, ↓reduceIte, reduceCtorEq, uB, uE, uL, uA, uM, uS, uN, uX, uO, vR, vD, vL, vK, vE, vA, vM, vT, vS]
    have kp : Keeps q3 (q3.new (Blk.cells [AV.ptr c 0, AV.ptr e 0] 0 false)) := ⟨by simp (maxSteps := 2000000) (implicitDefEqProofs := false) (disch := first | omega | (simp only [SD.down, uA, uL] <;> omega) | fail) only [TA.down, TL.down, same_nilslice, resE, oneV, ↓reduceIte, reduceCtorEq, uB, uE, uL, uA, uM, uS, uN, uX, uO, vR, vD, vL, vK, vE, vA, vM, vT, vS]; omega, fun j hj => by simp (maxSteps := 2000000) (implicitDefEqProofs := false) (disch := first | omega | (simp only [SD.down, uA, uL] <;> omega) | fail) only [TA.down, TL.down, same_nilslice, resE, oneV, ↓reduceIte, reduceCtorEq, uB, uE, uL, uA, uM, uS, uN, uX, uO, vR, vD, vL, vK, vE, vA, vM, vT, vS]⟩
    have gf : (q3.new (Blk.cells [AV.ptr c 0, AV.ptr e 0] 0 false)).get q3.next = some (.cells [AV.ptr c 0, AV.ptr e 0] 0 false) := by simp (maxSteps := 2000000) (implicitDefEqProofs := false) (disch := first | omega | (simp only [SD.down, uA, uL] <;> omega) | fail) only [TA.down, TL.down, same_nilslice, resE, oneV, ↓reduceIte, reduceCtorEq, uB, uE, uL, uA, uM, uS, uN, uX, uO, vR, vD, vL, vK, vE, vA, vM, vT, vS]
    have n4 : (q3.new (Blk.cells [AV.ptr c 0, AV.ptr e 0] 0 false)).next = q3.next + 1 := by simp (maxSteps := 2000000) (implicitDefEqProofs := false) (disch := first | omega | (simp only [SD.down, uA, uL] <;> omega) | fail) only [TA.down, TL.down, same_nilslice, resE, oneV, ↓reduceIte, reduceCtorEq, uB, uE, uL, uA, uM, uS, uN, uX, uO, vR, vD, vL, vK, vE, vA, vM, vT, vS]
    generalize (q3.new (Blk.cells [AV.ptr c 0, AV.ptr e 0] 0 false)) = q4 at kp gf n4 ⊢
    have cc4 : ∀ j, j < q1.next → pnt (pnt (pnt C1 q1.next 202) q2.next 203) q3.next 0 j = C1 j := fun j hj => (pnt_lt (by omega)).trans ((pnt_lt (by omega)).trans (pnt_lt hj))
    have Cf : pnt (pnt (pnt C1 q1.next 202) q2.next 203) q3.next 0 q3.next = 0 := pnt_ge (Nat.le_refl _)
    have I4 : BusI q4 (pnt (pnt (pnt C1 q1.next 202) q2.next 203) q3.next 0) 100 β cp [a, b] (BS.two m) := I1.keeps (show 2 ≤ 64 by omega) ((k2.trans k3).trans kp) cc4
    have B0' : MemI q4 (pnt (pnt (pnt C1 q1.next 202) q2.next 203) q3.next 0) 202 c (MS.new 4) := (B0.keeps k3 (fun j hj hc => (pnt_lt hj).trans hc)).keeps kp (fun j hj hc => (pnt_lt hj).trans hc)
    have B1' : MemI q4 (pnt (pnt (pnt C1 q1.next 202) q2.next 203) q3.next 0) 203 e (MS.new 4) := B1.keeps kp (fun j hj hc => (pnt_lt hj).trans hc)
    have hC4 : ∀ j, j < h.next → pnt (pnt (pnt C1 q1.next 202) q2.next 203) q3.next 0 j = 0 := fun j hj => (cc4 j (by omega)).trans (hC1 j (by omega))
    have hf4 : ∀ j, j < h.next → q4.get j = h.get j := fun j hj => ((((kh.trans k1).trans k2).trans k3).trans kp).2 j hj
    generalize pnt (pnt (pnt C1 q1.next 202) q2.next 203) q3.next 0 = C4 at I4 B0' B1' Cf hC4
    have Q0 : QI m (BS.two m) (MS.new 4) (MS.new 4) 0 := QI.two (by omega) hmd
    clear I1 A0 A1 A1' B0 B1 cc4 hC1 hD1
    have hn4 : h.next ≤ q3.next := by omega
    obtain ⟨f, hfq⟩ : ∃ f, f = q3.next := ⟨_, rfl⟩
    rw [← hfq] at gf Cf n4 hn4 ⊢
    rw [run_loop]
    refine loop_ind (fun j σ q5 => ∃ q C bb S0 S1, q + j = x2.length ∧ σ 1 = a2 ∧ σ 7 = .ptr β 0 ∧ σ 8 = .ptr a 0 ∧ σ 9 = .ptr b 0 ∧ σ 10 = .slice f 0 2 2 ∧ σ 11 = .int .i64 (q : Int) ∧ BusI q5 C 100 β cp [a, b] bb ∧ QI m bb S0 S1 q ∧ S0.wf ∧ S1.wf ∧ MemI q5 C 202 c S0 ∧ MemI q5 C 203 e S1 ∧ f < q5.next ∧ C f = 0 ∧ q5.get f = some (.cells [AV.ptr c 0, AV.ptr e 0] 0 false) ∧ (∀ j, j < h.next → C j = 0) ∧ ∀ j, j < h.next → q5.get j = h.get j) ?_ ?_ x2.length _ _ _ (by simp; omega) ?_
    · rintro mm σ q5 ⟨q, C, bb, S0, S1, hq, t1, t7, t8, t9, t10, t11, I, Qi, w0, w1, D0, D1, hfl, Cfz, gfz, hC, hf5⟩
      obtain rfl : q = x2.length := by omega
      simp (maxSteps := 2000000) (implicitDefEqProofs := false) (disch := first | omega | (simp only [SD.down, uA, uL] <;> omega) | fail) only [run_it, t1, t7, t8, t9, t10, t11, lncA, lnoA, l2, h2.okv, h2.same, env_P, env_L, TA.down, TL.down, same_nilslice, resE, oneV, ↓reduceIte, reduceCtorEq, uB, uE, uL, uA, uM, uS, uN, uX, uO, vR, vD, vL, vK, vE, vA, vM, vT, vS]
      rw [run_loop]
      have Ic := I
      obtain ⟨_, _, _, _, _, _, _, _, _, _, _, jm, _, _, _⟩ := Ic
      have F0 := jm 0 a S0 rfl (by rw [Qi.ms]; rfl)
      have F1 := jm 1 b S1 rfl (by rw [Qi.ms]; rfl)
      clear jm
      have N0 := Qi.m0.1
      have N1 := Qi.m1.1
      refine loop_ind (fun j σ p0 => ∃ k C', k + j = 4 ∧ σ 7 = .ptr β 0 ∧ σ 8 = .ptr a 0 ∧ σ 9 = .ptr b 0 ∧ σ 10 = .slice f 0 2 2 ∧ σ 18 = .int .i64 (k : Int) ∧ BusI p0 C' 100 β cp [a, b] bb ∧ MemI p0 C' 102 a S0 ∧ MemI p0 C' 202 c S0 ∧ MemI p0 C' 103 b S1 ∧ MemI p0 C' 203 e S1 ∧ f < p0.next ∧ p0.get f = some (.cells [AV.ptr c 0, AV.ptr e 0] 0 false)) ?_ ?_ 4 _ _ _ (by simp) ?_
      · rintro mm σ p0 ⟨k, C', hk, t7, t8, t9, t10, t18, J, E0, E1, E2, E3, fl, gz⟩
        obtain rfl : k = 4 := by omega
        have u0 := fun d => m_touched d p0 C' 102 a S0 E0 w0
        have u1 := fun d => m_touched d p0 C' 103 b S1 E2 w1
        have u2 := fun d => bus_off d p0 C' 100 β cp [a, b] bb J
        rw [Qi.m0.2.2.1] at u0
        rw [Qi.m1.2.2.1] at u1
        rw [Qi.off] at u2
        simp (maxSteps := 2000000) (implicitDefEqProofs := false) (disch := first | omega | (simp only [SD.down, uA, uL] <;> omega) | fail) only [run_it, t7, t8, t9, t10, t18, u0, u1, u2, awake_eq, env_P, env_L, TA.down, TL.down, same_nilslice, resE, oneV, ↓reduceIte, reduceCtorEq, uB, uE, uL, uA, uM, uS, uN, uX, uO, vR, vD, vL, vK, vE, vA, vM, vT, vS]
        subst hX
        exact G.ok rfl
      · rintro j mm σ p0 ⟨k, C', hk, t7, t8, t9, t10, t18, J, E0, E1, E2, E3, fl, gz⟩ ih
        have hk4 : k < 4 := by omega
        have hz := zz_len
        have g0 := mGet_len w0.dur (k : Int)
        have g1 := mGet_len w1.dur (k : Int)
        simp (maxSteps := 2000000) (implicitDefEqProofs := false) (disch := first | omega | (simp only [SD.down, uA, uL] <;> omega) | fail) only [run_it, t7, t8, t9, t10, t18, gz, zz_fold, env_P, env_L, TA.down, TL.down, same_nilslice, resE, oneV, ↓reduceIte, reduceCtorEq, uB, uE, uL, uA, uM, uS, uN, uX, uO, vR, vD, vL, vK, vE, vA, vM, vT, vS]
        first | refine G.call (m_look (d + 7) p0 (pnt C' p0.next 0) 102 a S0 (E0.keeps (⟨Nat.le_refl _, fun _ _ => rfl⟩ : Keeps p0 p0) (fun j hj hc => (pnt_lt hj).trans hc)) w0 (k : Int) (by omega) (by omega)) ?_ | refine G.callC (m_look (d + 7) p0 (pnt C' p0.next 0) 102 a S0 (E0.keeps (⟨Nat.le_refl _, fun _ _ => rfl⟩ : Keeps p0 p0) (fun j hj hc => (pnt_lt hj).trans hc)) w0 (k : Int) (by omega) (by omega)) ?_ | refine G.callL (m_look (d + 7) p0 (pnt C' p0.next 0) 102 a S0 (E0.keeps (⟨Nat.le_refl _, fun _ _ => rfl⟩ : Keeps p0 p0) (fun j hj hc => (pnt_lt hj).trans hc)) w0 (k : Int) (by omega) (by omega)) ?_
        rintro v p1 ⟨rfl, kq0⟩
        have kn0 := kq0.1
        replace gz := (kq0.2 _ (by omega)).trans gz
        simp (maxSteps := 2000000) (implicitDefEqProofs := false) (disch := first | omega | (simp only [SD.down, uA, uL] <;> omega) | fail) only [t7, t8, t9, t10, t18, gz, zz_fold, hz, g0, cutB_all, over_B, bin_neq_agg, env_P, env_L, TA.down, TL.down, same_nilslice, resE, oneV, ↓reduceIte, reduceCtorEq, uB, uE, uL, uA, uM, uS, uN, uX, uO, vR, vD, vL, vK, vE, vA, vM, vT, vS]
        have kk1 : Keeps p0 ((p1.new (Blk.cells (B zz) 0 false)).put p1.next (some (Blk.cells (B (mGet S0.dur (k : Int) zz)) 0 false))) := ⟨by simp (maxSteps := 2000000) (implicitDefEqProofs := false) (disch := first | omega | (simp only [SD.down, uA, uL] <;> omega) | fail) only [TA.down, TL.down, same_nilslice, resE, oneV, ↓reduceIte, reduceCtorEq, uB, uE, uL, uA, uM, uS, uN, uX, uO, vR, vD, vL, vK, vE, vA, vM, vT, vS]; omega, fun j hj => by simp (maxSteps := 2000000) (implicitDefEqProofs := false) (disch := first | omega | (simp only [SD.down, uA, uL] <;> omega) | fail) only [TA.down, TL.down, same_nilslice, resE, oneV, ↓reduceIte, reduceCtorEq, uB, uE, uL, uA, uM, uS, uN, uX, uO, vR, vD, vL, vK, vE, vA, vM, vT, vS]; exact kq0.2 j hj⟩
        have f0 : ((p1.new (Blk.cells (B zz) 0 false)).put p1.next (some (Blk.cells (B (mGet S0.dur (k : Int) zz)) 0 false))).get p1.next = some (.cells (B (mGet S0.dur (k : Int) zz)) 0 false) := by simp (maxSteps := 2000000) (implicitDefEqProofs := false) (disch := first | omega | (simp only [SD.down, uA, uL] <;> omega) | fail) only [TA.down, TL.down, same_nilslice, resE, oneV, ↓reduceIte, reduceCtorEq, uB, uE, uL, uA, uM, uS, uN, uX, uO, vR, vD, vL, vK, vE, vA, vM, vT, vS]
        have nx0 : ((p1.new (Blk.cells (B zz) 0 false)).put p1.next (some (Blk.cells (B (mGet S0.dur (k : Int) zz)) 0 false))).next = p1.next + 1 := by simp (maxSteps := 2000000) (implicitDefEqProofs := false) (disch := first | omega | (simp only [SD.down, uA, uL] <;> omega) | fail) only [TA.down, TL.down, same_nilslice, resE, oneV, ↓reduceIte, reduceCtorEq, uB, uE, uL, uA, uM, uS, uN, uX, uO, vR, vD, vL, vK, vE, vA, vM, vT, vS]
        have gz' : ((p1.new (Blk.cells (B zz) 0 false)).put p1.next (some (Blk.cells (B (mGet S0.dur (k : Int) zz)) 0 false))).get f = some (.cells [AV.ptr c 0, AV.ptr e 0] 0 false) := by simp (maxSteps := 2000000) (implicitDefEqProofs := false) (disch := first | omega | (simp only [SD.down, uA, uL] <;> omega) | fail) only [TA.down, TL.down, same_nilslice, resE, oneV, ↓reduceIte, reduceCtorEq, uB, uE, uL, uA, uM, uS, uN, uX, uO, vR, vD, vL, vK, vE, vA, vM, vT, vS]; exact gz
        replace gz := gz'
        clear gz'
        generalize ((p1.new (Blk.cells (B zz) 0 false)).put p1.next (some (Blk.cells (B (mGet S0.dur (k : Int) zz)) 0 false))) = g1h at *
        first | refine G.call (m_look (d + 7) g1h (pnt C' p0.next 0) 202 c S0 (E1.keeps kk1 (fun j hj hc => (pnt_lt hj).trans hc)) w0 (k : Int) (by omega) (by omega)) ?_ | refine G.callC (m_look (d + 7) g1h (pnt C' p0.next 0) 202 c S0 (E1.keeps kk1 (fun j hj hc => (pnt_lt hj).trans hc)) w0 (k : Int) (by omega) (by omega)) ?_ | refine G.callL (m_look (d + 7) g1h (pnt C' p0.next 0) 202 c S0 (E1.keeps kk1 (fun j hj hc => (pnt_lt hj).trans hc)) w0 (k : Int) (by omega) (by omega)) ?_
        rintro v p2 ⟨rfl, kq1⟩
        have kn1 := kq1.1
        replace gz := (kq1.2 _ (by omega)).trans gz
        replace f0 := (kq1.2 _ (by omega)).trans f0
        simp (maxSteps := 2000000) (implicitDefEqProofs := false) (disch := first | omega | (simp only [SD.down, uA, uL] <;> omega) | fail) only [t7, t8, t9, t10, t18, gz, zz_fold, hz, g0, cutB_all, over_B, f0, bin_neq_agg, env_P, env_L, TA.down, TL.down, same_nilslice, resE, oneV, ↓reduceIte, reduceCtorEq, uB, uE, uL, uA, uM, uS, uN, uX, uO, vR, vD, vL, vK, vE, vA, vM, vT, vS]
        have kk2 : Keeps p0 ((p2.new (Blk.cells (B zz) 0 false)).put p2.next (some (Blk.cells (B (mGet S0.dur (k : Int) zz)) 0 false))) := ⟨by simp (maxSteps := 2000000) (implicitDefEqProofs := false) (disch := first | omega | (simp only [SD.down, uA, uL] <;> omega) | fail) only [TA.down, TL.down, same_nilslice, resE, oneV, ↓reduceIte, reduceCtorEq, uB, uE, uL, uA, uM, uS, uN, uX, uO, vR, vD, vL, vK, vE, vA, vM, vT, vS]; omega, fun j hj => by simp (maxSteps := 2000000) (implicitDefEqProofs := false) (disch := first | omega | (simp only [SD.down, uA, uL] <;> omega) | fail) only [TA.down, TL.down, same_nilslice, resE, oneV, ↓reduceIte, reduceCtorEq, uB, uE, uL, uA, uM, uS, uN, uX, uO, vR, vD, vL, vK, vE, vA, vM, vT, vS]; exact (kq1.2 j (by omega)).trans (kk1.2 j hj)⟩
        have f1 : ((p2.new (Blk.cells (B zz) 0 false)).put p2.next (some (Blk.cells (B (mGet S0.dur (k : Int) zz)) 0 false))).get p2.next = some (.cells (B (mGet S0.dur (k : Int) zz)) 0 false) := by simp (maxSteps := 2000000) (implicitDefEqProofs := false) (disch := first | omega | (simp only [SD.down, uA, uL] <;> omega) | fail) only [TA.down, TL.down, same_nilslice, resE, oneV, ↓reduceIte, reduceCtorEq, uB, uE, uL, uA, uM, uS, uN, uX, uO, vR, vD, vL, vK, vE, vA, vM, vT, vS]
        have nx1 : ((p2.new (Blk.cells (B zz) 0 false)).put p2.next (some (Blk.cells (B (mGet S0.dur (k : Int) zz)) 0 false))).next = p2.next + 1 := by simp (maxSteps := 2000000) (implicitDefEqProofs := false) (disch := first | omega | (simp only [SD.down, uA, uL] <;> omega) | fail) only [TA.down, TL.down, same_nilslice, resE, oneV, ↓reduceIte, reduceCtorEq, uB, uE, uL, uA, uM, uS, uN, uX, uO, vR, vD, vL, vK, vE, vA, vM, vT, vS]
        have gz' : ((p2.new (Blk.cells (B zz) 0 false)).put p2.next (some (Blk.cells (B (mGet S0.dur (k : Int) zz)) 0 false))).get f = some (.cells [AV.ptr c 0, AV.ptr e 0] 0 false) := by simp (maxSteps := 2000000) (implicitDefEqProofs := false) (disch := first | omega | (simp only [SD.down, uA, uL] <;> omega) | fail) only [TA.down, TL.down, same_nilslice, resE, oneV, ↓reduceIte, reduceCtorEq, uB, uE, uL, uA, uM, uS, uN, uX, uO, vR, vD, vL, vK, vE, vA, vM, vT, vS]; exact gz
        replace gz := gz'
        clear gz'
        have f0' : ((p2.new (Blk.cells (B zz) 0 false)).put p2.next (some (Blk.cells (B (mGet S0.dur (k : Int) zz)) 0 false))).get p1.next = some (.cells (B (mGet S0.dur (k : Int) zz)) 0 false) := by simp (maxSteps := 2000000) (implicitDefEqProofs := false) (disch := first | omega | (simp only [SD.down, uA, uL] <;> omega) | fail) only [TA.down, TL.down, same_nilslice, resE, oneV, ↓reduceIte, reduceCtorEq, uB, uE, uL, uA, uM, uS, uN, uX, uO, vR, vD, vL, vK, vE, vA, vM, vT, vS]; exact f0
        replace f0 := f0'
        clear f0'
        generalize ((p2.new (Blk.cells (B zz) 0 false)).put p2.next (some (Blk.cells (B (mGet S0.dur (k : Int) zz)) 0 false))) = g2h at *
        first | refine G.call (m_look (d + 7) g2h (pnt C' p0.next 0) 103 b S1 (E2.keeps kk2 (fun j hj hc => (pnt_lt hj).trans hc)) w1 (k : Int) (by omega) (by omega)) ?_ | refine G.callC (m_look (d + 7) g2h (pnt C' p0.next 0) 103 b S1 (E2.keeps kk2 (fun j hj hc => (pnt_lt hj).trans hc)) w1 (k : Int) (by omega) (by omega)) ?_ | refine G.callL (m_look (d + 7) g2h (pnt C' p0.next 0) 103 b S1 (E2.keeps kk2 (fun j hj hc => (pnt_lt hj).trans hc)) w1 (k : Int) (by omega) (by omega)) ?_
        rintro v p3 ⟨rfl, kq2⟩
        have kn2 := kq2.1
        replace gz := (kq2.2 _ (by omega)).trans gz
        replace f0 := (kq2.2 _ (by omega)).trans f0
        replace f1 := (kq2.2 _ (by omega)).trans f1
        simp (maxSteps := 2000000) (implicitDefEqProofs := false) (disch := first | omega | (simp only [SD.down, uA, uL] <;> omega) | fail) only [t7, t8, t9, t10, t18, gz, zz_fold, hz, g1, cutB_all, over_B, f0, f1, bin_neq_agg, env_P, env_L, TA.down, TL.down, same_nilslice, resE, oneV, ↓reduceIte, reduceCtorEq, uB, uE, uL, uA, uM, uS, uN, uX, uO, vR, vD, vL, vK, vE, vA, vM, vT, vS]
        have kk3 : Keeps p0 ((p3.new (Blk.cells (B zz) 0 false)).put p3.next (some (Blk.cells (B (mGet S1.dur (k : Int) zz)) 0 false))) := ⟨by simp (maxSteps := 2000000) (implicitDefEqProofs := false) (disch := first | omega | (simp only [SD.down, uA, uL] <;> omega) | fail) only [TA.down, TL.down, same_nilslice, resE, oneV, ↓reduceIte, reduceCtorEq, uB, uE, uL, uA, uM, uS, uN, uX, uO, vR, vD, vL, vK, vE, vA, vM, vT, vS]; omega, fun j hj => by simp (maxSteps := 2000000) (implicitDefEqProofs := false) (disch := first | omega | (simp only [SD.down, uA, uL] <;> omega) | fail) only [TA.down, TL.down, same_nilslice, resE, oneV, ↓reduceIte, reduceCtorEq, uB, uE, uL, uA, uM, uS, uN, uX, uO, vR, vD, vL, vK, vE, vA, vM, vT, vS]; exact (kq2.2 j (by omega)).trans (kk2.2 j hj)⟩
        have f2 : ((p3.new (Blk.cells (B zz) 0 false)).put p3.next (some (Blk.cells (B (mGet S1.dur (k : Int) zz)) 0 false))).get p3.next = some (.cells (B (mGet S1.dur (k : Int) zz)) 0 false) := by simp (maxSteps := 2000000) (implicitDefEqProofs := false) (disch := first | omega | (simp only [SD.down, uA, uL] <;> omega) | fail) only [TA.down, TL.down, same_nilslice, resE, oneV, ↓reduceIte, reduceCtorEq, uB, uE, uL, uA, uM, uS, uN, uX, uO, vR, vD, vL, vK, vE, vA, vM, vT, vS]
        have nx2 : ((p3.new (Blk.cells (B zz) 0 false)).put p3.next (some (Blk.cells (B (mGet S1.dur (k : Int) zz)) 0 false))).next = p3.next + 1 := by simp (maxSteps := 2000000) (implicitDefEqProofs := false) (disch := first | omega | (simp only [SD.down, uA, uL] <;> omega) | fail) only [TA.down, TL.down, same_nilslice, resE, oneV, ↓reduceIte, reduceCtorEq, uB, uE, uL, uA, uM, uS, uN, uX, uO, vR, vD, vL, vK, vE, vA, vM, vT, vS]
        have gz' : ((p3.new (Blk.cells (B zz) 0 false)).put p3.next (some (Blk.cells (B (mGet S1.dur (k : Int) zz)) 0 false))).get f = some (.cells [AV.ptr c 0, AV.ptr e 0] 0 false) := by simp (maxSteps := 2000000) (implicitDefEqProofs := false) (disch := first | omega | (simp only [SD.down, uA, uL] <;> omega) | fail) only [TA.down, TL.down, same_nilslice, resE, oneV, ↓reduceIte, reduceCtorEq, uB, uE, uL, uA, uM, uS, uN, uX, uO, vR, vD, vL, vK, vE, vA, vM, vT, vS]; exact gz
        replace gz := gz'
        clear gz'
        have f0' : ((p3.new (Blk.cells (B zz) 0 false)).put p3.next (some (Blk.cells (B (mGet S1.dur (k : Int) zz)) 0 false))).get p1.next = some (.cells (B (mGet S0.dur (k : Int) zz)) 0 false) := by simp (maxSteps := 2000000) (implicitDefEqProofs := false) (disch := first | omega | (simp only [SD.down, uA, uL] <;> omega) | fail) only [TA.down, TL.down, same_nilslice, resE, oneV, ↓reduceIte, reduceCtorEq, uB, uE, uL, uA, uM, uS, uN, uX, uO, vR, vD, vL, vK, vE, vA, vM, vT, vS]; exact f0
        replace f0 := f0'
        clear f0'
        have f1' : ((p3.new (Blk.cells (B zz) 0 false)).put p3.next (some (Blk.cells (B (mGet S1.dur (k : Int) zz)) 0 false))).get p2.next = some (.cells (B (mGet S0.dur (k : Int) zz)) 0 false) := by simp (maxSteps := 2000000) (implicitDefEqProofs := false) (disch := first | omega | (simp only [SD.down, uA, uL] <;> omega) | fail) only [TA.down, TL.down, same_nilslice, resE, oneV, ↓reduceIte, reduceCtorEq, uB, uE, uL, uA, uM, uS, uN, uX, uO, vR, vD, vL, vK, vE, vA, vM, vT, vS]; exact f1
        replace f1 := f1'
        clear f1'
        generalize ((p3.new (Blk.cells (B zz) 0 false)).put p3.next (some (Blk.cells (B (mGet S1.dur (k : Int) zz)) 0 false))) = g3h at *
        first | refine G.call (m_look (d + 7) g3h (pnt C' p0.next 0) 203 e S1 (E3.keeps kk3 (fun j hj hc => (pnt_lt hj).trans hc)) w1 (k : Int) (by omega) (by omega)) ?_ | refine G.callC (m_look (d + 7) g3h (pnt C' p0.next 0) 203 e S1 (E3.keeps kk3 (fun j hj hc => (pnt_lt hj).trans hc)) w1 (k : Int) (by omega) (by omega)) ?_ | refine G.callL (m_look (d + 7) g3h (pnt C' p0.next 0) 203 e S1 (E3.keeps kk3 (fun j hj hc => (pnt_lt hj).trans hc)) w1 (k : Int) (by omega) (by omega)) ?_
        rintro v p4 ⟨rfl, kq3⟩
        have kn3 := kq3.1
        replace gz := (kq3.2 _ (by omega)).trans gz
        replace f0 := (kq3.2 _ (by omega)).trans f0
        replace f1 := (kq3.2 _ (by omega)).trans f1
        replace f2 := (kq3.2 _ (by omega)).trans f2
        have eqa : eqlE Try.prog 25 (.agg (B (mGet S0.dur (k : Int) zz))) (.agg (B (mGet S0.dur (k : Int) zz))) = some true := by rw [eq25 _ _ g0 g0, decide_eq_true rfl]
        have eqb : eqlE Try.prog 25 (.agg (B (mGet S1.dur (k : Int) zz))) (.agg (B (mGet S1.dur (k : Int) zz))) = some true := by rw [eq25 _ _ g1 g1, decide_eq_true rfl]
        have hcc : ∀ {x : Nat} (j : Nat), j < p0.next → C' j = x → pnt C' p0.next 0 j = x := fun j hj hc => (pnt_lt hj).trans hc
        have kk4 : Keeps p0 ((p4.new (Blk.cells (B zz) 0 false)).put p4.next (some (Blk.cells (B (mGet S1.dur (k : Int) zz)) 0 false))) := ⟨by simp (maxSteps := 2000000) (implicitDefEqProofs := false) (disch := first | omega | (simp only [SD.down, uA, uL] <;> omega) | fail) only [TA.down, TL.down, same_nilslice, resE, oneV, ↓reduceIte, reduceCtorEq, uB, uE, uL, uA, uM, uS, uN, uX, uO, vR, vD, vL, vK, vE, vA, vM, vT, vS]; omega, fun j hj => by simp (maxSteps := 2000000) (implicitDefEqProofs := false) (disch := first | omega | (simp only [SD.down, uA, uL] <;> omega) | fail) only [TA.down, TL.down, same_nilslice, resE, oneV, ↓reduceIte, reduceCtorEq, uB, uE, uL, uA, uM, uS, uN, uX, uO, vR, vD, vL, vK, vE, vA, vM, vT, vS]; exact (kq3.2 j (by omega)).trans (kk3.2 j hj)⟩
        simp (maxSteps := 2000000) (implicitDefEqProofs := false) (disch := first | omega | (simp only [SD.down, uA, uL] <;> omega) | fail) only [t7, t8, t9, t10, t18, gz, zz_fold, hz, g1, cutB_all, over_B, f0, f1, f2, bin_neq_agg, eqa, eqb, env_P, env_L, TA.down, TL.down, same_nilslice, resE, oneV, ↓reduceIte, reduceCtorEq, uB, uE, uL, uA, uM, uS, uN, uX, uO, vR, vD, vL, vK, vE, vA, vM, vT, vS]
        refine ih _ _ ⟨k + 1, pnt C' p0.next 0, by omega, by simp (maxSteps := 2000000) (implicitDefEqProofs := false) (disch := first | omega | (simp only [SD.down, uA, uL] <;> omega) | fail) only [t7, TA.down, TL.down, same_nilslice, resE, oneV, ↓reduceIte, reduceCtorEq, uB, uE, uL, uA, uM, uS, uN, uX, uO, vR, vD, vL, vK, vE, vA, vM, vT, vS], by simp (maxSteps := 2000000) (implicitDefEqProofs := false) (disch := first | omega | (simp only [SD.down, uA, uL] <;> omega) | fail) only [t8, TA.down, TL.down, same_nilslice, resE, oneV, ↓reduceIte, reduceCtorEq, uB, uE, uL, uA, uM, uS, uN, uX, uO, vR, vD, vL, vK, vE, vA, vM, vT, vS], by simp (maxSteps := 2000000) (implicitDefEqProofs := false) (disch := first | omega | (simp only [SD.down, uA, uL] <;> omega) | fail) only [t9, TA.down, TL.down, same_nilslice, resE, oneV, ↓reduceIte, reduceCtorEq, uB, uE, uL, uA, uM, uS, uN, uX, uO, vR, vD, vL, vK, vE, vA, vM, vT, vS], by simp (maxSteps := 2000000) (implicitDefEqProofs := false) (disch := first | omega | (simp only [SD.down, uA, uL] <;> omega) | fail) only [t10, TA.down, TL.down, same_nilslice, resE, oneV, ↓reduceIte, reduceCtorEq, uB, uE, uL, uA, uM, uS, uN, uX, uO, vR, vD, vL, vK, vE, vA, vM, vT, vS], by simp (maxSteps := 2000000) (implicitDefEqProofs := false) (disch := first | omega | (simp only [SD.down, uA, uL] <;> omega) | fail) only [TA.down, TL.down, same_nilslice, resE, oneV, ↓reduceIte, reduceCtorEq, uB, uE, uL, uA, uM, uS, uN, uX, uO, vR, vD, vL, vK, vE, vA, vM, vT, vS], J.keeps Qi.w.msl kk4 (fun j hj => pnt_lt hj), E0.keeps kk4 hcc, E1.keeps kk4 hcc, E2.keeps kk4 hcc, E3.keeps kk4 hcc, by have := kk4.1; omega, by simp (maxSteps := 2000000) (implicitDefEqProofs := false) (disch := first | omega | (simp only [SD.down, uA, uL] <;> omega) | fail) only [TA.down, TL.down, same_nilslice, resE, oneV, ↓reduceIte, reduceCtorEq, uB, uE, uL, uA, uM, uS, uN, uX, uO, vR, vD, vL, vK, vE, vA, vM, vT, vS]; exact gz⟩
      · exact ⟨0, C, by omega, by simp (maxSteps := 2000000) (implicitDefEqProofs := false) (disch := first | omega | (simp only [SD.down, uA, uL] <;> omega) | fail) only [t7, TA.down, TL.down, same_nilslice, resE, oneV, ↓reduceIte, reduceCtorEq, uB, uE, uL, uA, uM, uS, uN, uX, uO, vR, vD, vL, vK, vE, vA, vM, vT, vS], by simp (maxSteps := 2000000) (implicitDefEqProofs := false) (disch := first | omega | (simp only [SD.down, uA, uL] <;> omega) | fail) only [t8, TA.down, TL.down, same_nilslice, resE, oneV, ↓reduceIte, reduceCtorEq, uB, uE, uL, uA, uM, uS, uN, uX, uO, vR, vD, vL, vK, vE, vA, vM, vT, vS], by simp (maxSteps := 2000000) (implicitDefEqProofs := false) (disch := first | omega | (simp only [SD.down, uA, uL] <;> omega) | fail) only [t9, TA.down, TL.down, same_nilslice, resE, oneV, ↓reduceIte, reduceCtorEq, uB, uE, uL, uA, uM, uS, uN, uX, uO, vR, vD, vL, vK, vE, vA, vM, vT, vS], by simp (maxSteps := 2000000) (implicitDefEqProofs := false) (disch := first | omega | (simp only [SD.down, uA, uL] <;> omega) | fail) only [t10, TA.down, TL.down, same_nilslice, resE, oneV, ↓reduceIte, reduceCtorEq, uB, uE, uL, uA, uM, uS, uN, uX, uO, vR, vD, vL, vK, vE, vA, vM, vT, vS], by simp (maxSteps := 2000000) (implicitDefEqProofs := false) (disch := first | omega | (simp only [SD.down, uA, uL] <;> omega) | fail) only [TA.down, TL.down, same_nilslice, resE, oneV, ↓reduceIte, reduceCtorEq, uB, uE, uL, uA, uM, uS, uN, uX, uO, vR, vD, vL, vK, vE, vA, vM, vT, vS], I, F0, D0, F1, D1, hfl, gfz⟩
    · rintro j mm σ q5 ⟨q, C, bb, S0, S1, hq, t1, t7, t8, t9, t10, t11, I, Qi, w0, w1, D0, D1, hfl, Cfz, gfz, hC, hf5⟩ ih
      have hql : q < x2.length := by omega
      rcases h2 with ⟨e0, _⟩ | ⟨A, cap, ro, rfl, hA, gA⟩
      · rw [e0] at hql; simp at hql
      obtain ⟨x, hx⟩ : ∃ x, x2[q]? = some x := ⟨x2[q]'hql, List.getElem?_eq_getElem hql⟩
      have hxo := o2 x (List.mem_of_getElem? hx)
      have hcut := acts_cut o2 hx
      have gA' := (hf5 A hA).trans gA
      have xl := x.C_len hxo.1 hxo.2
      have xc := x.cut hxo.1 hxo.2
      have xo := x.ov hxo.1 hxo.2
      have xd := x.dat hxo.1 hxo.2
      have azl : actZ.length = 99 := rfl
      have e7 := fun u => bin_and7 (P := Try.prog) (u := u) x.k
      rw [show (x.k % 8).toNat = x.r from rfl] at e7
      have I0n : h.next < q5.next := by omega
      have at1 := x.at1
      by_cases hm1 : x.m < 0
      · have e1 : decide (x.m < 0) = true := decide_eq_true hm1
        simp (maxSteps := 2000000) (implicitDefEqProofs := false) (disch := first | omega | (simp only [SD.down, uA, uL] <;> omega) | fail) only [run_it, t1, t7, t8, t9, t10, t11, gA', hcut, xl, xc, xo, xd, azl, actZ_fold, x.at0, at1, x.at2, e7, gfz, hxo.1, lncA, lnoA, l2, e1, env_P, env_L, TA.down, TL.down, same_nilslice, resE, oneV, ↓reduceIte, reduceCtorEq, uB, uE, uL, uA, uM, uS, uN, uX, uO, vR, vD, vL, vK, vE, vA, vM, vT, vS]
        have kp5 : Keeps q5 ((q5.new (Blk.cells actZ 0 false)).put q5.next (some (Blk.cells x.C 0 false))) := ⟨by simp (maxSteps := 2000000) (implicitDefEqProofs := false) (disch := first | omega | (simp only [SD.down, uA, uL] <;> omega) | fail) only [TA.down, TL.down, same_nilslice, resE, oneV, ↓reduceIte, reduceCtorEq, uB, uE, uL, uA, uM, uS, uN, uX, uO, vR, vD, vL, vK, vE, vA, vM, vT, vS]; omega, fun j hj => by simp (maxSteps := 2000000) (implicitDefEqProofs := false) (disch := first | omega | (simp only [SD.down, uA, uL] <;> omega) | fail) only [TA.down, TL.down, same_nilslice, resE, oneV, ↓reduceIte, reduceCtorEq, uB, uE, uL, uA, uM, uS, uN, uX, uO, vR, vD, vL, vK, vE, vA, vM, vT, vS]⟩
        have n5 : ((q5.new (Blk.cells actZ 0 false)).put q5.next (some (Blk.cells x.C 0 false))).next = q5.next + 1 := by simp (maxSteps := 2000000) (implicitDefEqProofs := false) (disch := first | omega | (simp only [SD.down, uA, uL] <;> omega) | fail) only [TA.down, TL.down, same_nilslice, resE, oneV, ↓reduceIte, reduceCtorEq, uB, uE, uL, uA, uM, uS, uN, uX, uO, vR, vD, vL, vK, vE, vA, vM, vT, vS]
        have gy : ((q5.new (Blk.cells actZ 0 false)).put q5.next (some (Blk.cells x.C 0 false))).get q5.next = some (.cells x.C 0 false) := by simp (maxSteps := 2000000) (implicitDefEqProofs := false) (disch := first | omega | (simp only [SD.down, uA, uL] <;> omega) | fail) only [TA.down, TL.down, same_nilslice, resE, oneV, ↓reduceIte, reduceCtorEq, uB, uE, uL, uA, uM, uS, uN, uX, uO, vR, vD, vL, vK, vE, vA, vM, vT, vS]
        generalize ((q5.new (Blk.cells actZ 0 false)).put q5.next (some (Blk.cells x.C 0 false))) = r0 at kp5 n5 gy ⊢
        have I0 : BusI r0 (pnt C q5.next 0) 100 β cp [a, b] bb := I.keeps Qi.w.msl kp5 (fun j hj => pnt_lt hj)
        have D0' : MemI r0 (pnt C q5.next 0) 202 c S0 := D0.keeps kp5 (fun j hj hc => (pnt_lt hj).trans hc)
        have D1' : MemI r0 (pnt C q5.next 0) 203 e S1 := D1.keeps kp5 (fun j hj hc => (pnt_lt hj).trans hc)
        have hlC : ∀ j, j < h.next → pnt C q5.next 0 j = 0 := fun j hj => (pnt_lt (by have := I0n; omega)).trans (hC j hj)
        have hlf : ∀ j, j < h.next → r0.get j = h.get j := fun j hj => (kp5.2 j (by have := I0n; omega)).trans (hf5 j hj)
        refine ih _ _ ⟨q + 1, pnt C q5.next 0, bb, S0, S1, by omega, by simp (maxSteps := 2000000) (implicitDefEqProofs := false) (disch := first | omega | (simp only [SD.down, uA, uL] <;> omega) | fail) only [t1, TA.down, TL.down, same_nilslice, resE, oneV, ↓reduceIte, reduceCtorEq, uB, uE, uL, uA, uM, uS, uN, uX, uO, vR, vD, vL, vK, vE, vA, vM, vT, vS], by simp (maxSteps := 2000000) (implicitDefEqProofs := false) (disch := first | omega | (simp only [SD.down, uA, uL] <;> omega) | fail) only [t7, TA.down, TL.down, same_nilslice, resE, oneV, ↓reduceIte, reduceCtorEq, uB, uE, uL, uA, uM, uS, uN, uX, uO, vR, vD, vL, vK, vE, vA, vM, vT, vS], by simp (maxSteps := 2000000) (implicitDefEqProofs := false) (disch := first | omega | (simp only [SD.down, uA, uL] <;> omega) | fail) only [t8, TA.down, TL.down, same_nilslice, resE, oneV, ↓reduceIte, reduceCtorEq, uB, uE, uL, uA, uM, uS, uN, uX, uO, vR, vD, vL, vK, vE, vA, vM, vT, vS], by simp (maxSteps := 2000000) (implicitDefEqProofs := false) (disch := first | omega | (simp only [SD.down, uA, uL] <;> omega) | fail) only [t9, TA.down, TL.down, same_nilslice, resE, oneV, ↓reduceIte, reduceCtorEq, uB, uE, uL, uA, uM, uS, uN, uX, uO, vR, vD, vL, vK, vE, vA, vM, vT, vS], by simp (maxSteps := 2000000) (implicitDefEqProofs := false) (disch := first | omega | (simp only [SD.down, uA, uL] <;> omega) | fail) only [t10, TA.down, TL.down, same_nilslice, resE, oneV, ↓reduceIte, reduceCtorEq, uB, uE, uL, uA, uM, uS, uN, uX, uO, vR, vD, vL, vK, vE, vA, vM, vT, vS], by simp (maxSteps := 2000000) (implicitDefEqProofs := false) (disch := first | omega | (simp only [SD.down, uA, uL] <;> omega) | fail) only [TA.down, TL.down, same_nilslice, resE, oneV, ↓reduceIte, reduceCtorEq, uB, uE, uL, uA, uM, uS, uN, uX, uO, vR, vD, vL, vK, vE, vA, vM, vT, vS], I0, Qi.mono (Nat.le_succ _), w0, w1, D0', D1', by omega, (pnt_lt hfl).trans Cfz, (kp5.2 _ hfl).trans gfz, hlC, hlf⟩
      have e1 : decide (x.m < 0) = false := decide_eq_false hm1
      by_cases hm2 : 1 < x.m
      · have e2 : decide (1 < x.m) = true := decide_eq_true hm2
        simp (maxSteps := 2000000) (implicitDefEqProofs := false) (disch := first | omega | (simp only [SD.down, uA, uL] <;> omega) | fail) only [run_it, t1, t7, t8, t9, t10, t11, gA', hcut, xl, xc, xo, xd, azl, actZ_fold, x.at0, at1, x.at2, e7, gfz, hxo.1, lncA, lnoA, l2, e1, e2, env_P, env_L, TA.down, TL.down, same_nilslice, resE, oneV, ↓reduceIte, reduceCtorEq, uB, uE, uL, uA, uM, uS, uN, uX, uO, vR, vD, vL, vK, vE, vA, vM, vT, vS]
        have kp5 : Keeps q5 ((q5.new (Blk.cells actZ 0 false)).put q5.next (some (Blk.cells x.C 0 false))) := ⟨by simp (maxSteps := 2000000) (implicitDefEqProofs := false) (disch := first | omega | (simp only [SD.down, uA, uL] <;> omega) | fail) only [TA.down, TL.down, same_nilslice, resE, oneV, ↓reduceIte, reduceCtorEq, uB, uE, uL, uA, uM, uS, uN, uX, uO, vR, vD, vL, vK, vE, vA, vM, vT, vS]; omega, fun j hj => by simp (maxSteps := 2000000) (implicitDefEqProofs := false) (disch := first | omega | (simp only [SD.down, uA, uL] <;> omega) | fail) only [TA.down, TL.down, same_nilslice, resE, oneV, ↓reduceIte, reduceCtorEq, uB, uE, uL, uA, uM, uS, uN, uX, uO, vR, vD, vL, vK, vE, vA, vM, vT, vS]⟩
        have n5 : ((q5.new (Blk.cells actZ 0 false)).put q5.next (some (Blk.cells x.C 0 false))).next = q5.next + 1 := by simp (maxSteps := 2000000) (implicitDefEqProofs := false) (disch := first | omega | (simp only [SD.down, uA, uL] <;> omega) | fail) only [TA.down, TL.down, same_nilslice, resE, oneV, ↓reduceIte, reduceCtorEq, uB, uE, uL, uA, uM, uS, uN, uX, uO, vR, vD, vL, vK, vE, vA, vM, vT, vS]
        have gy : ((q5.new (Blk.cells actZ 0 false)).put q5.next (some (Blk.cells x.C 0 false))).get q5.next = some (.cells x.C 0 false) := by simp (maxSteps := 2000000) (implicitDefEqProofs := false) (disch := first | omega | (simp only [SD.down, uA, uL] <;> omega) | fail) only [TA.down, TL.down, same_nilslice, resE, oneV, ↓reduceIte, reduceCtorEq, uB, uE, uL, uA, uM, uS, uN, uX, uO, vR, vD, vL, vK, vE, vA, vM, vT, vS]
        generalize ((q5.new (Blk.cells actZ 0 false)).put q5.next (some (Blk.cells x.C 0 false))) = r0 at kp5 n5 gy ⊢
        have I0 : BusI r0 (pnt C q5.next 0) 100 β cp [a, b] bb := I.keeps Qi.w.msl kp5 (fun j hj => pnt_lt hj)
        have D0' : MemI r0 (pnt C q5.next 0) 202 c S0 := D0.keeps kp5 (fun j hj hc => (pnt_lt hj).trans hc)
        have D1' : MemI r0 (pnt C q5.next 0) 203 e S1 := D1.keeps kp5 (fun j hj hc => (pnt_lt hj).trans hc)
        have hlC : ∀ j, j < h.next → pnt C q5.next 0 j = 0 := fun j hj => (pnt_lt (by have := I0n; omega)).trans (hC j hj)
        have hlf : ∀ j, j < h.next → r0.get j = h.get j := fun j hj => (kp5.2 j (by have := I0n; omega)).trans (hf5 j hj)
        refine ih _ _ ⟨q + 1, pnt C q5.next 0, bb, S0, S1, by omega, by simp (maxSteps := 2000000) (implicitDefEqProofs := false) (disch := first | omega | (simp only [SD.down, uA, uL] <;> omega) | fail) only [t1, TA.down, TL.down, same_nilslice, resE, oneV, ↓reduceIte, reduceCtorEq, uB, uE, uL, uA, uM, uS, uN, uX, uO, vR, vD, vL, vK, vE, vA, vM, vT, vS], by simp (maxSteps := 2000000) (implicitDefEqProofs := false) (disch := first | omega | (simp only [SD.down, uA, uL] <;> omega) | fail) only [t7, TA.down, TL.down, same_nilslice, resE, oneV, ↓reduceIte, reduceCtorEq, uB, uE, uL, uA, uM, uS, uN, uX, uO, vR, vD, vL, vK, vE, vA, vM, vT, vS], by simp (maxSteps := 2000000) (implicitDefEqProofs := false) (disch := first | omega | (simp only [SD.down, uA, uL] <;> omega) | fail) only [t8, TA.down, TL.down, same_nilslice, resE, oneV, ↓reduceIte, reduceCtorEq, uB, uE, uL, uA, uM, uS, uN, uX, uO, vR, vD, vL, vK, vE, vA, vM, vT, vS], by simp (maxSteps := 2000000) (implicitDefEqProofs := false) (disch := first | omega | (simp only [SD.down, uA, uL] <;> omega) | fail) only [t9, TA.down, TL.down, same_nilslice, resE, oneV, ↓reduceIte, reduceCtorEq, uB, uE, uL, uA, uM, uS, uN, uX, uO, vR, vD, vL, vK, vE, vA, vM, vT, vS], by simp (maxSteps := 2000000) (implicitDefEqProofs := false) (disch := first | omega | (simp only [SD.down, uA, uL] <;> omega) | fail) only [t10, TA.down, TL.down, same_nilslice, resE, oneV, ↓reduceIte, reduceCtorEq, uB, uE, uL, uA, uM, uS, uN, uX, uO, vR, vD, vL, vK, vE, vA, vM, vT, vS], by simp (maxSteps := 2000000) (implicitDefEqProofs := false) (disch := first | omega | (simp only [SD.down, uA, uL] <;> omega) | fail) only [TA.down, TL.down, same_nilslice, resE, oneV, ↓reduceIte, reduceCtorEq, uB, uE, uL, uA, uM, uS, uN, uX, uO, vR, vD, vL, vK, vE, vA, vM, vT, vS], I0, Qi.mono (Nat.le_succ _), w0, w1, D0', D1', by omega, (pnt_lt hfl).trans Cfz, (kp5.2 _ hfl).trans gfz, hlC, hlf⟩
      rcases (show x.m = 0 ∨ x.m = 1 by omega) with hm | hm
      · rw [hm] at at1
        have hr : x.r < 8 := by unfold Act.r; omega
        match hR : x.r, hr with
        | 0, _ =>
          rw [hR] at e7
          simp (maxSteps := 2000000) (implicitDefEqProofs := false) (disch := first | omega | (simp only [SD.down, uA, uL] <;> omega) | fail) only [run_it, t1, t7, t8, t9, t10, t11, gA', hcut, xl, xc, xo, xd, azl, actZ_fold, x.at0, at1, x.at2, e7, gfz, hxo.1, lncA, lnoA, l2, env_P, env_L, TA.down, TL.down, same_nilslice, resE, oneV, ↓reduceIte, reduceCtorEq, uB, uE, uL, uA, uM, uS, uN, uX, uO, vR, vD, vL, vK, vE, vA, vM, vT, vS]
          have kp5 : Keeps q5 ((q5.new (Blk.cells actZ 0 false)).put q5.next (some (Blk.cells x.C 0 false))) := ⟨by simp (maxSteps := 2000000) (implicitDefEqProofs := false) (disch := first | omega | (simp only [SD.down, uA, uL] <;> omega) | fail) only [TA.down, TL.down, same_nilslice, resE, oneV, ↓reduceIte, reduceCtorEq, uB, uE, uL, uA, uM, uS, uN, uX, uO, vR, vD, vL, vK, vE, vA, vM, vT, vS]; omega, fun j hj => by simp (maxSteps := 2000000) (implicitDefEqProofs := false) (disch := first | omega | (simp only [SD.down, uA, uL] <;> omega) | fail) only [TA.down, TL.down, same_nilslice, resE, oneV, ↓reduceIte, reduceCtorEq, uB, uE, uL, uA, uM, uS, uN, uX, uO, vR, vD, vL, vK, vE, vA, vM, vT, vS]⟩
          have n5 : ((q5.new (Blk.cells actZ 0 false)).put q5.next (some (Blk.cells x.C 0 false))).next = q5.next + 1 := by simp (maxSteps := 2000000) (implicitDefEqProofs := false) (disch := first | omega | (simp only [SD.down, uA, uL] <;> omega) | fail) only [TA.down, TL.down, same_nilslice, resE, oneV, ↓reduceIte, reduceCtorEq, uB, uE, uL, uA, uM, uS, uN, uX, uO, vR, vD, vL, vK, vE, vA, vM, vT, vS]
          have gy : ((q5.new (Blk.cells actZ 0 false)).put q5.next (some (Blk.cells x.C 0 false))).get q5.next = some (.cells x.C 0 false) := by simp (maxSteps := 2000000) (implicitDefEqProofs := false) (disch := first | omega | (simp only [SD.down, uA, uL] <;> omega) | fail) only [TA.down, TL.down, same_nilslice, resE, oneV, ↓reduceIte, reduceCtorEq, uB, uE, uL, uA, uM, uS, uN, uX, uO, vR, vD, vL, vK, vE, vA, vM, vT, vS]
          generalize ((q5.new (Blk.cells actZ 0 false)).put q5.next (some (Blk.cells x.C 0 false))) = r0 at kp5 n5 gy ⊢
          have I0 : BusI r0 (pnt C q5.next 0) 100 β cp [a, b] bb := I.keeps Qi.w.msl kp5 (fun j hj => pnt_lt hj)
          have D0' : MemI r0 (pnt C q5.next 0) 202 c S0 := D0.keeps kp5 (fun j hj hc => (pnt_lt hj).trans hc)
          have D1' : MemI r0 (pnt C q5.next 0) 203 e S1 := D1.keeps kp5 (fun j hj hc => (pnt_lt hj).trans hc)
          have hlC : ∀ j, j < h.next → pnt C q5.next 0 j = 0 := fun j hj => (pnt_lt (by have := I0n; omega)).trans (hC j hj)
          have hlf : ∀ j, j < h.next → r0.get j = h.get j := fun j hj => (kp5.2 j (by have := I0n; omega)).trans (hf5 j hj)
          have lgq := Qi.lg
          first | refine G.call (bus_read (d + 1) r0 (pnt C q5.next 0) 100 β cp [a, b] bb 0 x.i (by omega) I0 Qi.w (stq (d + 2) bb Qi.st (by omega))) ?_ | refine G.callC (bus_read (d + 1) r0 (pnt C q5.next 0) 100 β cp [a, b] bb 0 x.i (by omega) I0 Qi.w (stq (d + 2) bb Qi.st (by omega))) ?_ | refine G.callL (bus_read (d + 1) r0 (pnt C q5.next 0) 100 β cp [a, b] bb 0 x.i (by omega) I0 Qi.w (stq (d + 2) bb Qi.st (by omega))) ?_
          rintro v r1 ⟨C6, rfl, I6, fr6, hC6⟩
          have le6 := fr6.le
          obtain ⟨qe, qx, qq0⟩ := Qi.at (qui bb Qi.st (by omega)) ⟨1, 0, x.i, zz, 0⟩ (amRead ⟨1, 0, x.i, zz, 0⟩) false rfl (BS.read_wf Qi.w 0 x.i (by omega)) (fun S => ⟨rfl, rfl, rfl, Nat.le_succ _⟩)
          have qq : QI m (bb.read 0 x.i).2 S0 S1 (q + 1) := qq0
          have qe' : (bb.read 0 x.i).1.e = (S0.read x.i).2 := qe
          have qx' : (bb.read 0 x.i).1.x = (S0.read x.i).1 := qx
          have rl := MS.read_len w0 x.i
          have hzl := zz_len
          have gy6 : r1.get q5.next = some (.cells x.C 0 false) := (fr6.get _ (by omega) (by rw [pnt_ge (Nat.le_refl _)]; unfold busK; omega)).trans gy
          have T6 : MemI r1 C6 202 c S0 := D0'.fr fr6 (by unfold busK; omega) (fun j hj hc => (hC6 j hj).trans hc)
          have O6 : MemI r1 C6 203 e S1 := D1'.fr fr6 (by unfold busK; omega) (fun j hj hc => (hC6 j hj).trans hc)
          have cy6 : C6 q5.next = 0 := (hC6 _ (by omega)).trans (pnt_ge (Nat.le_refl _))
          have cf6 : C6 f = 0 := (hC6 _ (by omega)).trans ((pnt_lt hfl).trans Cfz)
          have gf6 : r1.get f = some (.cells [AV.ptr c 0, AV.ptr e 0] 0 false) := (fr6.get _ (by omega) (by rw [pnt_lt hfl, Cfz]; unfold busK; omega)).trans ((kp5.2 _ hfl).trans gfz)
          have hC6' : ∀ j, j < h.next → C6 j = 0 := fun j hj => (hC6 j (by have := I0n; omega)).trans (hlC j hj)
          have hf6 : ∀ j, j < h.next → r1.get j = h.get j := fun j hj => (fr6.get j (by have := I0n; omega) (by rw [hlC j hj]; unfold busK; omega)).trans (hlf j hj)
          rw [qe', qx']
          simp (maxSteps := 2000000) (implicitDefEqProofs := false) (disch := first | omega | (simp only [SD.down, uA, uL] <;> omega) | fail) only [t1, t7, t8, t9, t10, t11, gy, gy6, xl, xc, xd, hxo.1, at1, x.at2, rl, hzl, zz_fold, cutB_all, over_B, same_int, env_P, env_L, TA.down, TL.down, same_nilslice, resE, oneV, ↓reduceIte, reduceCtorEq, uB, uE, uL, uA, uM, uS, uN, uX, uO, vR, vD, vL, vK, vE, vA, vM, vT, vS]
          have kp6 : Keeps r1 ((r1.new (Blk.cells (B zz) 0 false)).put r1.next (some (Blk.cells (B (S0.read x.i).1) 0 false))) := ⟨by simp (maxSteps := 2000000) (implicitDefEqProofs := false) (disch := first | omega | (simp only [SD.down, uA, uL] <;> omega) | fail) only [TA.down, TL.down, same_nilslice, resE, oneV, ↓reduceIte, reduceCtorEq, uB, uE, uL, uA, uM, uS, uN, uX, uO, vR, vD, vL, vK, vE, vA, vM, vT, vS]; omega, fun j hj => by simp (maxSteps := 2000000) (implicitDefEqProofs := false) (disch := first | omega | (simp only [SD.down, uA, uL] <;> omega) | fail) only [TA.down, TL.down, same_nilslice, resE, oneV, ↓reduceIte, reduceCtorEq, uB, uE, uL, uA, uM, uS, uN, uX, uO, vR, vD, vL, vK, vE, vA, vM, vT, vS]⟩
          have n6 : ((r1.new (Blk.cells (B zz) 0 false)).put r1.next (some (Blk.cells (B (S0.read x.i).1) 0 false))).next = r1.next + 1 := by simp (maxSteps := 2000000) (implicitDefEqProofs := false) (disch := first | omega | (simp only [SD.down, uA, uL] <;> omega) | fail) only [TA.down, TL.down, same_nilslice, resE, oneV, ↓reduceIte, reduceCtorEq, uB, uE, uL, uA, uM, uS, uN, uX, uO, vR, vD, vL, vK, vE, vA, vM, vT, vS]
          have gs : ((r1.new (Blk.cells (B zz) 0 false)).put r1.next (some (Blk.cells (B (S0.read x.i).1) 0 false))).get r1.next = some (.cells (B (S0.read x.i).1) 0 false) := by simp (maxSteps := 2000000) (implicitDefEqProofs := false) (disch := first | omega | (simp only [SD.down, uA, uL] <;> omega) | fail) only [TA.down, TL.down, same_nilslice, resE, oneV, ↓reduceIte, reduceCtorEq, uB, uE, uL, uA, uM, uS, uN, uX, uO, vR, vD, vL, vK, vE, vA, vM, vT, vS]
          generalize ((r1.new (Blk.cells (B zz) 0 false)).put r1.next (some (Blk.cells (B (S0.read x.i).1) 0 false))) = r2 at kp6 n6 gs ⊢
          first | refine G.call (m_read (d + 7) r2 (pnt C6 r1.next 0) 202 c S0 (T6.keeps kp6 (fun j hj hc => (pnt_lt hj).trans hc)) w0 x.i) ?_ | refine G.callC (m_read (d + 7) r2 (pnt C6 r1.next 0) 202 c S0 (T6.keeps kp6 (fun j hj hc => (pnt_lt hj).trans hc)) w0 x.i) ?_ | refine G.callL (m_read (d + 7) r2 (pnt C6 r1.next 0) 202 c S0 (T6.keeps kp6 (fun j hj hc => (pnt_lt hj).trans hc)) w0 x.i) ?_
          rintro v r3 ⟨rfl, kp7⟩
          have le7 := kp7.1
          have gs7 := (kp7.2 _ (by omega)).trans gs
          have eqs : eqlE Try.prog 25 (.agg (B (S0.read x.i).1)) (.agg (B (S0.read x.i).1)) = some true := by rw [eq25 _ _ rl rl, decide_eq_true rfl]
          have hd : decide ((S0.read x.i).2 = (S0.read x.i).2) = true := decide_eq_true rfl
          simp (maxSteps := 2000000) (implicitDefEqProofs := false) (disch := first | omega | (simp only [SD.down, uA, uL] <;> omega) | fail) only [t1, t7, t8, t9, t10, t11, gs7, eqs, bin_neq_agg, hd, rl, hzl, zz_fold, cutB_all, over_B, same_int, env_P, env_L, TA.down, TL.down, same_nilslice, resE, oneV, ↓reduceIte, reduceCtorEq, uB, uE, uL, uA, uM, uS, uN, uX, uO, vR, vD, vL, vK, vE, vA, vM, vT, vS]
          have kp8 : Keeps r1 ((r3.new (Blk.cells (B zz) 0 false)).put r3.next (some (Blk.cells (B (S0.read x.i).1) 0 false))) := ⟨by simp (maxSteps := 2000000) (implicitDefEqProofs := false) (disch := first | omega | (simp only [SD.down, uA, uL] <;> omega) | fail) only [TA.down, TL.down, same_nilslice, resE, oneV, ↓reduceIte, reduceCtorEq, uB, uE, uL, uA, uM, uS, uN, uX, uO, vR, vD, vL, vK, vE, vA, vM, vT, vS]; omega, fun j hj => by simp (maxSteps := 2000000) (implicitDefEqProofs := false) (disch := first | omega | (simp only [SD.down, uA, uL] <;> omega) | fail) only [TA.down, TL.down, same_nilslice, resE, oneV, ↓reduceIte, reduceCtorEq, uB, uE, uL, uA, uM, uS, uN, uX, uO, vR, vD, vL, vK, vE, vA, vM, vT, vS]; exact (kp7.2 j (by omega)).trans (kp6.2 j hj)⟩
          have n8 : ((r3.new (Blk.cells (B zz) 0 false)).put r3.next (some (Blk.cells (B (S0.read x.i).1) 0 false))).next = r3.next + 1 := by simp (maxSteps := 2000000) (implicitDefEqProofs := false) (disch := first | omega | (simp only [SD.down, uA, uL] <;> omega) | fail) only [TA.down, TL.down, same_nilslice, resE, oneV, ↓reduceIte, reduceCtorEq, uB, uE, uL, uA, uM, uS, uN, uX, uO, vR, vD, vL, vK, vE, vA, vM, vT, vS]
          generalize ((r3.new (Blk.cells (B zz) 0 false)).put r3.next (some (Blk.cells (B (S0.read x.i).1) 0 false))) = r4 at kp8 n8 ⊢
          refine ih _ _ ⟨q + 1, pnt C6 r1.next 0, _, S0, S1, by omega, by simp (maxSteps := 2000000) (implicitDefEqProofs := false) (disch := first | omega | (simp only [SD.down, uA, uL] <;> omega) | fail) only [t1, TA.down, TL.down, same_nilslice, resE, oneV, ↓reduceIte, reduceCtorEq, uB, uE, uL, uA, uM, uS, uN, uX, uO, vR, vD, vL, vK, vE, vA, vM, vT, vS], by simp (maxSteps := 2000000) (implicitDefEqProofs := false) (disch := first | omega | (simp only [SD.down, uA, uL] <;> omega) | fail) only [t7, TA.down, TL.down, same_nilslice, resE, oneV, ↓reduceIte, reduceCtorEq, uB, uE, uL, uA, uM, uS, uN, uX, uO, vR, vD, vL, vK, vE, vA, vM, vT, vS], by simp (maxSteps := 2000000) (implicitDefEqProofs := false) (disch := first | omega | (simp only [SD.down, uA, uL] <;> omega) | fail) only [t8, TA.down, TL.down, same_nilslice, resE, oneV, ↓reduceIte, reduceCtorEq, uB, uE, uL, uA, uM, uS, uN, uX, uO, vR, vD, vL, vK, vE, vA, vM, vT, vS], by simp (maxSteps := 2000000) (implicitDefEqProofs := false) (disch := first | omega | (simp only [SD.down, uA, uL] <;> omega) | fail) only [t9, TA.down, TL.down, same_nilslice, resE, oneV, ↓reduceIte, reduceCtorEq, uB, uE, uL, uA, uM, uS, uN, uX, uO, vR, vD, vL, vK, vE, vA, vM, vT, vS], by simp (maxSteps := 2000000) (implicitDefEqProofs := false) (disch := first | omega | (simp only [SD.down, uA, uL] <;> omega) | fail) only [t10, TA.down, TL.down, same_nilslice, resE, oneV, ↓reduceIte, reduceCtorEq, uB, uE, uL, uA, uM, uS, uN, uX, uO, vR, vD, vL, vK, vE, vA, vM, vT, vS], by simp (maxSteps := 2000000) (implicitDefEqProofs := false) (disch := first | omega | (simp only [SD.down, uA, uL] <;> omega) | fail) only [TA.down, TL.down, same_nilslice, resE, oneV, ↓reduceIte, reduceCtorEq, uB, uE, uL, uA, uM, uS, uN, uX, uO, vR, vD, vL, vK, vE, vA, vM, vT, vS], I6.keeps qq.w.msl kp8 (fun j hj => pnt_lt hj), qq, w0, w1, T6.keeps kp8 (fun j hj hc => (pnt_lt hj).trans hc), O6.keeps kp8 (fun j hj hc => (pnt_lt hj).trans hc), by omega, (pnt_lt (by omega)).trans cf6, (kp8.2 _ (by omega)).trans gf6, fun j hj => (pnt_lt (by have := I0n; omega)).trans (hC6' j hj), fun j hj => (kp8.2 j (by have := I0n; omega)).trans (hf6 j hj)⟩
        | 1, _ =>
          rw [hR] at e7
          simp (maxSteps := 2000000) (implicitDefEqProofs := false) (disch := first | omega | (simp only [SD.down, uA, uL] <;> omega) | fail) only [run_it, t1, t7, t8, t9, t10, t11, gA', hcut, xl, xc, xo, xd, azl, actZ_fold, x.at0, at1, x.at2, e7, gfz, hxo.1, lncA, lnoA, l2, env_P, env_L, TA.down, TL.down, same_nilslice, resE, oneV, ↓reduceIte, reduceCtorEq, uB, uE, uL, uA, uM, uS, uN, uX, uO, vR, vD, vL, vK, vE, vA, vM, vT, vS]
          have kp5 : Keeps q5 ((q5.new (Blk.cells actZ 0 false)).put q5.next (some (Blk.cells x.C 0 false))) := ⟨by simp (maxSteps := 2000000) (implicitDefEqProofs := false) (disch := first | omega | (simp only [SD.down, uA, uL] <;> omega) | fail) only [TA.down, TL.down, same_nilslice, resE, oneV, ↓reduceIte, reduceCtorEq, uB, uE, uL, uA, uM, uS, uN, uX, uO, vR, vD, vL, vK, vE, vA, vM, vT, vS]; omega, fun j hj => by simp (maxSteps := 2000000) (implicitDefEqProofs := false) (disch := first | omega | (simp only [SD.down, uA, uL] <;> omega) | fail) only [TA.down, TL.down, same_nilslice, resE, oneV, ↓reduceIte, reduceCtorEq, uB, uE, uL, uA, uM, uS, uN, uX, uO, vR, vD, vL, vK, vE, vA, vM, vT, vS]⟩
          have n5 : ((q5.new (Blk.cells actZ 0 false)).put q5.next (some (Blk.cells x.C 0 false))).next = q5.next + 1 := by simp (maxSteps := 2000000) (implicitDefEqProofs := false) (disch := first | omega | (simp only [SD.down, uA, uL] <;> omega) | fail) only [TA.down, TL.down, same_nilslice, resE, oneV, ↓reduceIte, reduceCtorEq, uB, uE, uL, uA, uM, uS, uN, uX, uO, vR, vD, vL, vK, vE, vA, vM, vT, vS]
          have gy : ((q5.new (Blk.cells actZ 0 false)).put q5.next (some (Blk.cells x.C 0 false))).get q5.next = some (.cells x.C 0 false) := by simp (maxSteps := 2000000) (implicitDefEqProofs := false) (disch := first | omega | (simp only [SD.down, uA, uL] <;> omega) | fail) only [TA.down, TL.down, same_nilslice, resE, oneV, ↓reduceIte, reduceCtorEq, uB, uE, uL, uA, uM, uS, uN, uX, uO, vR, vD, vL, vK, vE, vA, vM, vT, vS]
          generalize ((q5.new (Blk.cells actZ 0 false)).put q5.next (some (Blk.cells x.C 0 false))) = r0 at kp5 n5 gy ⊢
          have I0 : BusI r0 (pnt C q5.next 0) 100 β cp [a, b] bb := I.keeps Qi.w.msl kp5 (fun j hj => pnt_lt hj)
          have D0' : MemI r0 (pnt C q5.next 0) 202 c S0 := D0.keeps kp5 (fun j hj hc => (pnt_lt hj).trans hc)
          have D1' : MemI r0 (pnt C q5.next 0) 203 e S1 := D1.keeps kp5 (fun j hj hc => (pnt_lt hj).trans hc)
          have hlC : ∀ j, j < h.next → pnt C q5.next 0 j = 0 := fun j hj => (pnt_lt (by have := I0n; omega)).trans (hC j hj)
          have hlf : ∀ j, j < h.next → r0.get j = h.get j := fun j hj => (kp5.2 j (by have := I0n; omega)).trans (hf5 j hj)
          have lgq := Qi.lg
          first | refine G.call (bus_write (d + 1) r0 (pnt C q5.next 0) 100 β cp [a, b] bb 0 x.i x.x hxo.1 (by omega) I0 Qi.w Qi.lgB (by omega) (stq (d + 2) bb Qi.st (by omega))) ?_ | refine G.callC (bus_write (d + 1) r0 (pnt C q5.next 0) 100 β cp [a, b] bb 0 x.i x.x hxo.1 (by omega) I0 Qi.w Qi.lgB (by omega) (stq (d + 2) bb Qi.st (by omega))) ?_ | refine G.callL (bus_write (d + 1) r0 (pnt C q5.next 0) 100 β cp [a, b] bb 0 x.i x.x hxo.1 (by omega) I0 Qi.w Qi.lgB (by omega) (stq (d + 2) bb Qi.st (by omega))) ?_
          rintro v r1 ⟨C6, rfl, I6, fr6, hC6⟩
          have le6 := fr6.le
          obtain ⟨qe, _, qq0⟩ := Qi.at (qui bb Qi.st (by omega)) ⟨2, 0, x.i, x.x, 0⟩ (amWrite ⟨2, 0, x.i, x.x, 0⟩) false rfl (BS.write_wf Qi.w 0 x.i x.x hxo.1 (by omega) Qi.lgB (by omega)) (fun S => ⟨(write_n S _ _).1, write_mk S _ _, write_h S _ _, (write_n S _ _).2⟩)
          have qq : QI m (bb.write 0 x.i x.x).2 (S0.write x.i x.x).1 S1 (q + 1) := qq0
          have qe' : (bb.write 0 x.i x.x).1.e = (S0.write x.i x.x).2 := qe
          have gy6 : r1.get q5.next = some (.cells x.C 0 false) := (fr6.get _ (by omega) (by rw [pnt_ge (Nat.le_refl _)]; unfold busK; omega)).trans gy
          have T6 : MemI r1 C6 202 c S0 := D0'.fr fr6 (by unfold busK; omega) (fun j hj hc => (hC6 j hj).trans hc)
          have O6 : MemI r1 C6 203 e S1 := D1'.fr fr6 (by unfold busK; omega) (fun j hj hc => (hC6 j hj).trans hc)
          have cy6 : C6 q5.next = 0 := (hC6 _ (by omega)).trans (pnt_ge (Nat.le_refl _))
          have cf6 : C6 f = 0 := (hC6 _ (by omega)).trans ((pnt_lt hfl).trans Cfz)
          have gf6 : r1.get f = some (.cells [AV.ptr c 0, AV.ptr e 0] 0 false) := (fr6.get _ (by omega) (by rw [pnt_lt hfl, Cfz]; unfold busK; omega)).trans ((kp5.2 _ hfl).trans gfz)
          have hC6' : ∀ j, j < h.next → C6 j = 0 := fun j hj => (hC6 j (by have := I0n; omega)).trans (hlC j hj)
          have hf6 : ∀ j, j < h.next → r1.get j = h.get j := fun j hj => (fr6.get j (by have := I0n; omega) (by rw [hlC j hj]; unfold busK; omega)).trans (hlf j hj)
          simp (maxSteps := 2000000) (implicitDefEqProofs := false) (disch := first | omega | (simp only [SD.down, uA, uL] <;> omega) | fail) only [t1, t7, t8, t9, t10, t11, gy, gy6, xl, xc, xd, hxo.1, at1, x.at2, same_int, env_P, env_L, TA.down, TL.down, same_nilslice, resE, oneV, ↓reduceIte, reduceCtorEq, uB, uE, uL, uA, uM, uS, uN, uX, uO, vR, vD, vL, vK, vE, vA, vM, vT, vS]
          first | refine G.call (m_write (d + 7) r1 C6 202 c S0 T6 w0 x.i x.x hxo.1) ?_ | refine G.callC (m_write (d + 7) r1 C6 202 c S0 T6 w0 x.i x.x hxo.1) ?_ | refine G.callL (m_write (d + 7) r1 C6 202 c S0 T6 w0 x.i x.x hxo.1) ?_
          rintro v r2 ⟨rfl, N, fr7⟩
          have le7 := fr7.le
          have gy7 : r2.get q5.next = some (.cells x.C 0 false) := (fr7.get _ (by omega) (by rw [cy6]; omega)).trans gy6
          have hd : decide ((bb.write 0 x.i x.x).1.e = (S0.write x.i x.x).2) = true := decide_eq_true qe'
          simp (maxSteps := 2000000) (implicitDefEqProofs := false) (disch := first | omega | (simp only [SD.down, uA, uL] <;> omega) | fail) only [t1, t7, t8, t9, t10, t11, gy, gy6, gy7, hd, xl, xc, xd, hxo.1, at1, x.at2, same_int, same_B, env_P, env_L, TA.down, TL.down, same_nilslice, resE, oneV, ↓reduceIte, reduceCtorEq, uB, uE, uL, uA, uM, uS, uN, uX, uO, vR, vD, vL, vK, vE, vA, vM, vT, vS]
          refine ih _ _ ⟨q + 1, pnt C6 r1.next 202, _, (S0.write x.i x.x).1, S1, by omega, by simp (maxSteps := 2000000) (implicitDefEqProofs := false) (disch := first | omega | (simp only [SD.down, uA, uL] <;> omega) | fail) only [t1, TA.down, TL.down, same_nilslice, resE, oneV, ↓reduceIte, reduceCtorEq, uB, uE, uL, uA, uM, uS, uN, uX, uO, vR, vD, vL, vK, vE, vA, vM, vT, vS], by simp (maxSteps := 2000000) (implicitDefEqProofs := false) (disch := first | omega | (simp only [SD.down, uA, uL] <;> omega) | fail) only [t7, TA.down, TL.down, same_nilslice, resE, oneV, ↓reduceIte, reduceCtorEq, uB, uE, uL, uA, uM, uS, uN, uX, uO, vR, vD, vL, vK, vE, vA, vM, vT, vS], by simp (maxSteps := 2000000) (implicitDefEqProofs := false) (disch := first | omega | (simp only [SD.down, uA, uL] <;> omega) | fail) only [t8, TA.down, TL.down, same_nilslice, resE, oneV, ↓reduceIte, reduceCtorEq, uB, uE, uL, uA, uM, uS, uN, uX, uO, vR, vD, vL, vK, vE, vA, vM, vT, vS], by simp (maxSteps := 2000000) (implicitDefEqProofs := false) (disch := first | omega | (simp only [SD.down, uA, uL] <;> omega) | fail) only [t9, TA.down, TL.down, same_nilslice, resE, oneV, ↓reduceIte, reduceCtorEq, uB, uE, uL, uA, uM, uS, uN, uX, uO, vR, vD, vL, vK, vE, vA, vM, vT, vS], by simp (maxSteps := 2000000) (implicitDefEqProofs := false) (disch := first | omega | (simp only [SD.down, uA, uL] <;> omega) | fail) only [t10, TA.down, TL.down, same_nilslice, resE, oneV, ↓reduceIte, reduceCtorEq, uB, uE, uL, uA, uM, uS, uN, uX, uO, vR, vD, vL, vK, vE, vA, vM, vT, vS], by simp (maxSteps := 2000000) (implicitDefEqProofs := false) (disch := first | omega | (simp only [SD.down, uA, uL] <;> omega) | fail) only [TA.down, TL.down, same_nilslice, resE, oneV, ↓reduceIte, reduceCtorEq, uB, uE, uL, uA, uM, uS, uN, uX, uO, vR, vD, vL, vK, vE, vA, vM, vT, vS], I6.keep qq.w.msl fr7.le (fun j hj k1 k2 => fr7.get j hj (by omega)) (fun j hj => pnt_lt hj), qq, write_wf w0 (by have := Qi.m0.2.2.2; omega) _ hxo.1, w1, N, O6.fr fr7 (by omega) (fun j hj hc => (pnt_lt hj).trans hc), by omega, (pnt_lt (by omega)).trans cf6, (fr7.get _ (by omega) (by rw [cf6]; omega)).trans gf6, fun j hj => (pnt_lt (by have := I0n; omega)).trans (hC6' j hj), fun j hj => (fr7.get j (by have := I0n; omega) (by rw [hC6' j hj]; omega)).trans (hf6 j hj)⟩
        | 2, _ =>
          rw [hR] at e7
          simp (maxSteps := 2000000) (implicitDefEqProofs := false) (disch := first | omega | (simp only [SD.down, uA, uL] <;> omega) | fail) only [run_it, t1, t7, t8, t9, t10, t11, gA', hcut, xl, xc, xo, xd, azl, actZ_fold, x.at0, at1, x.at2, e7, gfz, hxo.1, lncA, lnoA, l2, env_P, env_L, TA.down, TL.down, same_nilslice, resE, oneV, ↓reduceIte, reduceCtorEq, uB, uE, uL, uA, uM, uS, uN, uX, uO, vR, vD, vL, vK, vE, vA, vM, vT, vS]
          have kp5 : Keeps q5 ((q5.new (Blk.cells actZ 0 false)).put q5.next (some (Blk.cells x.C 0 false))) := ⟨by simp (maxSteps := 2000000) (implicitDefEqProofs := false) (disch := first | omega | (simp only [SD.down, uA, uL] <;> omega) | fail) only [TA.down, TL.down, same_nilslice, resE, oneV, ↓reduceIte, reduceCtorEq, uB, uE, uL, uA, uM, uS, uN, uX, uO, vR, vD, vL, vK, vE, vA, vM, vT, vS]; omega, fun j hj => by simp (maxSteps := 2000000) (implicitDefEqProofs := false) (disch := first | omega | (simp only [SD.down, uA, uL] <;> omega) | fail) only [TA.down, TL.down, same_nilslice, resE, oneV, ↓reduceIte, reduceCtorEq, uB, uE, uL, uA, uM, uS, uN, uX, uO, vR, vD, vL, vK, vE, vA, vM, vT, vS]⟩
          have n5 : ((q5.new (Blk.cells actZ 0 false)).put q5.next (some (Blk.cells x.C 0 false))).next = q5.next + 1 := by simp (maxSteps := 2000000) (implicitDefEqProofs := false) (disch := first | omega | (simp only [SD.down, uA, uL] <;> omega) | fail) only [TA.down, TL.down, same_nilslice, resE, oneV, ↓reduceIte, reduceCtorEq, uB, uE, uL, uA, uM, uS, uN, uX, uO, vR, vD, vL, vK, vE, vA, vM, vT, vS]
          have gy : ((q5.new (Blk.cells actZ 0 false)).put q5.next (some (Blk.cells x.C 0 false))).get q5.next = some (.cells x.C 0 false) := by simp (maxSteps := 2000000) (implicitDefEqProofs := false) (disch := first | omega | (simp only [SD.down, uA, uL] <;> omega) | fail) only [TA.down, TL.down, same_nilslice, resE, oneV, ↓reduceIte, reduceCtorEq, uB, uE, uL, uA, uM, uS, uN, uX, uO, vR, vD, vL, vK, vE, vA, vM, vT, vS]
          generalize ((q5.new (Blk.cells actZ 0 false)).put q5.next (some (Blk.cells x.C 0 false))) = r0 at kp5 n5 gy ⊢
          have I0 : BusI r0 (pnt C q5.next 0) 100 β cp [a, b] bb := I.keeps Qi.w.msl kp5 (fun j hj => pnt_lt hj)
          have D0' : MemI r0 (pnt C q5.next 0) 202 c S0 := D0.keeps kp5 (fun j hj hc => (pnt_lt hj).trans hc)
          have D1' : MemI r0 (pnt C q5.next 0) 203 e S1 := D1.keeps kp5 (fun j hj hc => (pnt_lt hj).trans hc)
          have hlC : ∀ j, j < h.next → pnt C q5.next 0 j = 0 := fun j hj => (pnt_lt (by have := I0n; omega)).trans (hC j hj)
          have hlf : ∀ j, j < h.next → r0.get j = h.get j := fun j hj => (kp5.2 j (by have := I0n; omega)).trans (hf5 j hj)
          have lgq := Qi.lg
          first | refine G.call (bus_write (d + 1) r0 (pnt C q5.next 0) 100 β cp [a, b] bb 0 x.i x.x hxo.1 (by omega) I0 Qi.w Qi.lgB (by omega) (stq (d + 2) bb Qi.st (by omega))) ?_ | refine G.callC (bus_write (d + 1) r0 (pnt C q5.next 0) 100 β cp [a, b] bb 0 x.i x.x hxo.1 (by omega) I0 Qi.w Qi.lgB (by omega) (stq (d + 2) bb Qi.st (by omega))) ?_ | refine G.callL (bus_write (d + 1) r0 (pnt C q5.next 0) 100 β cp [a, b] bb 0 x.i x.x hxo.1 (by omega) I0 Qi.w Qi.lgB (by omega) (stq (d + 2) bb Qi.st (by omega))) ?_
          rintro v r1 ⟨C6, rfl, I6, fr6, hC6⟩
          have le6 := fr6.le
          obtain ⟨qe, _, qq0⟩ := Qi.at (qui bb Qi.st (by omega)) ⟨2, 0, x.i, x.x, 0⟩ (amWrite ⟨2, 0, x.i, x.x, 0⟩) false rfl (BS.write_wf Qi.w 0 x.i x.x hxo.1 (by omega) Qi.lgB (by omega)) (fun S => ⟨(write_n S _ _).1, write_mk S _ _, write_h S _ _, (write_n S _ _).2⟩)
          have qq : QI m (bb.write 0 x.i x.x).2 (S0.write x.i x.x).1 S1 (q + 1) := qq0
          have qe' : (bb.write 0 x.i x.x).1.e = (S0.write x.i x.x).2 := qe
          have gy6 : r1.get q5.next = some (.cells x.C 0 false) := (fr6.get _ (by omega) (by rw [pnt_ge (Nat.le_refl _)]; unfold busK; omega)).trans gy
          have T6 : MemI r1 C6 202 c S0 := D0'.fr fr6 (by unfold busK; omega) (fun j hj hc => (hC6 j hj).trans hc)
          have O6 : MemI r1 C6 203 e S1 := D1'.fr fr6 (by unfold busK; omega) (fun j hj hc => (hC6 j hj).trans hc)
          have cy6 : C6 q5.next = 0 := (hC6 _ (by omega)).trans (pnt_ge (Nat.le_refl _))
          have cf6 : C6 f = 0 := (hC6 _ (by omega)).trans ((pnt_lt hfl).trans Cfz)
          have gf6 : r1.get f = some (.cells [AV.ptr c 0, AV.ptr e 0] 0 false) := (fr6.get _ (by omega) (by rw [pnt_lt hfl, Cfz]; unfold busK; omega)).trans ((kp5.2 _ hfl).trans gfz)
          have hC6' : ∀ j, j < h.next → C6 j = 0 := fun j hj => (hC6 j (by have := I0n; omega)).trans (hlC j hj)
          have hf6 : ∀ j, j < h.next → r1.get j = h.get j := fun j hj => (fr6.get j (by have := I0n; omega) (by rw [hlC j hj]; unfold busK; omega)).trans (hlf j hj)
          simp (maxSteps := 2000000) (implicitDefEqProofs := false) (disch := first | omega | (simp only [SD.down, uA, uL] <;> omega) | fail) only [t1, t7, t8, t9, t10, t11, gy, gy6, xl, xc, xd, hxo.1, at1, x.at2, same_int, env_P, env_L, TA.down, TL.down, same_nilslice, resE, oneV, ↓reduceIte, reduceCtorEq, uB, uE, uL, uA, uM, uS, uN, uX, uO, vR, vD, vL, vK, vE, vA, vM, vT, vS]
          first | refine G.call (m_write (d + 7) r1 C6 202 c S0 T6 w0 x.i x.x hxo.1) ?_ | refine G.callC (m_write (d + 7) r1 C6 202 c S0 T6 w0 x.i x.x hxo.1) ?_ | refine G.callL (m_write (d + 7) r1 C6 202 c S0 T6 w0 x.i x.x hxo.1) ?_
          rintro v r2 ⟨rfl, N, fr7⟩
          have le7 := fr7.le
          have gy7 : r2.get q5.next = some (.cells x.C 0 false) := (fr7.get _ (by omega) (by rw [cy6]; omega)).trans gy6
          have hd : decide ((bb.write 0 x.i x.x).1.e = (S0.write x.i x.x).2) = true := decide_eq_true qe'
          simp (maxSteps := 2000000) (implicitDefEqProofs := false) (disch := first | omega | (simp only [SD.down, uA, uL] <;> omega) | fail) only [t1, t7, t8, t9, t10, t11, gy, gy6, gy7, hd, xl, xc, xd, hxo.1, at1, x.at2, same_int, same_B, env_P, env_L, TA.down, TL.down, same_nilslice, resE, oneV, ↓reduceIte, reduceCtorEq, uB, uE, uL, uA, uM, uS, uN, uX, uO, vR, vD, vL, vK, vE, vA, vM, vT, vS]
          refine ih _ _ ⟨q + 1, pnt C6 r1.next 202, _, (S0.write x.i x.x).1, S1, by omega, by simp (maxSteps := 2000000) (implicitDefEqProofs := false) (disch := first | omega | (simp only [SD.down, uA, uL] <;> omega) | fail) only [t1, TA.down, TL.down, same_nilslice, resE, oneV, ↓reduceIte, reduceCtorEq, uB, uE, uL, uA, uM, uS, uN, uX, uO, vR, vD, vL, vK, vE, vA, vM, vT, vS], by simp (maxSteps := 2000000) (implicitDefEqProofs := false) (disch := first | omega | (simp only [SD.down, uA, uL] <;> omega) | fail) only [t7, TA.down, TL.down, same_nilslice, resE, oneV, ↓reduceIte, reduceCtorEq, uB, uE, uL, uA, uM, uS, uN, uX, uO, vR, vD, vL, vK, vE, vA, vM, vT, vS], by simp (maxSteps := 2000000) (implicitDefEqProofs := false) (disch := first | omega | (simp only [SD.down, uA, uL] <;> omega) | fail) only [t8, TA.down, TL.down, same_nilslice, resE, oneV, ↓reduceIte, reduceCtorEq, uB, uE, uL, uA, uM, uS, uN, uX, uO, vR, vD, vL, vK, vE, vA, vM, vT, vS], by simp (maxSteps := 2000000) (implicitDefEqProofs := false) (disch := first | omega | (simp only [SD.down, uA, uL] <;> omega) | fail) only [t9, TA.down, TL.down, same_nilslice, resE, oneV, ↓reduceIte, reduceCtorEq, uB, uE, uL, uA, uM, uS, uN, uX, uO, vR, vD, vL, vK, vE, vA, vM, vT, vS], by simp (maxSteps := 2000000) (implicitDefEqProofs := false) (disch := first | omega | (simp only [SD.down, uA, uL] <;> omega) | fail) only [t10, TA.down, TL.down, same_nilslice, resE, oneV, ↓reduceIte, reduceCtorEq, uB, uE, uL, uA, uM, uS, uN, uX, uO, vR, vD, vL, vK, vE, vA, vM, vT, vS], by simp (maxSteps := 2000000) (implicitDefEqProofs := false) (disch := first | omega | (simp only [SD.down, uA, uL] <;> omega) | fail) only [TA.down, TL.down, same_nilslice, resE, oneV, ↓reduceIte, reduceCtorEq, uB, uE, uL, uA, uM, uS, uN, uX, uO, vR, vD, vL, vK, vE, vA, vM, vT, vS], I6.keep qq.w.msl fr7.le (fun j hj k1 k2 => fr7.get j hj (by omega)) (fun j hj => pnt_lt hj), qq, write_wf w0 (by have := Qi.m0.2.2.2; omega) _ hxo.1, w1, N, O6.fr fr7 (by omega) (fun j hj hc => (pnt_lt hj).trans hc), by omega, (pnt_lt (by omega)).trans cf6, (fr7.get _ (by omega) (by rw [cf6]; omega)).trans gf6, fun j hj => (pnt_lt (by have := I0n; omega)).trans (hC6' j hj), fun j hj => (fr7.get j (by have := I0n; omega) (by rw [hC6' j hj]; omega)).trans (hf6 j hj)⟩
        | 3, _ =>
          rw [hR] at e7
          simp (maxSteps := 2000000) (implicitDefEqProofs := false) (disch := first | omega | (simp only [SD.down, uA, uL] <;> omega) | fail) only [run_it, t1, t7, t8, t9, t10, t11, gA', hcut, xl, xc, xo, xd, azl, actZ_fold, x.at0, at1, x.at2, e7, gfz, hxo.1, lncA, lnoA, l2, env_P, env_L, TA.down, TL.down, same_nilslice, resE, oneV, ↓reduceIte, reduceCtorEq, uB, uE, uL, uA, uM, uS, uN, uX, uO, vR, vD, vL, vK, vE, vA, vM, vT, vS]
          have kp5 : Keeps q5 ((q5.new (Blk.cells actZ 0 false)).put q5.next (some (Blk.cells x.C 0 false))) := ⟨by simp (maxSteps := 2000000) (implicitDefEqProofs := false) (disch := first | omega | (simp only [SD.down, uA, uL] <;> omega) | fail) only [TA.down, TL.down, same_nilslice, resE, oneV, ↓reduceIte, reduceCtorEq, uB, uE, uL, uA, uM, uS, uN, uX, uO, vR, vD, vL, vK, vE, vA, vM, vT, vS]; omega, fun j hj => by simp (maxSteps := 2000000) (implicitDefEqProofs := false) (disch := first | omega | (simp only [SD.down, uA, uL] <;> omega) | fail) only [TA.down, TL.down, same_nilslice, resE, oneV, ↓reduceIte, reduceCtorEq, uB, uE, uL, uA, uM, uS, uN, uX, uO, vR, vD, vL, vK, vE, vA, vM, vT, vS]⟩
          have n5 : ((q5.new (Blk.cells actZ 0 false)).put q5.next (some (Blk.cells x.C 0 false))).next = q5.next + 1 := by simp (maxSteps := 2000000) (implicitDefEqProofs := false) (disch := first | omega | (simp only [SD.down, uA, uL] <;> omega) | fail) only [TA.down, TL.down, same_nilslice, resE, oneV, ↓reduceIte, reduceCtorEq, uB, uE, uL, uA, uM, uS, uN, uX, uO, vR, vD, vL, vK, vE, vA, vM, vT, vS]
          have gy : ((q5.new (Blk.cells actZ 0 false)).put q5.next (some (Blk.cells x.C 0 false))).get q5.next = some (.cells x.C 0 false) := by simp (maxSteps := 2000000) (implicitDefEqProofs := false) (disch := first | omega | (simp only [SD.down, uA, uL] <;> omega) | fail) only [TA.down, TL.down, same_nilslice, resE, oneV, ↓reduceIte, reduceCtorEq, uB, uE, uL, uA, uM, uS, uN, uX, uO, vR, vD, vL, vK, vE, vA, vM, vT, vS]
          generalize ((q5.new (Blk.cells actZ 0 false)).put q5.next (some (Blk.cells x.C 0 false))) = r0 at kp5 n5 gy ⊢
          have I0 : BusI r0 (pnt C q5.next 0) 100 β cp [a, b] bb := I.keeps Qi.w.msl kp5 (fun j hj => pnt_lt hj)
          have D0' : MemI r0 (pnt C q5.next 0) 202 c S0 := D0.keeps kp5 (fun j hj hc => (pnt_lt hj).trans hc)
          have D1' : MemI r0 (pnt C q5.next 0) 203 e S1 := D1.keeps kp5 (fun j hj hc => (pnt_lt hj).trans hc)
          have hlC : ∀ j, j < h.next → pnt C q5.next 0 j = 0 := fun j hj => (pnt_lt (by have := I0n; omega)).trans (hC j hj)
          have hlf : ∀ j, j < h.next → r0.get j = h.get j := fun j hj => (kp5.2 j (by have := I0n; omega)).trans (hf5 j hj)
          have lgq := Qi.lg
          first | refine G.call (bus_flush (d + 1) r0 (pnt C q5.next 0) 100 β cp [a, b] bb 0 (by omega) I0 Qi.w (stq (d + 2) bb Qi.st (by omega))) ?_ | refine G.callC (bus_flush (d + 1) r0 (pnt C q5.next 0) 100 β cp [a, b] bb 0 (by omega) I0 Qi.w (stq (d + 2) bb Qi.st (by omega))) ?_ | refine G.callL (bus_flush (d + 1) r0 (pnt C q5.next 0) 100 β cp [a, b] bb 0 (by omega) I0 Qi.w (stq (d + 2) bb Qi.st (by omega))) ?_
          rintro v r1 ⟨C6, rfl, I6, fr6, hC6⟩
          have le6 := fr6.le
          obtain ⟨qe, _, qq0⟩ := Qi.at (qui bb Qi.st (by omega)) ⟨3, 0, 0, zz, 0⟩ (amFlush ⟨3, 0, 0, zz, 0⟩) false rfl (BS.flush_wf Qi.w 0 (by omega)) (fun S => ⟨(flush_n S).1, flush_mk S, flush_h S, Nat.le_succ_of_le (flush_n S).2⟩)
          have qq : QI m (bb.flush 0).2 (S0.flush).1 S1 (q + 1) := qq0
          have qe' : (bb.flush 0).1.e = (S0.flush).2 := qe
          have gy6 : r1.get q5.next = some (.cells x.C 0 false) := (fr6.get _ (by omega) (by rw [pnt_ge (Nat.le_refl _)]; unfold busK; omega)).trans gy
          have T6 : MemI r1 C6 202 c S0 := D0'.fr fr6 (by unfold busK; omega) (fun j hj hc => (hC6 j hj).trans hc)
          have O6 : MemI r1 C6 203 e S1 := D1'.fr fr6 (by unfold busK; omega) (fun j hj hc => (hC6 j hj).trans hc)
          have cy6 : C6 q5.next = 0 := (hC6 _ (by omega)).trans (pnt_ge (Nat.le_refl _))
          have cf6 : C6 f = 0 := (hC6 _ (by omega)).trans ((pnt_lt hfl).trans Cfz)
          have gf6 : r1.get f = some (.cells [AV.ptr c 0, AV.ptr e 0] 0 false) := (fr6.get _ (by omega) (by rw [pnt_lt hfl, Cfz]; unfold busK; omega)).trans ((kp5.2 _ hfl).trans gfz)
          have hC6' : ∀ j, j < h.next → C6 j = 0 := fun j hj => (hC6 j (by have := I0n; omega)).trans (hlC j hj)
          have hf6 : ∀ j, j < h.next → r1.get j = h.get j := fun j hj => (fr6.get j (by have := I0n; omega) (by rw [hlC j hj]; unfold busK; omega)).trans (hlf j hj)
          simp (maxSteps := 2000000) (implicitDefEqProofs := false) (disch := first | omega | (simp only [SD.down, uA, uL] <;> omega) | fail) only [t1, t7, t8, t9, t10, t11, gy, gy6, xl, xc, xd, hxo.1, at1, x.at2, same_int, env_P, env_L, TA.down, TL.down, same_nilslice, resE, oneV, ↓reduceIte, reduceCtorEq, uB, uE, uL, uA, uM, uS, uN, uX, uO, vR, vD, vL, vK, vE, vA, vM, vT, vS]
          first | refine G.call (m_flush (d + 6) r1 C6 202 c S0 T6 w0) ?_ | refine G.callC (m_flush (d + 6) r1 C6 202 c S0 T6 w0) ?_ | refine G.callL (m_flush (d + 6) r1 C6 202 c S0 T6 w0) ?_
          rintro v r2 ⟨rfl, N, fr7⟩
          have le7 := fr7.le
          have gy7 : r2.get q5.next = some (.cells x.C 0 false) := (fr7.get _ (by omega) (by rw [cy6]; omega)).trans gy6
          have hd : decide ((bb.flush 0).1.e = (S0.flush).2) = true := decide_eq_true qe'
          simp (maxSteps := 2000000) (implicitDefEqProofs := false) (disch := first | omega | (simp only [SD.down, uA, uL] <;> omega) | fail) only [t1, t7, t8, t9, t10, t11, gy, gy6, gy7, hd, xl, xc, xd, hxo.1, at1, x.at2, same_int, same_B, env_P, env_L, TA.down, TL.down, same_nilslice, resE, oneV, ↓reduceIte, reduceCtorEq, uB, uE, uL, uA, uM, uS, uN, uX, uO, vR, vD, vL, vK, vE, vA, vM, vT, vS]
          refine ih _ _ ⟨q + 1, pnt C6 r1.next 202, _, (S0.flush).1, S1, by omega, by simp (maxSteps := 2000000) (implicitDefEqProofs := false) (disch := first | omega | (simp only [SD.down, uA, uL] <;> omega) | fail) only [t1, TA.down, TL.down, same_nilslice, resE, oneV, ↓reduceIte, reduceCtorEq, uB, uE, uL, uA, uM, uS, uN, uX, uO, vR, vD, vL, vK, vE, vA, vM, vT, vS], by simp (maxSteps := 2000000) (implicitDefEqProofs := false) (disch := first | omega | (simp only [SD.down, uA, uL] <;> omega) | fail) only [t7, TA.down, TL.down, same_nilslice, resE, oneV, ↓reduceIte, reduceCtorEq, uB, uE, uL, uA, uM, uS, uN, uX, uO, vR, vD, vL, vK, vE, vA, vM, vT, vS], by simp (maxSteps := 2000000) (implicitDefEqProofs := false) (disch := first | omega | (simp only [SD.down, uA, uL] <;> omega) | fail) only [t8, TA.down, TL.down, same_nilslice, resE, oneV, ↓reduceIte, reduceCtorEq, uB, uE, uL, uA, uM, uS, uN, uX, uO, vR, vD, vL, vK, vE, vA, vM, vT, vS], by simp (maxSteps := 2000000) (implicitDefEqProofs := false) (disch := first | omega | (simp only [SD.down, uA, uL] <;> omega) | fail) only [t9, TA.down, TL.down, same_nilslice, resE, oneV, ↓reduceIte, reduceCtorEq, uB, uE, uL, uA, uM, uS, uN, uX, uO, vR, vD, vL, vK, vE, vA, vM, vT, vS], by simp (maxSteps := 2000000) (implicitDefEqProofs := false) (disch := first | omega | (simp only [SD.down, uA, uL] <;> omega) | fail) only [t10, TA.down, TL.down, same_nilslice, resE, oneV, ↓reduceIte, reduceCtorEq, uB, uE, uL, uA, uM, uS, uN, uX, uO, vR, vD, vL, vK, vE, vA, vM, vT, vS], by simp (maxSteps := 2000000) (implicitDefEqProofs := false) (disch := first | omega | (simp only [SD.down, uA, uL] <;> omega) | fail) only [TA.down, TL.down, same_nilslice, resE, oneV, ↓reduceIte, reduceCtorEq, uB, uE, uL, uA, uM, uS, uN, uX, uO, vR, vD, vL, vK, vE, vA, vM, vT, vS], I6.keep qq.w.msl fr7.le (fun j hj k1 k2 => fr7.get j hj (by omega)) (fun j hj => pnt_lt hj), qq, flush_wf w0, w1, N, O6.fr fr7 (by omega) (fun j hj hc => (pnt_lt hj).trans hc), by omega, (pnt_lt (by omega)).trans cf6, (fr7.get _ (by omega) (by rw [cf6]; omega)).trans gf6, fun j hj => (pnt_lt (by have := I0n; omega)).trans (hC6' j hj), fun j hj => (fr7.get j (by have := I0n; omega) (by rw [hC6' j hj]; omega)).trans (hf6 j hj)⟩
        | 4, _ =>
          rw [hR] at e7
          simp (maxSteps := 2000000) (implicitDefEqProofs := false) (disch := first | omega | (simp only [SD.down, uA, uL] <;> omega) | fail) only [run_it, t1, t7, t8, t9, t10, t11, gA', hcut, xl, xc, xo, xd, azl, actZ_fold, x.at0, at1, x.at2, e7, gfz, hxo.1, lncA, lnoA, l2, env_P, env_L, TA.down, TL.down, same_nilslice, resE, oneV, ↓reduceIte, reduceCtorEq, uB, uE, uL, uA, uM, uS, uN, uX, uO, vR, vD, vL, vK, vE, vA, vM, vT, vS]
          have kp5 : Keeps q5 ((q5.new (Blk.cells actZ 0 false)).put q5.next (some (Blk.cells x.C 0 false))) := ⟨by simp (maxSteps := 2000000) (implicitDefEqProofs := false) (disch := first | omega | (simp only [SD.down, uA, uL] <;> omega) | fail) only [TA.down, TL.down, same_nilslice, resE, oneV, ↓reduceIte, reduceCtorEq, uB, uE, uL, uA, uM, uS, uN, uX, uO, vR, vD, vL, vK, vE, vA, vM, vT, vS]; omega, fun j hj => by simp (maxSteps := 2000000) (implicitDefEqProofs := false) (disch := first | omega | (simp only [SD.down, uA, uL] <;> omega) | fail) only [TA.down, TL.down, same_nilslice, resE, oneV, ↓reduceIte, reduceCtorEq, uB, uE, uL, uA, uM, uS, uN, uX, uO, vR, vD, vL, vK, vE, vA, vM, vT, vS]⟩
          have n5 : ((q5.new (Blk.cells actZ 0 false)).put q5.next (some (Blk.cells x.C 0 false))).next = q5.next + 1 := by simp (maxSteps := 2000000) (implicitDefEqProofs := false) (disch := first | omega | (simp only [SD.down, uA, uL] <;> omega) | fail) only [TA.down, TL.down, same_nilslice, resE, oneV, ↓reduceIte, reduceCtorEq, uB, uE, uL, uA, uM, uS, uN, uX, uO, vR, vD, vL, vK, vE, vA, vM, vT, vS]
          have gy : ((q5.new (Blk.cells actZ 0 false)).put q5.next (some (Blk.cells x.C 0 false))).get q5.next = some (.cells x.C 0 false) := by simp (maxSteps := 2000000) (implicitDefEqProofs := false) (disch := first | omega | (simp only [SD.down, uA, uL] <;> omega) | fail) only [TA.down, TL.down, same_nilslice, resE, oneV, ↓reduceIte, reduceCtorEq, uB, uE, uL, uA, uM, uS, uN, uX, uO, vR, vD, vL, vK, vE, vA, vM, vT, vS]
          generalize ((q5.new (Blk.cells actZ 0 false)).put q5.next (some (Blk.cells x.C 0 false))) = r0 at kp5 n5 gy ⊢
          have I0 : BusI r0 (pnt C q5.next 0) 100 β cp [a, b] bb := I.keeps Qi.w.msl kp5 (fun j hj => pnt_lt hj)
          have D0' : MemI r0 (pnt C q5.next 0) 202 c S0 := D0.keeps kp5 (fun j hj hc => (pnt_lt hj).trans hc)
          have D1' : MemI r0 (pnt C q5.next 0) 203 e S1 := D1.keeps kp5 (fun j hj hc => (pnt_lt hj).trans hc)
          have hlC : ∀ j, j < h.next → pnt C q5.next 0 j = 0 := fun j hj => (pnt_lt (by have := I0n; omega)).trans (hC j hj)
          have hlf : ∀ j, j < h.next → r0.get j = h.get j := fun j hj => (kp5.2 j (by have := I0n; omega)).trans (hf5 j hj)
          refine ih _ _ ⟨q + 1, pnt C q5.next 0, bb, S0, S1, by omega, by simp (maxSteps := 2000000) (implicitDefEqProofs := false) (disch := first | omega | (simp only [SD.down, uA, uL] <;> omega) | fail) only [t1, TA.down, TL.down, same_nilslice, resE, oneV, ↓reduceIte, reduceCtorEq, uB, uE, uL, uA, uM, uS, uN, uX, uO, vR, vD, vL, vK, vE, vA, vM, vT, vS], by simp (maxSteps := 2000000) (implicitDefEqProofs := false) (disch := first | omega | (simp only [SD.down, uA, uL] <;> omega) | fail) only [t7, TA.down, TL.down, same_nilslice, resE, oneV, ↓reduceIte, reduceCtorEq, uB, uE, uL, uA, uM, uS, uN, uX, uO, vR, vD, vL, vK, vE, vA, vM, vT, vS], by simp (maxSteps := 2000000) (implicitDefEqProofs := false) (disch := first | omega | (simp only [SD.down, uA, uL] <;> omega) | fail) only [t8, TA.down, TL.down, same_nilslice, resE, oneV, ↓reduceIte, reduceCtorEq, uB, uE, uL, uA, uM, uS, uN, uX, uO, vR, vD, vL, vK, vE, vA, vM, vT, vS], by simp (maxSteps := 2000000) (implicitDefEqProofs := false) (disch := first | omega | (simp only [SD.down, uA, uL] <;> omega) | fail) only [t9, TA.down, TL.down, same_nilslice, resE, oneV, ↓reduceIte, reduceCtorEq, uB, uE, uL, uA, uM, uS, uN, uX, uO, vR, vD, vL, vK, vE, vA, vM, vT, vS], by simp (maxSteps := 2000000) (implicitDefEqProofs := false) (disch := first | omega | (simp only [SD.down, uA, uL] <;> omega) | fail) only [t10, TA.down, TL.down, same_nilslice, resE, oneV, ↓reduceIte, reduceCtorEq, uB, uE, uL, uA, uM, uS, uN, uX, uO, vR, vD, vL, vK, vE, vA, vM, vT, vS], by simp (maxSteps := 2000000) (implicitDefEqProofs := false) (disch := first | omega | (simp only [SD.down, uA, uL] <;> omega) | fail) only [TA.down, TL.down, same_nilslice, resE, oneV, ↓reduceIte, reduceCtorEq, uB, uE, uL, uA, uM, uS, uN, uX, uO, vR, vD, vL, vK, vE, vA, vM, vT, vS], I0, Qi.mono (Nat.le_succ _), w0, w1, D0', D1', by omega, (pnt_lt hfl).trans Cfz, (kp5.2 _ hfl).trans gfz, hlC, hlf⟩
        | 5, _ =>
          rw [hR] at e7
          simp (maxSteps := 2000000) (implicitDefEqProofs := false) (disch := first | omega | (simp only [SD.down, uA, uL] <;> omega) | fail) only [run_it, t1, t7, t8, t9, t10, t11, gA', hcut, xl, xc, xo, xd, azl, actZ_fold, x.at0, at1, x.at2, e7, gfz, hxo.1, lncA, lnoA, l2, env_P, env_L, TA.down, TL.down, same_nilslice, resE, oneV, ↓reduceIte, reduceCtorEq, uB, uE, uL, uA, uM, uS, uN, uX, uO, vR, vD, vL, vK, vE, vA, vM, vT, vS]
          have kp5 : Keeps q5 ((q5.new (Blk.cells actZ 0 false)).put q5.next (some (Blk.cells x.C 0 false))) := ⟨by simp (maxSteps := 2000000) (implicitDefEqProofs := false) (disch := first | omega | (simp only [SD.down, uA, uL] <;> omega) | fail) only [TA.down, TL.down, same_nilslice, resE, oneV, ↓reduceIte, reduceCtorEq, uB, uE, uL, uA, uM, uS, uN, uX, uO, vR, vD, vL, vK, vE, vA, vM, vT, vS]; omega, fun j hj => by simp (maxSteps := 2000000) (implicitDefEqProofs := false) (disch := first | omega | (simp only [SD.down, uA, uL] <;> omega) | fail) only [TA.down, TL.down, same_nilslice, resE, oneV, ↓reduceIte, reduceCtorEq, uB, uE, uL, uA, uM, uS, uN, uX, uO, vR, vD, vL, vK, vE, vA, vM, vT, vS]⟩
          have n5 : ((q5.new (Blk.cells actZ 0 false)).put q5.next (some (Blk.cells x.C 0 false))).next = q5.next + 1 := by simp (maxSteps := 2000000) (implicitDefEqProofs := false) (disch := first | omega | (simp only [SD.down, uA, uL] <;> omega) | fail) only [TA.down, TL.down, same_nilslice, resE, oneV, ↓reduceIte, reduceCtorEq, uB, uE, uL, uA, uM, uS, uN, uX, uO, vR, vD, vL, vK, vE, vA, vM, vT, vS]
          have gy : ((q5.new (Blk.cells actZ 0 false)).put q5.next (some (Blk.cells x.C 0 false))).get q5.next = some (.cells x.C 0 false) := by simp (maxSteps := 2000000) (implicitDefEqProofs := false) (disch := first | omega | (simp only [SD.down, uA, uL] <;> omega) | fail) only [TA.down, TL.down, same_nilslice, resE, oneV, ↓reduceIte, reduceCtorEq, uB, uE, uL, uA, uM, uS, uN, uX, uO, vR, vD, vL, vK, vE, vA, vM, vT, vS]
          generalize ((q5.new (Blk.cells actZ 0 false)).put q5.next (some (Blk.cells x.C 0 false))) = r0 at kp5 n5 gy ⊢
          have I0 : BusI r0 (pnt C q5.next 0) 100 β cp [a, b] bb := I.keeps Qi.w.msl kp5 (fun j hj => pnt_lt hj)
          have D0' : MemI r0 (pnt C q5.next 0) 202 c S0 := D0.keeps kp5 (fun j hj hc => (pnt_lt hj).trans hc)
          have D1' : MemI r0 (pnt C q5.next 0) 203 e S1 := D1.keeps kp5 (fun j hj hc => (pnt_lt hj).trans hc)
          have hlC : ∀ j, j < h.next → pnt C q5.next 0 j = 0 := fun j hj => (pnt_lt (by have := I0n; omega)).trans (hC j hj)
          have hlf : ∀ j, j < h.next → r0.get j = h.get j := fun j hj => (kp5.2 j (by have := I0n; omega)).trans (hf5 j hj)
          refine ih _ _ ⟨q + 1, pnt C q5.next 0, bb, S0, S1, by omega, by simp (maxSteps := 2000000) (implicitDefEqProofs := false) (disch := first | omega | (simp only [SD.down, uA, uL] <;> omega) | fail) only [t1, TA.down, TL.down, same_nilslice, resE, oneV, ↓reduceIte, reduceCtorEq, uB, uE, uL, uA, uM, uS, uN, uX, uO, vR, vD, vL, vK, vE, vA, vM, vT, vS], by simp (maxSteps := 2000000) (implicitDefEqProofs := false) (disch := first | omega | (simp only [SD.down, uA, uL] <;> omega) | fail) only [t7, TA.down, TL.down, same_nilslice, resE, oneV, ↓reduceIte, reduceCtorEq, uB, uE, uL, uA, uM, uS, uN, uX, uO, vR, vD, vL, vK, vE, vA, vM, vT, vS], by simp (maxSteps := 2000000) (implicitDefEqProofs := false) (disch := first | omega | (simp only [SD.down, uA, uL] <;> omega) | fail) only [t8, TA.down, TL.down, same_nilslice, resE, oneV, ↓reduceIte, reduceCtorEq, uB, uE, uL, uA, uM, uS, uN, uX, uO, vR, vD, vL, vK, vE, vA, vM, vT, vS], by simp (maxSteps := 2000000) (implicitDefEqProofs := false) (disch := first | omega | (simp only [SD.down, uA, uL] <;> omega) | fail) only [t9, TA.down, TL.down, same_nilslice, resE, oneV, ↓reduceIte, reduceCtorEq, uB, uE, uL, uA, uM, uS, uN, uX, uO, vR, vD, vL, vK, vE, vA, vM, vT, vS], by simp (maxSteps := 2000000) (implicitDefEqProofs := false) (disch := first | omega | (simp only [SD.down, uA, uL] <;> omega) | fail) only [t10, TA.down, TL.down, same_nilslice, resE, oneV, ↓reduceIte, reduceCtorEq, uB, uE, uL, uA, uM, uS, uN, uX, uO, vR, vD, vL, vK, vE, vA, vM, vT, vS], by simp (maxSteps := 2000000) (implicitDefEqProofs := false) (disch := first | omega | (simp only [SD.down, uA, uL] <;> omega) | fail) only [TA.down, TL.down, same_nilslice, resE, oneV, ↓reduceIte, reduceCtorEq, uB, uE, uL, uA, uM, uS, uN, uX, uO, vR, vD, vL, vK, vE, vA, vM, vT, vS], I0, Qi.mono (Nat.le_succ _), w0, w1, D0', D1', by omega, (pnt_lt hfl).trans Cfz, (kp5.2 _ hfl).trans gfz, hlC, hlf⟩
        | 6, _ =>
          rw [hR] at e7
          simp (maxSteps := 2000000) (implicitDefEqProofs := false) (disch := first | omega | (simp only [SD.down, uA, uL] <;> omega) | fail) only [run_it, t1, t7, t8, t9, t10, t11, gA', hcut, xl, xc, xo, xd, azl, actZ_fold, x.at0, at1, x.at2, e7, gfz, hxo.1, lncA, lnoA, l2, env_P, env_L, TA.down, TL.down, same_nilslice, resE, oneV, ↓reduceIte, reduceCtorEq, uB, uE, uL, uA, uM, uS, uN, uX, uO, vR, vD, vL, vK, vE, vA, vM, vT, vS]
          have kp5 : Keeps q5 ((q5.new (Blk.cells actZ 0 false)).put q5.next (some (Blk.cells x.C 0 false))) := ⟨by simp (maxSteps := 2000000) (implicitDefEqProofs := false) (disch := first | omega | (simp only [SD.down, uA, uL] <;> omega) | fail) only [TA.down, TL.down, same_nilslice, resE, oneV, ↓reduceIte, reduceCtorEq, uB, uE, uL, uA, uM, uS, uN, uX, uO, vR, vD, vL, vK, vE, vA, vM, vT, vS]; omega, fun j hj => by simp (maxSteps := 2000000) (implicitDefEqProofs := false) (disch := first | omega | (simp only [SD.down, uA, uL] <;> omega) | fail) only [TA.down, TL.down, same_nilslice, resE, oneV, ↓reduceIte, reduceCtorEq, uB, uE, uL, uA, uM, uS, uN, uX, uO, vR, vD, vL, vK, vE, vA, vM, vT, vS]⟩
          have n5 : ((q5.new (Blk.cells actZ 0 false)).put q5.next (some (Blk.cells x.C 0 false))).next = q5.next + 1 := by simp (maxSteps := 2000000) (implicitDefEqProofs := false) (disch := first | omega | (simp only [SD.down, uA, uL] <;> omega) | fail) only [TA.down, TL.down, same_nilslice, resE, oneV, ↓reduceIte, reduceCtorEq, uB, uE, uL, uA, uM, uS, uN, uX, uO, vR, vD, vL, vK, vE, vA, vM, vT, vS]
          have gy : ((q5.new (Blk.cells actZ 0 false)).put q5.next (some (Blk.cells x.C 0 false))).get q5.next = some (.cells x.C 0 false) := by simp (maxSteps := 2000000) (implicitDefEqProofs := false) (disch := first | omega | (simp only [SD.down, uA, uL] <;> omega) | fail) only [TA.down, TL.down, same_nilslice, resE, oneV, ↓reduceIte, reduceCtorEq, uB, uE, uL, uA, uM, uS, uN, uX, uO, vR, vD, vL, vK, vE, vA, vM, vT, vS]
          generalize ((q5.new (Blk.cells actZ 0 false)).put q5.next (some (Blk.cells x.C 0 false))) = r0 at kp5 n5 gy ⊢
          have I0 : BusI r0 (pnt C q5.next 0) 100 β cp [a, b] bb := I.keeps Qi.w.msl kp5 (fun j hj => pnt_lt hj)
          have D0' : MemI r0 (pnt C q5.next 0) 202 c S0 := D0.keeps kp5 (fun j hj hc => (pnt_lt hj).trans hc)
          have D1' : MemI r0 (pnt C q5.next 0) 203 e S1 := D1.keeps kp5 (fun j hj hc => (pnt_lt hj).trans hc)
          have hlC : ∀ j, j < h.next → pnt C q5.next 0 j = 0 := fun j hj => (pnt_lt (by have := I0n; omega)).trans (hC j hj)
          have hlf : ∀ j, j < h.next → r0.get j = h.get j := fun j hj => (kp5.2 j (by have := I0n; omega)).trans (hf5 j hj)
          refine ih _ _ ⟨q + 1, pnt C q5.next 0, bb, S0, S1, by omega, by simp (maxSteps := 2000000) (implicitDefEqProofs := false) (disch := first | omega | (simp only [SD.down, uA, uL] <;> omega) | fail) only [t1, TA.down, TL.down, same_nilslice, resE, oneV, ↓reduceIte, reduceCtorEq, uB, uE, uL, uA, uM, uS, uN, uX, uO, vR, vD, vL, vK, vE, vA, vM, vT, vS], by simp (maxSteps := 2000000) (implicitDefEqProofs := false) (disch := first | omega | (simp only [SD.down, uA, uL] <;> omega) | fail) only [t7, TA.down, TL.down, same_nilslice, resE, oneV, ↓reduceIte, reduceCtorEq, uB, uE, uL, uA, uM, uS, uN, uX, uO, vR, vD, vL, vK, vE, vA, vM, vT, vS], by simp (maxSteps := 2000000) (implicitDefEqProofs := false) (disch := first | omega | (simp only [SD.down, uA, uL] <;> omega) | fail) only [t8, TA.down, TL.down, same_nilslice, resE, oneV, ↓reduceIte, reduceCtorEq, uB, uE, uL, uA, uM, uS, uN, uX, uO, vR, vD, vL, vK, vE, vA, vM, vT, vS], by simp (maxSteps := 2000000) (implicitDefEqProofs := false) (disch := first | omega | (simp only [SD.down, uA, uL] <;> omega) | fail) only [t9, TA.down, TL.down, same_nilslice, resE, oneV, ↓reduceIte, reduceCtorEq, uB, uE, uL, uA, uM, uS, uN, uX, uO, vR, vD, vL, vK, vE, vA, vM, vT, vS], by simp (maxSteps := 2000000) (implicitDefEqProofs := false) (disch := first | omega | (simp only [SD.down, uA, uL] <;> omega) | fail) only [t10, TA.down, TL.down, same_nilslice, resE, oneV, ↓reduceIte, reduceCtorEq, uB, uE, uL, uA, uM, uS, uN, uX, uO, vR, vD, vL, vK, vE, vA, vM, vT, vS], by simp (maxSteps := 2000000) (implicitDefEqProofs := false) (disch := first | omega | (simp only [SD.down, uA, uL] <;> omega) | fail) only [TA.down, TL.down, same_nilslice, resE, oneV, ↓reduceIte, reduceCtorEq, uB, uE, uL, uA, uM, uS, uN, uX, uO, vR, vD, vL, vK, vE, vA, vM, vT, vS], I0, Qi.mono (Nat.le_succ _), w0, w1, D0', D1', by omega, (pnt_lt hfl).trans Cfz, (kp5.2 _ hfl).trans gfz, hlC, hlf⟩
        | 7, _ =>
          rw [hR] at e7
          simp (maxSteps := 2000000) (implicitDefEqProofs := false) (disch := first | omega | (simp only [SD.down, uA, uL] <;> omega) | fail) only [run_it, t1, t7, t8, t9, t10, t11, gA', hcut, xl, xc, xo, xd, azl, actZ_fold, x.at0, at1, x.at2, e7, gfz, hxo.1, lncA, lnoA, l2, env_P, env_L, TA.down, TL.down, same_nilslice, resE, oneV, ↓reduceIte, reduceCtorEq, uB, uE, uL, uA, uM, uS, uN, uX, uO, vR, vD, vL, vK, vE, vA, vM, vT, vS]
          have kp5 : Keeps q5 ((q5.new (Blk.cells actZ 0 false)).put q5.next (some (Blk.cells x.C 0 false))) := ⟨by simp (maxSteps := 2000000) (implicitDefEqProofs := false) (disch := first | omega | (simp only [SD.down, uA, uL] <;> omega) | fail) only [TA.down, TL.down, same_nilslice, resE, oneV, ↓reduceIte, reduceCtorEq, uB, uE, uL, uA, uM, uS, uN, uX, uO, vR, vD, vL, vK, vE, vA, vM, vT, vS]; omega, fun j hj => by simp (maxSteps := 2000000) (implicitDefEqProofs := false) (disch := first | omega | (simp only [SD.down, uA, uL] <;> omega) | fail) only [TA.down, TL.down, same_nilslice, resE, oneV, ↓reduceIte, reduceCtorEq, uB, uE, uL, uA, uM, uS, uN, uX, uO, vR, vD, vL, vK, vE, vA, vM, vT, vS]⟩
          have n5 : ((q5.new (Blk.cells actZ 0 false)).put q5.next (some (Blk.cells x.C 0 false))).next = q5.next + 1 := by simp (maxSteps := 2000000) (implicitDefEqProofs := false) (disch := first | omega | (simp only [SD.down, uA, uL] <;> omega) | fail) only [TA.down, TL.down, same_nilslice, resE, oneV, ↓reduceIte, reduceCtorEq, uB, uE, uL, uA, uM, uS, uN, uX, uO, vR, vD, vL, vK, vE, vA, vM, vT, vS]
          have gy : ((q5.new (Blk.cells actZ 0 false)).put q5.next (some (Blk.cells x.C 0 false))).get q5.next = some (.cells x.C 0 false) := by simp (maxSteps := 2000000) (implicitDefEqProofs := false) (disch := first | omega | (simp only [SD.down, uA, uL] <;> omega) | fail) only [TA.down, TL.down, same_nilslice, resE, oneV, ↓reduceIte, reduceCtorEq, uB, uE, uL, uA, uM, uS, uN, uX, uO, vR, vD, vL, vK, vE, vA, vM, vT, vS]
          generalize ((q5.new (Blk.cells actZ 0 false)).put q5.next (some (Blk.cells x.C 0 false))) = r0 at kp5 n5 gy ⊢
          have I0 : BusI r0 (pnt C q5.next 0) 100 β cp [a, b] bb := I.keeps Qi.w.msl kp5 (fun j hj => pnt_lt hj)
          have D0' : MemI r0 (pnt C q5.next 0) 202 c S0 := D0.keeps kp5 (fun j hj hc => (pnt_lt hj).trans hc)
          have D1' : MemI r0 (pnt C q5.next 0) 203 e S1 := D1.keeps kp5 (fun j hj hc => (pnt_lt hj).trans hc)
          have hlC : ∀ j, j < h.next → pnt C q5.next 0 j = 0 := fun j hj => (pnt_lt (by have := I0n; omega)).trans (hC j hj)
          have hlf : ∀ j, j < h.next → r0.get j = h.get j := fun j hj => (kp5.2 j (by have := I0n; omega)).trans (hf5 j hj)
          have lgq := Qi.lg
          first | refine G.call (bus_read (d + 1) r0 (pnt C q5.next 0) 100 β cp [a, b] bb 0 x.i (by omega) I0 Qi.w (stq (d + 2) bb Qi.st (by omega))) ?_ | refine G.callC (bus_read (d + 1) r0 (pnt C q5.next 0) 100 β cp [a, b] bb 0 x.i (by omega) I0 Qi.w (stq (d + 2) bb Qi.st (by omega))) ?_ | refine G.callL (bus_read (d + 1) r0 (pnt C q5.next 0) 100 β cp [a, b] bb 0 x.i (by omega) I0 Qi.w (stq (d + 2) bb Qi.st (by omega))) ?_
          rintro v r1 ⟨C6, rfl, I6, fr6, hC6⟩
          have le6 := fr6.le
          obtain ⟨qe, qx, qq0⟩ := Qi.at (qui bb Qi.st (by omega)) ⟨1, 0, x.i, zz, 0⟩ (amRead ⟨1, 0, x.i, zz, 0⟩) false rfl (BS.read_wf Qi.w 0 x.i (by omega)) (fun S => ⟨rfl, rfl, rfl, Nat.le_succ _⟩)
          have qq : QI m (bb.read 0 x.i).2 S0 S1 (q + 1) := qq0
          have qe' : (bb.read 0 x.i).1.e = (S0.read x.i).2 := qe
          have qx' : (bb.read 0 x.i).1.x = (S0.read x.i).1 := qx
          have rl := MS.read_len w0 x.i
          have hzl := zz_len
          have gy6 : r1.get q5.next = some (.cells x.C 0 false) := (fr6.get _ (by omega) (by rw [pnt_ge (Nat.le_refl _)]; unfold busK; omega)).trans gy
          have T6 : MemI r1 C6 202 c S0 := D0'.fr fr6 (by unfold busK; omega) (fun j hj hc => (hC6 j hj).trans hc)
          have O6 : MemI r1 C6 203 e S1 := D1'.fr fr6 (by unfold busK; omega) (fun j hj hc => (hC6 j hj).trans hc)
          have cy6 : C6 q5.next = 0 := (hC6 _ (by omega)).trans (pnt_ge (Nat.le_refl _))
          have cf6 : C6 f = 0 := (hC6 _ (by omega)).trans ((pnt_lt hfl).trans Cfz)
          have gf6 : r1.get f = some (.cells [AV.ptr c 0, AV.ptr e 0] 0 false) := (fr6.get _ (by omega) (by rw [pnt_lt hfl, Cfz]; unfold busK; omega)).trans ((kp5.2 _ hfl).trans gfz)
          have hC6' : ∀ j, j < h.next → C6 j = 0 := fun j hj => (hC6 j (by have := I0n; omega)).trans (hlC j hj)
          have hf6 : ∀ j, j < h.next → r1.get j = h.get j := fun j hj => (fr6.get j (by have := I0n; omega) (by rw [hlC j hj]; unfold busK; omega)).trans (hlf j hj)
          rw [qe', qx']
          simp (maxSteps := 2000000) (implicitDefEqProofs := false) (disch := first | omega | (simp only [SD.down, uA, uL] <;> omega) | fail) only [t1, t7, t8, t9, t10, t11, gy, gy6, xl, xc, xd, hxo.1, at1, x.at2, rl, hzl, zz_fold, cutB_all, over_B, same_int, env_P, env_L, TA.down, TL.down, same_nilslice, resE, oneV, ↓reduceIte, reduceCtorEq, uB, uE, uL, uA, uM, uS, uN, uX, uO, vR, vD, vL, vK, vE, vA, vM, vT, vS]
          have kp6 : Keeps r1 ((r1.new (Blk.cells (B zz) 0 false)).put r1.next (some (Blk.cells (B (S0.read x.i).1) 0 false))) := ⟨by simp (maxSteps := 2000000) (implicitDefEqProofs := false) (disch := first | omega | (simp only [SD.down, uA, uL] <;> omega) | fail) only [TA.down, TL.down, same_nilslice, resE, oneV, ↓reduceIte, reduceCtorEq, uB, uE, uL, uA, uM, uS, uN, uX, uO, vR, vD, vL, vK, vE, vA, vM, vT, vS]; omega, fun j hj => by simp (maxSteps := 2000000) (implicitDefEqProofs := false) (disch := first | omega | (simp only [SD.down, uA, uL] <;> omega) | fail) only [TA.down, TL.down, same_nilslice, resE, oneV, ↓reduceIte, reduceCtorEq, uB, uE, uL, uA, uM, uS, uN, uX, uO, vR, vD, vL, vK, vE, vA, vM, vT, vS]⟩
          have n6 : ((r1.new (Blk.cells (B zz) 0 false)).put r1.next (some (Blk.cells (B (S0.read x.i).1) 0 false))).next = r1.next + 1 := by simp (maxSteps := 2000000) (implicitDefEqProofs := false) (disch := first | omega | (simp only [SD.down, uA, uL] <;> omega) | fail) only [TA.down, TL.down, same_nilslice, resE, oneV, ↓reduceIte, reduceCtorEq, uB, uE, uL, uA, uM, uS, uN, uX, uO, vR, vD, vL, vK, vE, vA, vM, vT, vS]
          have gs : ((r1.new (Blk.cells (B zz) 0 false)).put r1.next (some (Blk.cells (B (S0.read x.i).1) 0 false))).get r1.next = some (.cells (B (S0.read x.i).1) 0 false) := by simp (maxSteps := 2000000) (implicitDefEqProofs := false) (disch := first | omega | (simp only [SD.down, uA, uL] <;> omega) | fail) only [TA.down, TL.down, same_nilslice, resE, oneV, ↓reduceIte, reduceCtorEq, uB, uE, uL, uA, uM, uS, uN, uX, uO, vR, vD, vL, vK, vE, vA, vM, vT, vS]
          generalize ((r1.new (Blk.cells (B zz) 0 false)).put r1.next (some (Blk.cells (B (S0.read x.i).1) 0 false))) = r2 at kp6 n6 gs ⊢
          first | refine G.call (m_read (d + 7) r2 (pnt C6 r1.next 0) 202 c S0 (T6.keeps kp6 (fun j hj hc => (pnt_lt hj).trans hc)) w0 x.i) ?_ | refine G.callC (m_read (d + 7) r2 (pnt C6 r1.next 0) 202 c S0 (T6.keeps kp6 (fun j hj hc => (pnt_lt hj).trans hc)) w0 x.i) ?_ | refine G.callL (m_read (d + 7) r2 (pnt C6 r1.next 0) 202 c S0 (T6.keeps kp6 (fun j hj hc => (pnt_lt hj).trans hc)) w0 x.i) ?_
          rintro v r3 ⟨rfl, kp7⟩
          have le7 := kp7.1
          have gs7 := (kp7.2 _ (by omega)).trans gs
          have eqs : eqlE Try.prog 25 (.agg (B (S0.read x.i).1)) (.agg (B (S0.read x.i).1)) = some true := by rw [eq25 _ _ rl rl, decide_eq_true rfl]
          have hd : decide ((S0.read x.i).2 = (S0.read x.i).2) = true := decide_eq_true rfl
          simp (maxSteps := 2000000) (implicitDefEqProofs := false) (disch := first | omega | (simp only [SD.down, uA, uL] <;> omega) | fail) only [t1, t7, t8, t9, t10, t11, gs7, eqs, bin_neq_agg, hd, rl, hzl, zz_fold, cutB_all, over_B, same_int, env_P, env_L, TA.down, TL.down, same_nilslice, resE, oneV, ↓reduceIte, reduceCtorEq, uB, uE, uL, uA, uM, uS, uN, uX, uO, vR, vD, vL, vK, vE, vA, vM, vT, vS]
          have kp8 : Keeps r1 ((r3.new (Blk.cells (B zz) 0 false)).put r3.next (some (Blk.cells (B (S0.read x.i).1) 0 false))) := ⟨by simp (maxSteps := 2000000) (implicitDefEqProofs := false) (disch := first | omega | (simp only [SD.down, uA, uL] <;> omega) | fail) only [TA.down, TL.down, same_nilslice, resE, oneV, ↓reduceIte, reduceCtorEq, uB, uE, uL, uA, uM, uS, uN, uX, uO, vR, vD, vL, vK, vE, vA, vM, vT, vS]; omega, fun j hj => by simp (maxSteps := 2000000) (implicitDefEqProofs := false) (disch := first | omega | (simp only [SD.down, uA, uL] <;> omega) | fail) only [TA.down, TL.down, same_nilslice, resE, oneV, ↓reduceIte, reduceCtorEq, uB, uE, uL, uA, uM, uS, uN, uX, uO, vR, vD, vL, vK, vE, vA, vM, vT, vS]; exact (kp7.2 j (by omega)).trans (kp6.2 j hj)⟩
          have n8 : ((r3.new (Blk.cells (B zz) 0 false)).put r3.next (some (Blk.cells (B (S0.read x.i).1) 0 false))).next = r3.next + 1 := by simp (maxSteps := 2000000) (implicitDefEqProofs := false) (disch := first | omega | (simp only [SD.down, uA, uL] <;> omega) | fail) only [TA.down, TL.down, same_nilslice, resE, oneV, ↓reduceIte, reduceCtorEq, uB, uE, uL, uA, uM, uS, uN, uX, uO, vR, vD, vL, vK, vE, vA, vM, vT, vS]
          generalize ((r3.new (Blk.cells (B zz) 0 false)).put r3.next (some (Blk.cells (B (S0.read x.i).1) 0 false))) = r4 at kp8 n8 ⊢
          refine ih _ _ ⟨q + 1, pnt C6 r1.next 0, _, S0, S1, by omega, by simp (maxSteps := 2000000) (implicitDefEqProofs := false) (disch := first | omega | (simp only [SD.down, uA, uL] <;> omega) | fail) only [t1, TA.down, TL.down, same_nilslice, resE, oneV, ↓reduceIte, reduceCtorEq, uB, uE, uL, uA, uM, uS, uN, uX, uO, vR, vD, vL, vK, vE, vA, vM, vT, vS], by simp (maxSteps := 2000000) (implicitDefEqProofs := false) (disch := first | omega | (simp only [SD.down, uA, uL] <;> omega) | fail) only [t7, TA.down, TL.down, same_nilslice, resE, oneV, ↓reduceIte, reduceCtorEq, uB, uE, uL, uA, uM, uS, uN, uX, uO, vR, vD, vL, vK, vE, vA, vM, vT, vS], by simp (maxSteps := 2000000) (implicitDefEqProofs := false) (disch := first | omega | (simp only [SD.down, uA, uL] <;> omega) | fail) only [t8, TA.down, TL.down, same_nilslice, resE, oneV, ↓reduceIte, reduceCtorEq, uB, uE, uL, uA, uM, uS, uN, uX, uO, vR, vD, vL, vK, vE, vA, vM, vT, vS], by simp (maxSteps := 2000000) (implicitDefEqProofs := false) (disch := first | omega | (simp only [SD.down, uA, uL] <;> omega) | fail) only [t9, TA.down, TL.down, same_nilslice, resE, oneV, ↓reduceIte, reduceCtorEq, uB, uE, uL, uA, uM, uS, uN, uX, uO, vR, vD, vL, vK, vE, vA, vM, vT, vS], by simp (maxSteps := 2000000) (implicitDefEqProofs := false) (disch := first | omega | (simp only [SD.down, uA, uL] <;> omega) | fail) only [t10, TA.down, TL.down, same_nilslice, resE, oneV, ↓reduceIte, reduceCtorEq, uB, uE, uL, uA, uM, uS, uN, uX, uO, vR, vD, vL, vK, vE, vA, vM, vT, vS], by simp (maxSteps := 2000000) (implicitDefEqProofs := false) (disch := first | omega | (simp only [SD.down, uA, uL] <;> omega) | fail) only [TA.down, TL.down, same_nilslice, resE, oneV, ↓reduceIte, reduceCtorEq, uB, uE, uL, uA, uM, uS, uN, uX, uO, vR, vD, vL, vK, vE, vA, vM, vT, vS], I6.keeps qq.w.msl kp8 (fun j hj => pnt_lt hj), qq, w0, w1, T6.keeps kp8 (fun j hj hc => (pnt_lt hj).trans hc), O6.keeps kp8 (fun j hj hc => (pnt_lt hj).trans hc), by omega, (pnt_lt (by omega)).trans cf6, (kp8.2 _ (by omega)).trans gf6, fun j hj => (pnt_lt (by have := I0n; omega)).trans (hC6' j hj), fun j hj => (kp8.2 j (by have := I0n; omega)).trans (hf6 j hj)⟩
      · rw [hm] at at1
        have hr : x.r < 8 := by unfold Act.r; omega
        match hR : x.r, hr with
        | 0, _ =>
          rw [hR] at e7
          simp (maxSteps := 2000000) (implicitDefEqProofs := false) (disch := first | omega | (simp only [SD.down, uA, uL] <;> omega) | fail) only [run_it, t1, t7, t8, t9, t10, t11, gA', hcut, xl, xc, xo, xd, azl, actZ_fold, x.at0, at1, x.at2, e7, gfz, hxo.1, lncA, lnoA, l2, env_P, env_L, TA.down, TL.down, same_nilslice, resE, oneV, ↓reduceIte, reduceCtorEq, uB, uE, uL, uA, uM, uS, uN, uX, uO, vR, vD, vL, vK, vE, vA, vM, vT, vS]
          have kp5 : Keeps q5 ((q5.new (Blk.cells actZ 0 false)).put q5.next (some (Blk.cells x.C 0 false))) := ⟨by simp (maxSteps := 2000000) (implicitDefEqProofs := false) (disch := first | omega | (simp only [SD.down, uA, uL] <;> omega) | fail) only [TA.down, TL.down, same_nilslice, resE, oneV, ↓reduceIte, reduceCtorEq, uB, uE, uL, uA, uM, uS, uN, uX, uO, vR, vD, vL, vK, vE, vA, vM, vT, vS]; omega, fun j hj => by simp (maxSteps := 2000000) (implicitDefEqProofs := false) (disch := first | omega | (simp only [SD.down, uA, uL] <;> omega) | fail) only [TA.down, TL.down, same_nilslice, resE, oneV, ↓reduceIte, reduceCtorEq, uB, uE, uL, uA, uM, uS, uN, uX, uO, vR, vD, vL, vK, vE, vA, vM, vT, vS]⟩
          have n5 : ((q5.new (Blk.cells actZ 0 false)).put q5.next (some (Blk.cells x.C 0 false))).next = q5.next + 1 := by simp (maxSteps := 2000000) (implicitDefEqProofs := false) (disch := first | omega | (simp only [SD.down, uA, uL] <;> omega) | fail) only [TA.down, TL.down, same_nilslice, resE, oneV, ↓reduceIte, reduceCtorEq, uB, uE, uL, uA, uM, uS, uN, uX, uO, vR, vD, vL, vK, vE, vA, vM, vT, vS]
          have gy : ((q5.new (Blk.cells actZ 0 false)).put q5.next (some (Blk.cells x.C 0 false))).get q5.next = some (.cells x.C 0 false) := by simp (maxSteps := 2000000) (implicitDefEqProofs := false) (disch := first | omega | (simp only [SD.down, uA, uL] <;> omega) | fail) only [TA.down, TL.down, same_nilslice, resE, oneV, ↓reduceIte, reduceCtorEq, uB, uE, uL, uA, uM, uS, uN, uX, uO, vR, vD, vL, vK, vE, vA, vM, vT, vS]
          generalize ((q5.new (Blk.cells actZ 0 false)).put q5.next (some (Blk.cells x.C 0 false))) = r0 at kp5 n5 gy ⊢
          have I0 : BusI r0 (pnt C q5.next 0) 100 β cp [a, b] bb := I.keeps Qi.w.msl kp5 (fun j hj => pnt_lt hj)
          have D0' : MemI r0 (pnt C q5.next 0) 202 c S0 := D0.keeps kp5 (fun j hj hc => (pnt_lt hj).trans hc)
          have D1' : MemI r0 (pnt C q5.next 0) 203 e S1 := D1.keeps kp5 (fun j hj hc => (pnt_lt hj).trans hc)
          have hlC : ∀ j, j < h.next → pnt C q5.next 0 j = 0 := fun j hj => (pnt_lt (by have := I0n; omega)).trans (hC j hj)
          have hlf : ∀ j, j < h.next → r0.get j = h.get j := fun j hj => (kp5.2 j (by have := I0n; omega)).trans (hf5 j hj)
          have lgq := Qi.lg
          first | refine G.call (bus_read (d + 1) r0 (pnt C q5.next 0) 100 β cp [a, b] bb 1 x.i (by omega) I0 Qi.w (stq (d + 2) bb Qi.st (by omega))) ?_ | refine G.callC (bus_read (d + 1) r0 (pnt C q5.next 0) 100 β cp [a, b] bb 1 x.i (by omega) I0 Qi.w (stq (d + 2) bb Qi.st (by omega))) ?_ | refine G.callL (bus_read (d + 1) r0 (pnt C q5.next 0) 100 β cp [a, b] bb 1 x.i (by omega) I0 Qi.w (stq (d + 2) bb Qi.st (by omega))) ?_
          rintro v r1 ⟨C6, rfl, I6, fr6, hC6⟩
          have le6 := fr6.le
          obtain ⟨qe, qx, qq0⟩ := Qi.at (qui bb Qi.st (by omega)) ⟨1, 1, x.i, zz, 0⟩ (amRead ⟨1, 1, x.i, zz, 0⟩) true rfl (BS.read_wf Qi.w 1 x.i (by omega)) (fun S => ⟨rfl, rfl, rfl, Nat.le_succ _⟩)
          have qq : QI m (bb.read 1 x.i).2 S0 S1 (q + 1) := qq0
          have qe' : (bb.read 1 x.i).1.e = (S1.read x.i).2 := qe
          have qx' : (bb.read 1 x.i).1.x = (S1.read x.i).1 := qx
          have rl := MS.read_len w1 x.i
          have hzl := zz_len
          have gy6 : r1.get q5.next = some (.cells x.C 0 false) := (fr6.get _ (by omega) (by rw [pnt_ge (Nat.le_refl _)]; unfold busK; omega)).trans gy
          have T6 : MemI r1 C6 203 e S1 := D1'.fr fr6 (by unfold busK; omega) (fun j hj hc => (hC6 j hj).trans hc)
          have O6 : MemI r1 C6 202 c S0 := D0'.fr fr6 (by unfold busK; omega) (fun j hj hc => (hC6 j hj).trans hc)
          have cy6 : C6 q5.next = 0 := (hC6 _ (by omega)).trans (pnt_ge (Nat.le_refl _))
          have cf6 : C6 f = 0 := (hC6 _ (by omega)).trans ((pnt_lt hfl).trans Cfz)
          have gf6 : r1.get f = some (.cells [AV.ptr c 0, AV.ptr e 0] 0 false) := (fr6.get _ (by omega) (by rw [pnt_lt hfl, Cfz]; unfold busK; omega)).trans ((kp5.2 _ hfl).trans gfz)
          have hC6' : ∀ j, j < h.next → C6 j = 0 := fun j hj => (hC6 j (by have := I0n; omega)).trans (hlC j hj)
          have hf6 : ∀ j, j < h.next → r1.get j = h.get j := fun j hj => (fr6.get j (by have := I0n; omega) (by rw [hlC j hj]; unfold busK; omega)).trans (hlf j hj)
          rw [qe', qx']
          simp (maxSteps := 2000000) (implicitDefEqProofs := false) (disch := first | omega | (simp only [SD.down, uA, uL] <;> omega) | fail) only [t1, t7, t8, t9, t10, t11, gy, gy6, xl, xc, xd, hxo.1, at1, x.at2, rl, hzl, zz_fold, cutB_all, over_B, same_int, env_P, env_L, TA.down, TL.down, same_nilslice, resE, oneV, ↓reduceIte, reduceCtorEq, uB, uE, uL, uA, uM, uS, uN, uX, uO, vR, vD, vL, vK, vE, vA, vM, vT, vS]
          have kp6 : Keeps r1 ((r1.new (Blk.cells (B zz) 0 false)).put r1.next (some (Blk.cells (B (S1.read x.i).1) 0 false))) := ⟨by simp (maxSteps := 2000000) (implicitDefEqProofs := false) (disch := first | omega | (simp only [SD.down, uA, uL] <;> omega) | fail) only [TA.down, TL.down, same_nilslice, resE, oneV, ↓reduceIte, reduceCtorEq, uB, uE, uL, uA, uM, uS, uN, uX, uO, vR, vD, vL, vK, vE, vA, vM, vT, vS]; omega, fun j hj => by simp (maxSteps := 2000000) (implicitDefEqProofs := false) (disch := first | omega | (simp only [SD.down, uA, uL] <;> omega) | fail) only [TA.down, TL.down, same_nilslice, resE, oneV, ↓reduceIte, reduceCtorEq, uB, uE, uL, uA, uM, uS, uN, uX, uO, vR, vD, vL, vK, vE, vA, vM, vT, vS]⟩
          have n6 : ((r1.new (Blk.cells (B zz) 0 false)).put r1.next (some (Blk.cells (B (S1.read x.i).1) 0 false))).next = r1.next + 1 := by simp (maxSteps := 2000000) (implicitDefEqProofs := false) (disch := first | omega | (simp only [SD.down, uA, uL] <;> omega) | fail) only [TA.down, TL.down, same_nilslice, resE, oneV, ↓reduceIte, reduceCtorEq, uB, uE, uL, uA, uM, uS, uN, uX, uO, vR, vD, vL, vK, vE, vA, vM, vT, vS]
          have gs : ((r1.new (Blk.cells (B zz) 0 false)).put r1.next (some (Blk.cells (B (S1.read x.i).1) 0 false))).get r1.next = some (.cells (B (S1.read x.i).1) 0 false) := by simp (maxSteps := 2000000) (implicitDefEqProofs := false) (disch := first | omega | (simp only [SD.down, uA, uL] <;> omega) | fail) only [TA.down, TL.down, same_nilslice, resE, oneV, ↓reduceIte, reduceCtorEq, uB, uE, uL, uA, uM, uS, uN, uX, uO, vR, vD, vL, vK, vE, vA, vM, vT, vS]
          generalize ((r1.new (Blk.cells (B zz) 0 false)).put r1.next (some (Blk.cells (B (S1.read x.i).1) 0 false))) = r2 at kp6 n6 gs ⊢
          first | refine G.call (m_read (d + 7) r2 (pnt C6 r1.next 0) 203 e S1 (T6.keeps kp6 (fun j hj hc => (pnt_lt hj).trans hc)) w1 x.i) ?_ | refine G.callC (m_read (d + 7) r2 (pnt C6 r1.next 0) 203 e S1 (T6.keeps kp6 (fun j hj hc => (pnt_lt hj).trans hc)) w1 x.i) ?_ | refine G.callL (m_read (d + 7) r2 (pnt C6 r1.next 0) 203 e S1 (T6.keeps kp6 (fun j hj hc => (pnt_lt hj).trans hc)) w1 x.i) ?_
          rintro v r3 ⟨rfl, kp7⟩
          have le7 := kp7.1
          have gs7 := (kp7.2 _ (by omega)).trans gs
          have eqs : eqlE Try.prog 25 (.agg (B (S1.read x.i).1)) (.agg (B (S1.read x.i).1)) = some true := by rw [eq25 _ _ rl rl, decide_eq_true rfl]
          have hd : decide ((S1.read x.i).2 = (S1.read x.i).2) = true := decide_eq_true rfl
          simp (maxSteps := 2000000) (implicitDefEqProofs := false) (disch := first | omega | (simp only [SD.down, uA, uL] <;> omega) | fail) only [t1, t7, t8, t9, t10, t11, gs7, eqs, bin_neq_agg, hd, rl, hzl, zz_fold, cutB_all, over_B, same_int, env_P, env_L, TA.down, TL.down, same_nilslice, resE, oneV, ↓reduceIte, reduceCtorEq, uB, uE, uL, uA, uM, uS, uN, uX, uO, vR, vD, vL, vK, vE, vA, vM, vT, vS]
          have kp8 : Keeps r1 ((r3.new (Blk.cells (B zz) 0 false)).put r3.next (some (Blk.cells (B (S1.read x.i).1) 0 false))) := ⟨by simp (maxSteps := 2000000) (implicitDefEqProofs := false) (disch := first | omega | (simp only [SD.down, uA, uL] <;> omega) | fail) only [TA.down, TL.down, same_nilslice, resE, oneV, ↓reduceIte, reduceCtorEq, uB, uE, uL, uA, uM, uS, uN, uX, uO, vR, vD, vL, vK, vE, vA, vM, vT, vS]; omega, fun j hj => by simp (maxSteps := 2000000) (implicitDefEqProofs := false) (disch := first | omega | (simp only [SD.down, uA, uL] <;> omega) | fail) only [TA.down, TL.down, same_nilslice, resE, oneV, ↓reduceIte, reduceCtorEq, uB, uE, uL, uA, uM, uS, uN, uX, uO, vR, vD, vL, vK, vE, vA, vM, vT, vS]; exact (kp7.2 j (by omega)).trans (kp6.2 j hj)⟩
          have n8 : ((r3.new (Blk.cells (B zz) 0 false)).put r3.next (some (Blk.cells (B (S1.read x.i).1) 0 false))).next = r3.next + 1 := by simp (maxSteps := 2000000) (implicitDefEqProofs := false) (disch := first | omega | (simp only [SD.down, uA, uL] <;> omega) | fail) only [TA.down, TL.down, same_nilslice, resE, oneV, ↓reduceIte, reduceCtorEq, uB, uE, uL, uA, uM, uS, uN, uX, uO, vR, vD, vL, vK, vE, vA, vM, vT, vS]
          generalize ((r3.new (Blk.cells (B zz) 0 false)).put r3.next (some (Blk.cells (B (S1.read x.i).1) 0 false))) = r4 at kp8 n8 ⊢
          refine ih _ _ ⟨q + 1, pnt C6 r1.next 0, _, S0, S1, by omega, by simp (maxSteps := 2000000) (implicitDefEqProofs := false) (disch := first | omega | (simp only [SD.down, uA, uL] <;> omega) | fail) only [t1, TA.down, TL.down, same_nilslice, resE, oneV, ↓reduceIte, reduceCtorEq, uB, uE, uL, uA, uM, uS, uN, uX, uO, vR, vD, vL, vK, vE, vA, vM, vT, vS], by simp (maxSteps := 2000000) (implicitDefEqProofs := false) (disch := first | omega | (simp only [SD.down, uA, uL] <;> omega) | fail) only [t7, TA.down, TL.down, same_nilslice, resE, oneV, ↓reduceIte, reduceCtorEq, uB, uE, uL, uA, uM, uS, uN, uX, uO, vR, vD, vL, vK, vE, vA, vM, vT, vS], by simp (maxSteps := 2000000) (implicitDefEqProofs := false) (disch := first | omega | (simp only [SD.down, uA, uL] <;> omega) | fail) only [t8, TA.down, TL.down, same_nilslice, resE, oneV, ↓reduceIte, reduceCtorEq, uB, uE, uL, uA, uM, uS, uN, uX, uO, vR, vD, vL, vK, vE, vA, vM, vT, vS], by simp (maxSteps := 2000000) (implicitDefEqProofs := false) (disch := first | omega | (simp only [SD.down, uA, uL] <;> omega) | fail) only [t9, TA.down, TL.down, same_nilslice, resE, oneV, ↓reduceIte, reduceCtorEq, uB, uE, uL, uA, uM, uS, uN, uX, uO, vR, vD, vL, vK, vE, vA, vM, vT, vS], by simp (maxSteps := 2000000) (implicitDefEqProofs := false) (disch := first | omega | (simp only [SD.down, uA, uL] <;> omega) | fail) only [t10, TA.down, TL.down, same_nilslice, resE, oneV, ↓reduceIte, reduceCtorEq, uB, uE, uL, uA, uM, uS, uN, uX, uO, vR, vD, vL, vK, vE, vA, vM, vT, vS], by simp (maxSteps := 2000000) (implicitDefEqProofs := false) (disch := first | omega | (simp only [SD.down, uA, uL] <;> omega) | fail) only [TA.down, TL.down, same_nilslice, resE, oneV, ↓reduceIte, reduceCtorEq, uB, uE, uL, uA, uM, uS, uN, uX, uO, vR, vD, vL, vK, vE, vA, vM, vT, vS], I6.keeps qq.w.msl kp8 (fun j hj => pnt_lt hj), qq, w0, w1, O6.keeps kp8 (fun j hj hc => (pnt_lt hj).trans hc), T6.keeps kp8 (fun j hj hc => (pnt_lt hj).trans hc), by omega, (pnt_lt (by omega)).trans cf6, (kp8.2 _ (by omega)).trans gf6, fun j hj => (pnt_lt (by have := I0n; omega)).trans (hC6' j hj), fun j hj => (kp8.2 j (by have := I0n; omega)).trans (hf6 j hj)⟩
        | 1, _ =>
          rw [hR] at e7
          simp (maxSteps := 2000000) (implicitDefEqProofs := false) (disch := first | omega | (simp only [SD.down, uA, uL] <;> omega) | fail) only [run_it, t1, t7, t8, t9, t10, t11, gA', hcut, xl, xc, xo, xd, azl, actZ_fold, x.at0, at1, x.at2, e7, gfz, hxo.1, lncA, lnoA, l2, env_P, env_L, TA.down, TL.down, same_nilslice, resE, oneV, ↓reduceIte, reduceCtorEq, uB, uE, uL, uA, uM, uS, uN, uX, uO, vR, vD, vL, vK, vE, vA, vM, vT, vS]
          have kp5 : Keeps q5 ((q5.new (Blk.cells actZ 0 false)).put q5.next (some (Blk.cells x.C 0 false))) := ⟨by simp (maxSteps := 2000000) (implicitDefEqProofs := false) (disch := first | omega | (simp only [SD.down, uA, uL] <;> omega) | fail) only [TA.down, TL.down, same_nilslice, resE, oneV, ↓reduceIte, reduceCtorEq, uB, uE, uL, uA, uM, uS, uN, uX, uO, vR, vD, vL, vK, vE, vA, vM, vT, vS]; omega, fun j hj => by simp (maxSteps := 2000000) (implicitDefEqProofs := false) (disch := first | omega | (simp only [SD.down, uA, uL] <;> omega) | fail) only [TA.down, TL.down, same_nilslice, resE, oneV, ↓reduceIte, reduceCtorEq, uB, uE, uL, uA, uM, uS, uN, uX, uO, vR, vD, vL, vK, vE, vA, vM, vT, vS]⟩
          have n5 : ((q5.new (Blk.cells actZ 0 false)).put q5.next (some (Blk.cells x.C 0 false))).next = q5.next + 1 := by simp (maxSteps := 2000000) (implicitDefEqProofs := false) (disch := first | omega | (simp only [SD.down, uA, uL] <;> omega) | fail) only [TA.down, TL.down, same_nilslice, resE, oneV, ↓reduceIte, reduceCtorEq, uB, uE, uL, uA, uM, uS, uN, uX, uO, vR, vD, vL, vK, vE, vA, vM, vT, vS]
          have gy : ((q5.new (Blk.cells actZ 0 false)).put q5.next (some (Blk.cells x.C 0 false))).get q5.next = some (.cells x.C 0 false) := by simp (maxSteps := 2000000) (implicitDefEqProofs := false) (disch := first | omega | (simp only [SD.down, uA, uL] <;> omega) | fail) only [TA.down, TL.down, same_nilslice, resE, oneV, ↓reduceIte, reduceCtorEq, uB, uE, uL, uA, uM, uS, uN, uX, uO, vR, vD, vL, vK, vE, vA, vM, vT, vS]
          generalize ((q5.new (Blk.cells actZ 0 false)).put q5.next (some (Blk.cells x.C 0 false))) = r0 at kp5 n5 gy ⊢
          have I0 : BusI r0 (pnt C q5.next 0) 100 β cp [a, b] bb := I.keeps Qi.w.msl kp5 (fun j hj => pnt_lt hj)
          have D0' : MemI r0 (pnt C q5.next 0) 202 c S0 := D0.keeps kp5 (fun j hj hc => (pnt_lt hj).trans hc)
          have D1' : MemI r0 (pnt C q5.next 0) 203 e S1 := D1.keeps kp5 (fun j hj hc => (pnt_lt hj).trans hc)
          have hlC : ∀ j, j < h.next → pnt C q5.next 0 j = 0 := fun j hj => (pnt_lt (by have := I0n; omega)).trans (hC j hj)
          have hlf : ∀ j, j < h.next → r0.get j = h.get j := fun j hj => (kp5.2 j (by have := I0n; omega)).trans (hf5 j hj)
          have lgq := Qi.lg
          first | refine G.call (bus_write (d + 1) r0 (pnt C q5.next 0) 100 β cp [a, b] bb 1 x.i x.x hxo.1 (by omega) I0 Qi.w Qi.lgB (by omega) (stq (d + 2) bb Qi.st (by omega))) ?_ | refine G.callC (bus_write (d + 1) r0 (pnt C q5.next 0) 100 β cp [a, b] bb 1 x.i x.x hxo.1 (by omega) I0 Qi.w Qi.lgB (by omega) (stq (d + 2) bb Qi.st (by omega))) ?_ | refine G.callL (bus_write (d + 1) r0 (pnt C q5.next 0) 100 β cp [a, b] bb 1 x.i x.x hxo.1 (by omega) I0 Qi.w Qi.lgB (by omega) (stq (d + 2) bb Qi.st (by omega))) ?_
          rintro v r1 ⟨C6, rfl, I6, fr6, hC6⟩
          have le6 := fr6.le
          obtain ⟨qe, _, qq0⟩ := Qi.at (qui bb Qi.st (by omega)) ⟨2, 1, x.i, x.x, 0⟩ (amWrite ⟨2, 1, x.i, x.x, 0⟩) true rfl (BS.write_wf Qi.w 1 x.i x.x hxo.1 (by omega) Qi.lgB (by omega)) (fun S => ⟨(write_n S _ _).1, write_mk S _ _, write_h S _ _, (write_n S _ _).2⟩)
          have qq : QI m (bb.write 1 x.i x.x).2 S0 (S1.write x.i x.x).1 (q + 1) := qq0
          have qe' : (bb.write 1 x.i x.x).1.e = (S1.write x.i x.x).2 := qe
          have gy6 : r1.get q5.next = some (.cells x.C 0 false) := (fr6.get _ (by omega) (by rw [pnt_ge (Nat.le_refl _)]; unfold busK; omega)).trans gy
          have T6 : MemI r1 C6 203 e S1 := D1'.fr fr6 (by unfold busK; omega) (fun j hj hc => (hC6 j hj).trans hc)
          have O6 : MemI r1 C6 202 c S0 := D0'.fr fr6 (by unfold busK; omega) (fun j hj hc => (hC6 j hj).trans hc)
          have cy6 : C6 q5.next = 0 := (hC6 _ (by omega)).trans (pnt_ge (Nat.le_refl _))
          have cf6 : C6 f = 0 := (hC6 _ (by omega)).trans ((pnt_lt hfl).trans Cfz)
          have gf6 : r1.get f = some (.cells [AV.ptr c 0, AV.ptr e 0] 0 false) := (fr6.get _ (by omega) (by rw [pnt_lt hfl, Cfz]; unfold busK; omega)).trans ((kp5.2 _ hfl).trans gfz)
          have hC6' : ∀ j, j < h.next → C6 j = 0 := fun j hj => (hC6 j (by have := I0n; omega)).trans (hlC j hj)
          have hf6 : ∀ j, j < h.next → r1.get j = h.get j := fun j hj => (fr6.get j (by have := I0n; omega) (by rw [hlC j hj]; unfold busK; omega)).trans (hlf j hj)
          simp (maxSteps := 2000000) (implicitDefEqProofs := false) (disch := first | omega | (simp only [SD.down, uA, uL] <;> omega) | fail) only [t1, t7, t8, t9, t10, t11, gy, gy6, xl, xc, xd, hxo.1, at1, x.at2, same_int, env_P, env_L, TA.down, TL.down, same_nilslice, resE, oneV, ↓reduceIte, reduceCtorEq, uB, uE, uL, uA, uM, uS, uN, uX, uO, vR, vD, vL, vK, vE, vA, vM, vT, vS]
          first | refine G.call (m_write (d + 7) r1 C6 203 e S1 T6 w1 x.i x.x hxo.1) ?_ | refine G.callC (m_write (d + 7) r1 C6 203 e S1 T6 w1 x.i x.x hxo.1) ?_ | refine G.callL (m_write (d + 7) r1 C6 203 e S1 T6 w1 x.i x.x hxo.1) ?_
          rintro v r2 ⟨rfl, N, fr7⟩
          have le7 := fr7.le
          have gy7 : r2.get q5.next = some (.cells x.C 0 false) := (fr7.get _ (by omega) (by rw [cy6]; omega)).trans gy6
          have hd : decide ((bb.write 1 x.i x.x).1.e = (S1.write x.i x.x).2) = true := decide_eq_true qe'
          simp (maxSteps := 2000000) (implicitDefEqProofs := false) (disch := first | omega | (simp only [SD.down, uA, uL] <;> omega) | fail) only [t1, t7, t8, t9, t10, t11, gy, gy6, gy7, hd, xl, xc, xd, hxo.1, at1, x.at2, same_int, same_B, env_P, env_L, TA.down, TL.down, same_nilslice, resE, oneV, ↓reduceIte, reduceCtorEq, uB, uE, uL, uA, uM, uS, uN, uX, uO, vR, vD, vL, vK, vE, vA, vM, vT, vS]
          refine ih _ _ ⟨q + 1, pnt C6 r1.next 203, _, S0, (S1.write x.i x.x).1, by omega, by simp (maxSteps := 2000000) (implicitDefEqProofs := false) (disch := first | omega | (simp only [SD.down, uA, uL] <;> omega) | fail) only [t1, TA.down, TL.down, same_nilslice, resE, oneV, ↓reduceIte, reduceCtorEq, uB, uE, uL, uA, uM, uS, uN, uX, uO, vR, vD, vL, vK, vE, vA, vM, vT, vS], by simp (maxSteps := 2000000) (implicitDefEqProofs := false) (disch := first | omega | (simp only [SD.down, uA, uL] <;> omega) | fail) only [t7, TA.down, TL.down, same_nilslice, resE, oneV, ↓reduceIte, reduceCtorEq, uB, uE, uL, uA, uM, uS, uN, uX, uO, vR, vD, vL, vK, vE, vA, vM, vT, vS], by simp (maxSteps := 2000000) (implicitDefEqProofs := false) (disch := first | omega | (simp only [SD.down, uA, uL] <;> omega) | fail) only [t8, TA.down, TL.down, same_nilslice, resE, oneV, ↓reduceIte, reduceCtorEq, uB, uE, uL, uA, uM, uS, uN, uX, uO, vR, vD, vL, vK, vE, vA, vM, vT, vS], by simp (maxSteps := 2000000) (implicitDefEqProofs := false) (disch := first | omega | (simp only [SD.down, uA, uL] <;> omega) | fail) only [t9, TA.down, TL.down, same_nilslice, resE, oneV, ↓reduceIte, reduceCtorEq, uB, uE, uL, uA, uM, uS, uN, uX, uO, vR, vD, vL, vK, vE, vA, vM, vT, vS], by simp (maxSteps := 2000000) (implicitDefEqProofs := false) (disch := first | omega | (simp only [SD.down, uA, uL] <;> omega) | fail) only [t10, TA.down, TL.down, same_nilslice, resE, oneV, ↓reduceIte, reduceCtorEq, uB, uE, uL, uA, uM, uS, uN, uX, uO, vR, vD, vL, vK, vE, vA, vM, vT, vS], by simp (maxSteps := 2000000) (implicitDefEqProofs := false) (disch := first | omega | (simp only [SD.down, uA, uL] <;> omega) | fail) only [TA.down, TL.down, same_nilslice, resE, oneV, ↓reduceIte, reduceCtorEq, uB, uE, uL, uA, uM, uS, uN, uX, uO, vR, vD, vL, vK, vE, vA, vM, vT, vS], I6.keep qq.w.msl fr7.le (fun j hj k1 k2 => fr7.get j hj (by omega)) (fun j hj => pnt_lt hj), qq, w0, write_wf w1 (by have := Qi.m1.2.2.2; omega) _ hxo.1, O6.fr fr7 (by omega) (fun j hj hc => (pnt_lt hj).trans hc), N, by omega, (pnt_lt (by omega)).trans cf6, (fr7.get _ (by omega) (by rw [cf6]; omega)).trans gf6, fun j hj => (pnt_lt (by have := I0n; omega)).trans (hC6' j hj), fun j hj => (fr7.get j (by have := I0n; omega) (by rw [hC6' j hj]; omega)).trans (hf6 j hj)⟩
        | 2, _ =>
          rw [hR] at e7
          simp (maxSteps := 2000000) (implicitDefEqProofs := false) (disch := first | omega | (simp only [SD.down, uA, uL] <;> omega) | fail) only [run_it, t1, t7, t8, t9, t10, t11, gA', hcut, xl, xc, xo, xd, azl, actZ_fold, x.at0, at1, x.at2, e7, gfz, hxo.1, lncA, lnoA, l2, env_P, env_L, TA.down, TL.down, same_nilslice, resE, oneV, ↓reduceIte, reduceCtorEq, uB, uE, uL, uA, uM, uS, uN, uX, uO, vR, vD, vL, vK, vE, vA, vM, vT, vS]
          have kp5 : Keeps q5 ((q5.new (Blk.cells actZ 0 false)).put q5.next (some (Blk.cells x.C 0 false))) := ⟨by simp (maxSteps := 2000000) (implicitDefEqProofs := false) (disch := first | omega | (simp only [SD.down, uA, uL] <;> omega) | fail) only [TA.down, TL.down, same_nilslice, resE, oneV, ↓reduceIte, reduceCtorEq, uB, uE, uL, uA, uM, uS, uN, uX, uO, vR, vD, vL, vK, vE, vA, vM, vT, vS]; omega, fun j hj => by simp (maxSteps := 2000000) (implicitDefEqProofs := false) (disch := first | omega | (simp only [SD.down, uA, uL] <;> omega) | fail) only [TA.down, TL.down, same_nilslice, resE, oneV, ↓reduceIte, reduceCtorEq, uB, uE, uL, uA, uM, uS, uN, uX, uO, vR, vD, vL, vK, vE, vA, vM, vT, vS]⟩
          have n5 : ((q5.new (Blk.cells actZ 0 false)).put q5.next (some (Blk.cells x.C 0 false))).next = q5.next + 1 := by simp (maxSteps := 2000000) (implicitDefEqProofs := false) (disch := first | omega | (simp only [SD.down, uA, uL] <;> omega) | fail) only [TA.down, TL.down, same_nilslice, resE, oneV, ↓reduceIte, reduceCtorEq, uB, uE, uL, uA, uM, uS, uN, uX, uO, vR, vD, vL, vK, vE, vA, vM, vT, vS]
          have gy : ((q5.new (Blk.cells actZ 0 false)).put q5.next (some (Blk.cells x.C 0 false))).get q5.next = some (.cells x.C 0 false) := by simp (maxSteps := 2000000) (implicitDefEqProofs := false) (disch := first | omega | (simp only [SD.down, uA, uL] <;> omega) | fail) only [TA.down, TL.down, same_nilslice, resE, oneV, ↓reduceIte, reduceCtorEq, uB, uE, uL, uA, uM, uS, uN, uX, uO, vR, vD, vL, vK, vE, vA, vM, vT, vS]
          generalize ((q5.new (Blk.cells actZ 0 false)).put q5.next (some (Blk.cells x.C 0 false))) = r0 at kp5 n5 gy ⊢
          have I0 : BusI r0 (pnt C q5.next 0) 100 β cp [a, b] bb := I.keeps Qi.w.msl kp5 (fun j hj => pnt_lt hj)
          have D0' : MemI r0 (pnt C q5.next 0) 202 c S0 := D0.keeps kp5 (fun j hj hc => (pnt_lt hj).trans hc)
          have D1' : MemI r0 (pnt C q5.next 0) 203 e S1 := D1.keeps kp5 (fun j hj hc => (pnt_lt hj).trans hc)
          have hlC : ∀ j, j < h.next → pnt C q5.next 0 j = 0 := fun j hj => (pnt_lt (by have := I0n; omega)).trans (hC j hj)
          have hlf : ∀ j, j < h.next → r0.get j = h.get j := fun j hj => (kp5.2 j (by have := I0n; omega)).trans (hf5 j hj)
          have lgq := Qi.lg
          first | refine G.call (bus_write (d + 1) r0 (pnt C q5.next 0) 100 β cp [a, b] bb 1 x.i x.x hxo.1 (by omega) I0 Qi.w Qi.lgB (by omega) (stq (d + 2) bb Qi.st (by omega))) ?_ | refine G.callC (bus_write (d + 1) r0 (pnt C q5.next 0) 100 β cp [a, b] bb 1 x.i x.x hxo.1 (by omega) I0 Qi.w Qi.lgB (by omega) (stq (d + 2) bb Qi.st (by omega))) ?_ | refine G.callL (bus_write (d + 1) r0 (pnt C q5.next 0) 100 β cp [a, b] bb 1 x.i x.x hxo.1 (by omega) I0 Qi.w Qi.lgB (by omega) (stq (d + 2) bb Qi.st (by omega))) ?_
          rintro v r1 ⟨C6, rfl, I6, fr6, hC6⟩
          have le6 := fr6.le
          obtain ⟨qe, _, qq0⟩ := Qi.at (qui bb Qi.st (by omega)) ⟨2, 1, x.i, x.x, 0⟩ (amWrite ⟨2, 1, x.i, x.x, 0⟩) true rfl (BS.write_wf Qi.w 1 x.i x.x hxo.1 (by omega) Qi.lgB (by omega)) (fun S => ⟨(write_n S _ _).1, write_mk S _ _, write_h S _ _, (write_n S _ _).2⟩)
          have qq : QI m (bb.write 1 x.i x.x).2 S0 (S1.write x.i x.x).1 (q + 1) := qq0
          have qe' : (bb.write 1 x.i x.x).1.e = (S1.write x.i x.x).2 := qe
          have gy6 : r1.get q5.next = some (.cells x.C 0 false) := (fr6.get _ (by omega) (by rw [pnt_ge (Nat.le_refl _)]; unfold busK; omega)).trans gy
          have T6 : MemI r1 C6 203 e S1 := D1'.fr fr6 (by unfold busK; omega) (fun j hj hc => (hC6 j hj).trans hc)
          have O6 : MemI r1 C6 202 c S0 := D0'.fr fr6 (by unfold busK; omega) (fun j hj hc => (hC6 j hj).trans hc)
          have cy6 : C6 q5.next = 0 := (hC6 _ (by omega)).trans (pnt_ge (Nat.le_refl _))
          have cf6 : C6 f = 0 := (hC6 _ (by omega)).trans ((pnt_lt hfl).trans Cfz)
          have gf6 : r1.get f = some (.cells [AV.ptr c 0, AV.ptr e 0] 0 false) := (fr6.get _ (by omega) (by rw [pnt_lt hfl, Cfz]; unfold busK; omega)).trans ((kp5.2 _ hfl).trans gfz)
          have hC6' : ∀ j, j < h.next → C6 j = 0 := fun j hj => (hC6 j (by have := I0n; omega)).trans (hlC j hj)
          have hf6 : ∀ j, j < h.next → r1.get j = h.get j := fun j hj => (fr6.get j (by have := I0n; omega) (by rw [hlC j hj]; unfold busK; omega)).trans (hlf j hj)
          simp (maxSteps := 2000000) (implicitDefEqProofs := false) (disch := first | omega | (simp only [SD.down, uA, uL] <;> omega) | fail) only [t1, t7, t8, t9, t10, t11, gy, gy6, xl, xc, xd, hxo.1, at1, x.at2, same_int, env_P, env_L, TA.down, TL.down, same_nilslice, resE, oneV, ↓reduceIte, reduceCtorEq, uB, uE, uL, uA, uM, uS, uN, uX, uO, vR, vD, vL, vK, vE, vA, vM, vT, vS]
          first | refine G.call (m_write (d + 7) r1 C6 203 e S1 T6 w1 x.i x.x hxo.1) ?_ | refine G.callC (m_write (d + 7) r1 C6 203 e S1 T6 w1 x.i x.x hxo.1) ?_ | refine G.callL (m_write (d + 7) r1 C6 203 e S1 T6 w1 x.i x.x hxo.1) ?_
          rintro v r2 ⟨rfl, N, fr7⟩
          have le7 := fr7.le
          have gy7 : r2.get q5.next = some (.cells x.C 0 false) := (fr7.get _ (by omega) (by rw [cy6]; omega)).trans gy6
          have hd : decide ((bb.write 1 x.i x.x).1.e = (S1.write x.i x.x).2) = true := decide_eq_true qe'
          simp (maxSteps := 2000000) (implicitDefEqProofs := false) (disch := first | omega | (simp only [SD.down, uA, uL] <;> omega) | fail) only [t1, t7, t8, t9, t10, t11, gy, gy6, gy7, hd, xl, xc, xd, hxo.1, at1, x.at2, same_int, same_B, env_P, env_L, TA.down, TL.down, same_nilslice, resE, oneV, ↓reduceIte, reduceCtorEq, uB, uE, uL, uA, uM, uS, uN, uX, uO, vR, vD, vL, vK, vE, vA, vM, vT, vS]
          refine ih _ _ ⟨q + 1, pnt C6 r1.next 203, _, S0, (S1.write x.i x.x).1, by omega, by simp (maxSteps := 2000000) (implicitDefEqProofs := false) (disch := first | omega | (simp only [SD.down, uA, uL] <;> omega) | fail) only [t1, TA.down, TL.down, same_nilslice, resE, oneV, ↓reduceIte, reduceCtorEq, uB, uE, uL, uA, uM, uS, uN, uX, uO, vR, vD, vL, vK, vE, vA, vM, vT, vS], by simp (maxSteps := 2000000) (implicitDefEqProofs := false) (disch := first | omega | (simp only [SD.down, uA, uL] <;> omega) | fail) only [t7, TA.down, TL.down, same_nilslice, resE, oneV, ↓reduceIte, reduceCtorEq, uB, uE, uL, uA, uM, uS, uN, uX, uO, vR, vD, vL, vK, vE, vA, vM, vT, vS], by simp (maxSteps := 2000000) (implicitDefEqProofs := false) (disch := first | omega | (simp only [SD.down, uA, uL] <;> omega) | fail) only [t8, TA.down, TL.down, same_nilslice, resE, oneV, ↓reduceIte, reduceCtorEq, uB, uE, uL, uA, uM, uS, uN, uX, uO, vR, vD, vL, vK, vE, vA, vM, vT, vS], by simp (maxSteps := 2000000) (implicitDefEqProofs := false) (disch := first | omega | (simp only [SD.down, uA, uL] <;> omega) | fail) only [t9, TA.down, TL.down, same_nilslice, resE, oneV, ↓reduceIte, reduceCtorEq, uB, uE, uL, uA, uM, uS, uN, uX, uO, vR, vD, vL, vK, vE, vA, vM, vT, vS], by simp (maxSteps := 2000000) (implicitDefEqProofs := false) (disch := first | omega | (simp only [SD.down, uA, uL] <;> omega) | fail) only [t10, TA.down, TL.down, same_nilslice, resE, oneV, ↓reduceIte, reduceCtorEq, uB, uE, uL, uA, uM, uS, uN, uX, uO, vR, vD, vL, vK, vE, vA, vM, vT, vS], by simp (maxSteps := 2000000) (implicitDefEqProofs := false) (disch := first | omega | (simp only [SD.down, uA, uL] <;> omega) | fail) only [TA.down, TL.down, same_nilslice, resE, oneV, ↓reduceIte, reduceCtorEq, uB, uE, uL, uA, uM, uS, uN, uX, uO, vR, vD, vL, vK, vE, vA, vM, vT, vS], I6.keep qq.w.msl fr7.le (fun j hj k1 k2 => fr7.get j hj (by omega)) (fun j hj => pnt_lt hj), qq, w0, write_wf w1 (by have := Qi.m1.2.2.2; omega) _ hxo.1, O6.fr fr7 (by omega) (fun j hj hc => (pnt_lt hj).trans hc), N, by omega, (pnt_lt (by omega)).trans cf6, (fr7.get _ (by omega) (by rw [cf6]; omega)).trans gf6, fun j hj => (pnt_lt (by have := I0n; omega)).trans (hC6' j hj), fun j hj => (fr7.get j (by have := I0n; omega) (by rw [hC6' j hj]; omega)).trans (hf6 j hj)⟩
        | 3, _ =>
          rw [hR] at e7
          simp (maxSteps := 2000000) (implicitDefEqProofs := false) (disch := first | omega | (simp only [SD.down, uA, uL] <;> omega) | fail) only [run_it, t1, t7, t8, t9, t10, t11, gA', hcut, xl, xc, xo, xd, azl, actZ_fold, x.at0, at1, x.at2, e7, gfz, hxo.1, lncA, lnoA, l2, env_P, env_L, TA.down, TL.down, same_nilslice, resE, oneV, ↓reduceIte, reduceCtorEq, uB, uE, uL, uA, uM, uS, uN, uX, uO, vR, vD, vL, vK, vE, vA, vM, vT, vS]
          have kp5 : Keeps q5 ((q5.new (Blk.cells actZ 0 false)).put q5.next (some (Blk.cells x.C 0 false))) := ⟨by simp (maxSteps := 2000000) (implicitDefEqProofs := false) (disch := first | omega | (simp only [SD.down, uA, uL] <;> omega) | fail) only [TA.down, TL.down, same_nilslice, resE, oneV, ↓reduceIte, reduceCtorEq, uB, uE, uL, uA, uM, uS, uN, uX, uO, vR, vD, vL, vK, vE, vA, vM, vT, vS]; omega, fun j hj => by simp (maxSteps := 2000000) (implicitDefEqProofs := false) (disch := first | omega | (simp only [SD.down, uA, uL] <;> omega) | fail) only [TA.down, TL.down, same_nilslice, resE, oneV, ↓reduceIte, reduceCtorEq, uB, uE, uL, uA, uM, uS, uN, uX, uO, vR, vD, vL, vK, vE, vA, vM, vT, vS]⟩
          have n5 : ((q5.new (Blk.cells actZ 0 false)).put q5.next (some (Blk.cells x.C 0 false))).next = q5.next + 1 := by simp (maxSteps := 2000000) (implicitDefEqProofs := false) (disch := first | omega | (simp only [SD.down, uA, uL] <;> omega) | fail) only [TA.down, TL.down, same_nilslice, resE, oneV, ↓reduceIte, reduceCtorEq, uB, uE, uL, uA, uM, uS, uN, uX, uO, vR, vD, vL, vK, vE, vA, vM, vT, vS]
          have gy : ((q5.new (Blk.cells actZ 0 false)).put q5.next (some (Blk.cells x.C 0 false))).get q5.next = some (.cells x.C 0 false) := by simp (maxSteps := 2000000) (implicitDefEqProofs := false) (disch := first | omega | (simp only [SD.down, uA, uL] <;> omega) | fail) only [TA.down, TL.down, same_nilslice, resE, oneV, ↓reduceIte, reduceCtorEq, uB, uE, uL, uA, uM, uS, uN, uX, uO, vR, vD, vL, vK, vE, vA, vM, vT, vS]
          generalize ((q5.new (Blk.cells actZ 0 false)).put q5.next (some (Blk.cells x.C 0 false))) = r0 at kp5 n5 gy ⊢
          have I0 : BusI r0 (pnt C q5.next 0) 100 β cp [a, b] bb := I.keeps Qi.w.msl kp5 (fun j hj => pnt_lt hj)
          have D0' : MemI r0 (pnt C q5.next 0) 202 c S0 := D0.keeps kp5 (fun j hj hc => (pnt_lt hj).trans hc)
          have D1' : MemI r0 (pnt C q5.next 0) 203 e S1 := D1.keeps kp5 (fun j hj hc => (pnt_lt hj).trans hc)
          have hlC : ∀ j, j < h.next → pnt C q5.next 0 j = 0 := fun j hj => (pnt_lt (by have := I0n; omega)).trans (hC j hj)
          have hlf : ∀ j, j < h.next → r0.get j = h.get j := fun j hj => (kp5.2 j (by have := I0n; omega)).trans (hf5 j hj)
          have lgq := Qi.lg
          first | refine G.call (bus_flush (d + 1) r0 (pnt C q5.next 0) 100 β cp [a, b] bb 1 (by omega) I0 Qi.w (stq (d + 2) bb Qi.st (by omega))) ?_ | refine G.callC (bus_flush (d + 1) r0 (pnt C q5.next 0) 100 β cp [a, b] bb 1 (by omega) I0 Qi.w (stq (d + 2) bb Qi.st (by omega))) ?_ | refine G.callL (bus_flush (d + 1) r0 (pnt C q5.next 0) 100 β cp [a, b] bb 1 (by omega) I0 Qi.w (stq (d + 2) bb Qi.st (by omega))) ?_
          rintro v r1 ⟨C6, rfl, I6, fr6, hC6⟩
          have le6 := fr6.le
          obtain ⟨qe, _, qq0⟩ := Qi.at (qui bb Qi.st (by omega)) ⟨3, 1, 0, zz, 0⟩ (amFlush ⟨3, 1, 0, zz, 0⟩) true rfl (BS.flush_wf Qi.w 1 (by omega)) (fun S => ⟨(flush_n S).1, flush_mk S, flush_h S, Nat.le_succ_of_le (flush_n S).2⟩)
          have qq : QI m (bb.flush 1).2 S0 (S1.flush).1 (q + 1) := qq0
          have qe' : (bb.flush 1).1.e = (S1.flush).2 := qe
          have gy6 : r1.get q5.next = some (.cells x.C 0 false) := (fr6.get _ (by omega) (by rw [pnt_ge (Nat.le_refl _)]; unfold busK; omega)).trans gy
          have T6 : MemI r1 C6 203 e S1 := D1'.fr fr6 (by unfold busK; omega) (fun j hj hc => (hC6 j hj).trans hc)
          have O6 : MemI r1 C6 202 c S0 := D0'.fr fr6 (by unfold busK; omega) (fun j hj hc => (hC6 j hj).trans hc)
          have cy6 : C6 q5.next = 0 := (hC6 _ (by omega)).trans (pnt_ge (Nat.le_refl _))
          have cf6 : C6 f = 0 := (hC6 _ (by omega)).trans ((pnt_lt hfl).trans Cfz)
          have gf6 : r1.get f = some (.cells [AV.ptr c 0, AV.ptr e 0] 0 false) := (fr6.get _ (by omega) (by rw [pnt_lt hfl, Cfz]; unfold busK; omega)).trans ((kp5.2 _ hfl).trans gfz)
          have hC6' : ∀ j, j < h.next → C6 j = 0 := fun j hj => (hC6 j (by have := I0n; omega)).trans (hlC j hj)
          have hf6 : ∀ j, j < h.next → r1.get j = h.get j := fun j hj => (fr6.get j (by have := I0n; omega) (by rw [hlC j hj]; unfold busK; omega)).trans (hlf j hj)
          simp (maxSteps := 2000000) (implicitDefEqProofs := false) (disch := first | omega | (simp only [SD.down, uA, uL] <;> omega) | fail) only [t1, t7, t8, t9, t10, t11, gy, gy6, xl, xc, xd, hxo.1, at1, x.at2, same_int, env_P, env_L, TA.down, TL.down, same_nilslice, resE, oneV, ↓reduceIte, reduceCtorEq, uB, uE, uL, uA, uM, uS, uN, uX, uO, vR, vD, vL, vK, vE, vA, vM, vT, vS]
          first | refine G.call (m_flush (d + 6) r1 C6 203 e S1 T6 w1) ?_ | refine G.callC (m_flush (d + 6) r1 C6 203 e S1 T6 w1) ?_ | refine G.callL (m_flush (d + 6) r1 C6 203 e S1 T6 w1) ?_
          rintro v r2 ⟨rfl, N, fr7⟩
          have le7 := fr7.le
          have gy7 : r2.get q5.next = some (.cells x.C 0 false) := (fr7.get _ (by omega) (by rw [cy6]; omega)).trans gy6
          have hd : decide ((bb.flush 1).1.e = (S1.flush).2) = true := decide_eq_true qe'
          simp (maxSteps := 2000000) (implicitDefEqProofs := false) (disch := first | omega | (simp only [SD.down, uA, uL] <;> omega) | fail) only [t1, t7, t8, t9, t10, t11, gy, gy6, gy7, hd, xl, xc, xd, hxo.1, at1, x.at2, same_int, same_B, env_P, env_L, TA.down, TL.down, same_nilslice, resE, oneV, ↓reduceIte, reduceCtorEq, uB, uE, uL, uA, uM, uS, uN, uX, uO, vR, vD, vL, vK, vE, vA, vM, vT, vS]
          refine ih _ _ ⟨q + 1, pnt C6 r1.next 203, _, S0, (S1.flush).1, by omega, by simp (maxSteps := 2000000) (implicitDefEqProofs := false) (disch := first | omega | (simp only [SD.down, uA, uL] <;> omega) | fail) only [t1, TA.down, TL.down, same_nilslice, resE, oneV, ↓reduceIte, reduceCtorEq, uB, uE, uL, uA, uM, uS, uN, uX, uO, vR, vD, vL, vK, vE, vA, vM, vT, vS], by simp (maxSteps := 2000000) (implicitDefEqProofs := false) (disch := first | omega | (simp only [SD.down, uA, uL] <;> omega) | fail) only [t7, TA.down, TL.down, same_nilslice, resE, oneV, ↓reduceIte, reduceCtorEq, uB, uE, uL, uA, uM, uS, uN, uX, uO, vR, vD, vL, vK, vE, vA, vM, vT, vS], by simp (maxSteps := 2000000) (implicitDefEqProofs := false) (disch := first | omega | (simp only [SD.down, uA, uL] <;> omega) | fail) only [t8, TA.down, TL.down, same_nilslice, resE, oneV, ↓reduceIte, reduceCtorEq, uB, uE, uL, uA, uM, uS, uN, uX, uO, vR, vD, vL, vK, vE, vA, vM, vT, vS], by simp (maxSteps := 2000000) (implicitDefEqProofs := false) (disch := first | omega | (simp only [SD.down, uA, uL] <;> omega) | fail) only [t9, TA.down, TL.down, same_nilslice, resE, oneV, ↓reduceIte, reduceCtorEq, uB, uE, uL, uA, uM, uS, uN, uX, uO, vR, vD, vL, vK, vE, vA, vM, vT, vS], by simp (maxSteps := 2000000) (implicitDefEqProofs := false) (disch := first | omega | (simp only [SD.down, uA, uL] <;> omega) | fail) only [t10, TA.down, TL.down, same_nilslice, resE, oneV, ↓reduceIte, reduceCtorEq, uB, uE, uL, uA, uM, uS, uN, uX, uO, vR, vD, vL, vK, vE, vA, vM, vT, vS], by simp (maxSteps := 2000000) (implicitDefEqProofs := false) (disch := first | omega | (simp only [SD.down, uA, uL] <;> omega) | fail) only [TA.down, TL.down, same_nilslice, resE, oneV, ↓reduceIte, reduceCtorEq, uB, uE, uL, uA, uM, uS, uN, uX, uO, vR, vD, vL, vK, vE, vA, vM, vT, vS], I6.keep qq.w.msl fr7.le (fun j hj k1 k2 => fr7.get j hj (by omega)) (fun j hj => pnt_lt hj), qq, w0, flush_wf w1, O6.fr fr7 (by omega) (fun j hj hc => (pnt_lt hj).trans hc), N, by omega, (pnt_lt (by omega)).trans cf6, (fr7.get _ (by omega) (by rw [cf6]; omega)).trans gf6, fun j hj => (pnt_lt (by have := I0n; omega)).trans (hC6' j hj), fun j hj => (fr7.get j (by have := I0n; omega) (by rw [hC6' j hj]; omega)).trans (hf6 j hj)⟩
        | 4, _ =>
          rw [hR] at e7
          simp (maxSteps := 2000000) (implicitDefEqProofs := false) (disch := first | omega | (simp only [SD.down, uA, uL] <;> omega) | fail) only [run_it, t1, t7, t8, t9, t10, t11, gA', hcut, xl, xc, xo, xd, azl, actZ_fold, x.at0, at1, x.at2, e7, gfz, hxo.1, lncA, lnoA, l2, env_P, env_L, TA.down, TL.down, same_nilslice, resE, oneV, ↓reduceIte, reduceCtorEq, uB, uE, uL, uA, uM, uS, uN, uX, uO, vR, vD, vL, vK, vE, vA, vM, vT, vS]
          have kp5 : Keeps q5 ((q5.new (Blk.cells actZ 0 false)).put q5.next (some (Blk.cells x.C 0 false))) := ⟨by simp (maxSteps := 2000000) (implicitDefEqProofs := false) (disch := first | omega | (simp only [SD.down, uA, uL] <;> omega) | fail) only [TA.down, TL.down, same_nilslice, resE, oneV, ↓reduceIte, reduceCtorEq, uB, uE, uL, uA, uM, uS, uN, uX, uO, vR, vD, vL, vK, vE, vA, vM, vT, vS]; omega, fun j hj => by simp (maxSteps := 2000000) (implicitDefEqProofs := false) (disch := first | omega | (simp only [SD.down, uA, uL] <;> omega) | fail) only [TA.down, TL.down, same_nilslice, resE, oneV, ↓reduceIte, reduceCtorEq, uB, uE, uL, uA, uM, uS, uN, uX, uO, vR, vD, vL, vK, vE, vA, vM, vT, vS]⟩
          have n5 : ((q5.new (Blk.cells actZ 0 false)).put q5.next (some (Blk.cells x.C 0 false))).next = q5.next + 1 := by simp (maxSteps := 2000000) (implicitDefEqProofs := false) (disch := first | omega | (simp only [SD.down, uA, uL] <;> omega) | fail) only [TA.down, TL.down, same_nilslice, resE, oneV, ↓reduceIte, reduceCtorEq, uB, uE, uL, uA, uM, uS, uN, uX, uO, vR, vD, vL, vK, vE, vA, vM, vT, vS]
          have gy : ((q5.new (Blk.cells actZ 0 false)).put q5.next (some (Blk.cells x.C 0 false))).get q5.next = some (.cells x.C 0 false) := by simp (maxSteps := 2000000) (implicitDefEqProofs := false) (disch := first | omega | (simp only [SD.down, uA, uL] <;> omega) | fail) only [TA.down, TL.down, same_nilslice, resE, oneV, ↓reduceIte, reduceCtorEq, uB, uE, uL, uA, uM, uS, uN, uX, uO, vR, vD, vL, vK, vE, vA, vM, vT, vS]
          generalize ((q5.new (Blk.cells actZ 0 false)).put q5.next (some (Blk.cells x.C 0 false))) = r0 at kp5 n5 gy ⊢
          have I0 : BusI r0 (pnt C q5.next 0) 100 β cp [a, b] bb := I.keeps Qi.w.msl kp5 (fun j hj => pnt_lt hj)
          have D0' : MemI r0 (pnt C q5.next 0) 202 c S0 := D0.keeps kp5 (fun j hj hc => (pnt_lt hj).trans hc)
          have D1' : MemI r0 (pnt C q5.next 0) 203 e S1 := D1.keeps kp5 (fun j hj hc => (pnt_lt hj).trans hc)
          have hlC : ∀ j, j < h.next → pnt C q5.next 0 j = 0 := fun j hj => (pnt_lt (by have := I0n; omega)).trans (hC j hj)
          have hlf : ∀ j, j < h.next → r0.get j = h.get j := fun j hj => (kp5.2 j (by have := I0n; omega)).trans (hf5 j hj)
          refine ih _ _ ⟨q + 1, pnt C q5.next 0, bb, S0, S1, by omega, by simp (maxSteps := 2000000) (implicitDefEqProofs := false) (disch := first | omega | (simp only [SD.down, uA, uL] <;> omega) | fail) only [t1, TA.down, TL.down, same_nilslice, resE, oneV, ↓reduceIte, reduceCtorEq, uB, uE, uL, uA, uM, uS, uN, uX, uO, vR, vD, vL, vK, vE, vA, vM, vT, vS], by simp (maxSteps := 2000000) (implicitDefEqProofs := false) (disch := first | omega | (simp only [SD.down, uA, uL] <;> omega) | fail) only [t7, TA.down, TL.down, same_nilslice, resE, oneV, ↓reduceIte, reduceCtorEq, uB, uE, uL, uA, uM, uS, uN, uX, uO, vR, vD, vL, vK, vE, vA, vM, vT, vS], by simp (maxSteps := 2000000) (implicitDefEqProofs := false) (disch := first | omega | (simp only [SD.down, uA, uL] <;> omega) | fail) only [t8, TA.down, TL.down, same_nilslice, resE, oneV, ↓reduceIte, reduceCtorEq, uB, uE, uL, uA, uM, uS, uN, uX, uO, vR, vD, vL, vK, vE, vA, vM, vT, vS], by simp (maxSteps := 2000000) (implicitDefEqProofs := false) (disch := first | omega | (simp only [SD.down, uA, uL] <;> omega) | fail) only [t9, TA.down, TL.down, same_nilslice, resE, oneV, ↓reduceIte, reduceCtorEq, uB, uE, uL, uA, uM, uS, uN, uX, uO, vR, vD, vL, vK, vE, vA, vM, vT, vS], by simp (maxSteps := 2000000) (implicitDefEqProofs := false) (disch := first | omega | (simp only [SD.down, uA, uL] <;> omega) | fail) only [t10, TA.down, TL.down, same_nilslice, resE, oneV, ↓reduceIte, reduceCtorEq, uB, uE, uL, uA, uM, uS, uN, uX, uO, vR, vD, vL, vK, vE, vA, vM, vT, vS], by simp (maxSteps := 2000000) (implicitDefEqProofs := false) (disch := first | omega | (simp only [SD.down, uA, uL] <;> omega) | fail) only [TA.down, TL.down, same_nilslice, resE, oneV, ↓reduceIte, reduceCtorEq, uB, uE, uL, uA, uM, uS, uN, uX, uO, vR, vD, vL, vK, vE, vA, vM, vT, vS], I0, Qi.mono (Nat.le_succ _), w0, w1, D0', D1', by omega, (pnt_lt hfl).trans Cfz, (kp5.2 _ hfl).trans gfz, hlC, hlf⟩
        | 5, _ =>
          rw [hR] at e7
          simp (maxSteps := 2000000) (implicitDefEqProofs := false) (disch := first | omega | (simp only [SD.down, uA, uL] <;> omega) | fail) only [run_it, t1, t7, t8, t9, t10, t11, gA', hcut, xl, xc, xo, xd, azl, actZ_fold, x.at0, at1, x.at2, e7, gfz, hxo.1, lncA, lnoA, l2, env_P, env_L, TA.down, TL.down, same_nilslice, resE, oneV, ↓reduceIte, reduceCtorEq, uB, uE, uL, uA, uM, uS, uN, uX, uO, vR, vD, vL, vK, vE, vA, vM, vT, vS]
          have kp5 : Keeps q5 ((q5.new (Blk.cells actZ 0 false)).put q5.next (some (Blk.cells x.C 0 false))) := ⟨by simp (maxSteps := 2000000) (implicitDefEqProofs := false) (disch := first | omega | (simp only [SD.down, uA, uL] <;> omega) | fail) only [TA.down, TL.down, same_nilslice, resE, oneV, ↓reduceIte, reduceCtorEq, uB, uE, uL, uA, uM, uS, uN, uX, uO, vR, vD, vL, vK, vE, vA, vM, vT, vS]; omega, fun j hj => by simp (maxSteps := 2000000) (implicitDefEqProofs := false) (disch := first | omega | (simp only [SD.down, uA, uL] <;> omega) | fail) only [TA.down, TL.down, same_nilslice, resE, oneV, ↓reduceIte, reduceCtorEq, uB, uE, uL, uA, uM, uS, uN, uX, uO, vR, vD, vL, vK, vE, vA, vM, vT, vS]⟩
          have n5 : ((q5.new (Blk.cells actZ 0 false)).put q5.next (some (Blk.cells x.C 0 false))).next = q5.next + 1 := by simp (maxSteps := 2000000) (implicitDefEqProofs := false) (disch := first | omega | (simp only [SD.down, uA, uL] <;> omega) | fail) only [TA.down, TL.down, same_nilslice, resE, oneV, ↓reduceIte, reduceCtorEq, uB, uE, uL, uA, uM, uS, uN, uX, uO, vR, vD, vL, vK, vE, vA, vM, vT, vS]
          have gy : ((q5.new (Blk.cells actZ 0 false)).put q5.next (some (Blk.cells x.C 0 false))).get q5.next = some (.cells x.C 0 false) := by simp (maxSteps := 2000000) (implicitDefEqProofs := false) (disch := first | omega | (simp only [SD.down, uA, uL] <;> omega) | fail) only [TA.down, TL.down, same_nilslice, resE, oneV, ↓reduceIte, reduceCtorEq, uB, uE, uL, uA, uM, uS, uN, uX, uO, vR, vD, vL, vK, vE, vA, vM, vT, vS]
          generalize ((q5.new (Blk.cells actZ 0 false)).put q5.next (some (Blk.cells x.C 0 false))) = r0 at kp5 n5 gy ⊢
          have I0 : BusI r0 (pnt C q5.next 0) 100 β cp [a, b] bb := I.keeps Qi.w.msl kp5 (fun j hj => pnt_lt hj)
          have D0' : MemI r0 (pnt C q5.next 0) 202 c S0 := D0.keeps kp5 (fun j hj hc => (pnt_lt hj).trans hc)
          have D1' : MemI r0 (pnt C q5.next 0) 203 e S1 := D1.keeps kp5 (fun j hj hc => (pnt_lt hj).trans hc)
          have hlC : ∀ j, j < h.next → pnt C q5.next 0 j = 0 := fun j hj => (pnt_lt (by have := I0n; omega)).trans (hC j hj)
          have hlf : ∀ j, j < h.next → r0.get j = h.get j := fun j hj => (kp5.2 j (by have := I0n; omega)).trans (hf5 j hj)
          refine ih _ _ ⟨q + 1, pnt C q5.next 0, bb, S0, S1, by omega, by simp (maxSteps := 2000000) (implicitDefEqProofs := false) (disch := first | omega | (simp only [SD.down, uA, uL] <;> omega) | fail) only [t1, TA.down, TL.down, same_nilslice, resE, oneV, ↓reduceIte, reduceCtorEq, uB, uE, uL, uA, uM, uS, uN, uX, uO, vR, vD, vL, vK, vE, vA, vM, vT, vS], by simp (maxSteps := 2000000) (implicitDefEqProofs := false) (disch := first | omega | (simp only [SD.down, uA, uL] <;> omega) | fail) only [t7, TA.down, TL.down, same_nilslice, resE, oneV, ↓reduceIte, reduceCtorEq, uB, uE, uL, uA, uM, uS, uN, uX, uO, vR, vD, vL, vK, vE, vA, vM, vT, vS], by simp (maxSteps := 2000000) (implicitDefEqProofs := false) (disch := first | omega | (simp only [SD.down, uA, uL] <;> omega) | fail) only [t8, TA.down, TL.down, same_nilslice, resE, oneV, ↓reduceIte, reduceCtorEq, uB, uE, uL, uA, uM, uS, uN, uX, uO, vR, vD, vL, vK, vE, vA, vM, vT, vS], by simp (maxSteps := 2000000) (implicitDefEqProofs := false) (disch := first | omega | (simp only [SD.down, uA, uL] <;> omega) | fail) only [t9, TA.down, TL.down, same_nilslice, resE, oneV, ↓reduceIte, reduceCtorEq, uB, uE, uL, uA, uM, uS, uN, uX, uO, vR, vD, vL, vK, vE, vA, vM, vT, vS], by simp (maxSteps := 2000000) (implicitDefEqProofs := false) (disch := first | omega | (simp only [SD.down, uA, uL] <;> omega) | fail) only [t10, TA.down, TL.down, same_nilslice, resE, oneV, ↓reduceIte, reduceCtorEq, uB, uE, uL, uA, uM, uS, uN, uX, uO, vR, vD, vL, vK, vE, vA, vM, vT, vS], by simp (maxSteps := 2000000) (implicitDefEqProofs := false) (disch := first | omega | (simp only [SD.down, uA, uL] <;> omega) | fail) only [TA.down, TL.down, same_nilslice, resE, oneV, ↓reduceIte, reduceCtorEq, uB, uE, uL, uA, uM, uS, uN, uX, uO, vR, vD, vL, vK, vE, vA, vM, vT, vS], I0, Qi.mono (Nat.le_succ _), w0, w1, D0', D1', by omega, (pnt_lt hfl).trans Cfz, (kp5.2 _ hfl).trans gfz, hlC, hlf⟩
        | 6, _ =>
          rw [hR] at e7
          simp (maxSteps := 2000000) (implicitDefEqProofs := false) (disch := first | omega | (simp only [SD.down, uA, uL] <;> omega) | fail) only [run_it, t1, t7, t8, t9, t10, t11, gA', hcut, xl, xc, xo, xd, azl, actZ_fold, x.at0, at1, x.at2, e7, gfz, hxo.1, lncA, lnoA, l2, env_P, env_L, TA.down, TL.down, same_nilslice, resE, oneV, ↓reduceIte, reduceCtorEq, uB, uE, uL, uA, uM, uS, uN, uX, uO, vR, vD, vL, vK, vE, vA, vM, vT, vS]
          have kp5 : Keeps q5 ((q5.new (Blk.cells actZ 0 false)).put q5.next (some (Blk.cells x.C 0 false))) := ⟨by simp (maxSteps := 2000000) (implicitDefEqProofs := false) (disch := first | omega | (simp only [SD.down, uA, uL] <;> omega) | fail) only [TA.down, TL.down, same_nilslice, resE, oneV, ↓reduceIte, reduceCtorEq, uB, uE, uL, uA, uM, uS, uN, uX, uO, vR, vD, vL, vK, vE, vA, vM, vT, vS]; omega, fun j hj => by simp (maxSteps := 2000000) (implicitDefEqProofs := false) (disch := first | omega | (simp only [SD.down, uA, uL] <;> omega) | fail) only [TA.down, TL.down, same_nilslice, resE, oneV, ↓reduceIte, reduceCtorEq, uB, uE, uL, uA, uM, uS, uN, uX, uO, vR, vD, vL, vK, vE, vA, vM, vT, vS]⟩
          have n5 : ((q5.new (Blk.cells actZ 0 false)).put q5.next (some (Blk.cells x.C 0 false))).next = q5.next + 1 := by simp (maxSteps := 2000000) (implicitDefEqProofs := false) (disch := first | omega | (simp only [SD.down, uA, uL] <;> omega) | fail) only [TA.down, TL.down, same_nilslice, resE, oneV, ↓reduceIte, reduceCtorEq, uB, uE, uL, uA, uM, uS, uN, uX, uO, vR, vD, vL, vK, vE, vA, vM, vT, vS]
          have gy : ((q5.new (Blk.cells actZ 0 false)).put q5.next (some (Blk.cells x.C 0 false))).get q5.next = some (.cells x.C 0 false) := by simp (maxSteps := 2000000) (implicitDefEqProofs := false) (disch := first | omega | (simp only [SD.down, uA, uL] <;> omega) | fail) only [TA.down, TL.down, same_nilslice, resE, oneV, ↓reduceIte, reduceCtorEq, uB, uE, uL, uA, uM, uS, uN, uX, uO, vR, vD, vL, vK, vE, vA, vM, vT, vS]
          generalize ((q5.new (Blk.cells actZ 0 false)).put q5.next (some (Blk.cells x.C 0 false))) = r0 at kp5 n5 gy ⊢
          have I0 : BusI r0 (pnt C q5.next 0) 100 β cp [a, b] bb := I.keeps Qi.w.msl kp5 (fun j hj => pnt_lt hj)
          have D0' : MemI r0 (pnt C q5.next 0) 202 c S0 := D0.keeps kp5 (fun j hj hc => (pnt_lt hj).trans hc)
          have D1' : MemI r0 (pnt C q5.next 0) 203 e S1 := D1.keeps kp5 (fun j hj hc => (pnt_lt hj).trans hc)
          have hlC : ∀ j, j < h.next → pnt C q5.next 0 j = 0 := fun j hj => (pnt_lt (by have := I0n; omega)).trans (hC j hj)
          have hlf : ∀ j, j < h.next → r0.get j = h.get j := fun j hj => (kp5.2 j (by have := I0n; omega)).trans (hf5 j hj)
          refine ih _ _ ⟨q + 1, pnt C q5.next 0, bb, S0, S1, by omega, by simp (maxSteps := 2000000) (implicitDefEqProofs := false) (disch := first | omega | (simp only [SD.down, uA, uL] <;> omega) | fail) only [t1, TA.down, TL.down, same_nilslice, resE, oneV, ↓reduceIte, reduceCtorEq, uB, uE, uL, uA, uM, uS, uN, uX, uO, vR, vD, vL, vK, vE, vA, vM, vT, vS], by simp (maxSteps := 2000000) (implicitDefEqProofs := false) (disch := first | omega | (simp only [SD.down, uA, uL] <;> omega) | fail) only [t7, TA.down, TL.down, same_nilslice, resE, oneV, ↓reduceIte, reduceCtorEq, uB, uE, uL, uA, uM, uS, uN, uX, uO, vR, vD, vL, vK, vE, vA, vM, vT, vS], by simp (maxSteps := 2000000) (implicitDefEqProofs := false) (disch := first | omega | (simp only [SD.down, uA, uL] <;> omega) | fail) only [t8, TA.down, TL.down, same_nilslice, resE, oneV, ↓reduceIte, reduceCtorEq, uB, uE, uL, uA, uM, uS, uN, uX, uO, vR, vD, vL, vK, vE, vA, vM, vT, vS], by simp (maxSteps := 2000000) (implicitDefEqProofs := false) (disch := first | omega | (simp only [SD.down, uA, uL] <;> omega) | fail) only [t9, TA.down, TL.down, same_nilslice, resE, oneV, ↓reduceIte, reduceCtorEq, uB, uE, uL, uA, uM, uS, uN, uX, uO, vR, vD, vL, vK, vE, vA, vM, vT, vS], by simp (maxSteps := 2000000) (implicitDefEqProofs := false) (disch := first | omega | (simp only [SD.down, uA, uL] <;> omega) | fail) only [t10, TA.down, TL.down, same_nilslice, resE, oneV, ↓reduceIte, reduceCtorEq, uB, uE, uL, uA, uM, uS, uN, uX, uO, vR, vD, vL, vK, vE, vA, vM, vT, vS], by simp (maxSteps := 2000000) (implicitDefEqProofs := false) (disch := first | omega | (simp only [SD.down, uA, uL] <;> omega) | fail) only [TA.down, TL.down, same_nilslice, resE, oneV, ↓reduceIte, reduceCtorEq, uB, uE, uL, uA, uM, uS, uN, uX, uO, vR, vD, vL, vK, vE, vA, vM, vT, vS], I0, Qi.mono (Nat.le_succ _), w0, w1, D0', D1', by omega, (pnt_lt hfl).trans Cfz, (kp5.2 _ hfl).trans gfz, hlC, hlf⟩
        | 7, _ =>
          rw [hR] at e7
          simp (maxSteps := 2000000) (implicitDefEqProofs := false) (disch := first | omega | (simp only [SD.down, uA, uL] <;> omega) | fail) only [run_it, t1, t7, t8, t9, t10, t11, gA', hcut, xl, xc, xo, xd, azl, actZ_fold, x.at0, at1, x.at2, e7, gfz, hxo.1, lncA, lnoA, l2, env_P, env_L, TA.down, TL.down, same_nilslice, resE, oneV, ↓reduceIte, reduceCtorEq, uB, uE, uL, uA, uM, uS, uN, uX, uO, vR, vD, vL, vK, vE, vA, vM, vT, vS]
          have kp5 : Keeps q5 ((q5.new (Blk.cells actZ 0 false)).put q5.next (some (Blk.cells x.C 0 false))) := ⟨by simp (maxSteps := 2000000) (implicitDefEqProofs := false) (disch := first | omega | (simp only [SD.down, uA, uL] <;> omega) | fail) only [TA.down, TL.down, same_nilslice, resE, oneV, ↓reduceIte, reduceCtorEq, uB, uE, uL, uA, uM, uS, uN, uX, uO, vR, vD, vL, vK, vE, vA, vM, vT, vS]; omega, fun j hj => by simp (maxSteps := 2000000) (implicitDefEqProofs := false) (disch := first | omega | (simp only [SD.down, uA, uL] <;> omega) | fail) only [TA.down, TL.down, same_nilslice, resE, oneV, ↓reduceIte, reduceCtorEq, uB, uE, uL, uA, uM, uS, uN, uX, uO, vR, vD, vL, vK, vE, vA, vM, vT, vS]⟩
          have n5 : ((q5.new (Blk.cells actZ 0 false)).put q5.next (some (Blk.cells x.C 0 false))).next = q5.next + 1 := by simp (maxSteps := 2000000) (implicitDefEqProofs := false) (disch := first | omega | (simp only [SD.down, uA, uL] <;> omega) | fail) only [TA.down, TL.down, same_nilslice, resE, oneV, ↓reduceIte, reduceCtorEq, uB, uE, uL, uA, uM, uS, uN, uX, uO, vR, vD, vL, vK, vE, vA, vM, vT, vS]
          have gy : ((q5.new (Blk.cells actZ 0 false)).put q5.next (some (Blk.cells x.C 0 false))).get q5.next = some (.cells x.C 0 false) := by simp (maxSteps := 2000000) (implicitDefEqProofs := false) (disch := first | omega | (simp only [SD.down, uA, uL] <;> omega) | fail) only [TA.down, TL.down, same_nilslice, resE, oneV, ↓reduceIte, reduceCtorEq, uB, uE, uL, uA, uM, uS, uN, uX, uO, vR, vD, vL, vK, vE, vA, vM, vT, vS]
          generalize ((q5.new (Blk.cells actZ 0 false)).put q5.next (some (Blk.cells x.C 0 false))) = r0 at kp5 n5 gy ⊢
          have I0 : BusI r0 (pnt C q5.next 0) 100 β cp [a, b] bb := I.keeps Qi.w.msl kp5 (fun j hj => pnt_lt hj)
          have D0' : MemI r0 (pnt C q5.next 0) 202 c S0 := D0.keeps kp5 (fun j hj hc => (pnt_lt hj).trans hc)
          have D1' : MemI r0 (pnt C q5.next 0) 203 e S1 := D1.keeps kp5 (fun j hj hc => (pnt_lt hj).trans hc)
          have hlC : ∀ j, j < h.next → pnt C q5.next 0 j = 0 := fun j hj => (pnt_lt (by have := I0n; omega)).trans (hC j hj)
          have hlf : ∀ j, j < h.next → r0.get j = h.get j := fun j hj => (kp5.2 j (by have := I0n; omega)).trans (hf5 j hj)
          have lgq := Qi.lg
          first | refine G.call (bus_read (d + 1) r0 (pnt C q5.next 0) 100 β cp [a, b] bb 1 x.i (by omega) I0 Qi.w (stq (d + 2) bb Qi.st (by omega))) ?_ | refine G.callC (bus_read (d + 1) r0 (pnt C q5.next 0) 100 β cp [a, b] bb 1 x.i (by omega) I0 Qi.w (stq (d + 2) bb Qi.st (by omega))) ?_ | refine G.callL (bus_read (d + 1) r0 (pnt C q5.next 0) 100 β cp [a, b] bb 1 x.i (by omega) I0 Qi.w (stq (d + 2) bb Qi.st (by omega))) ?_
          rintro v r1 ⟨C6, rfl, I6, fr6, hC6⟩
          have le6 := fr6.le
          obtain ⟨qe, qx, qq0⟩ := Qi.at (qui bb Qi.st (by omega)) ⟨1, 1, x.i, zz, 0⟩ (amRead ⟨1, 1, x.i, zz, 0⟩) true rfl (BS.read_wf Qi.w 1 x.i (by omega)) (fun S => ⟨rfl, rfl, rfl, Nat.le_succ _⟩)
          have qq : QI m (bb.read 1 x.i).2 S0 S1 (q + 1) := qq0
          have qe' : (bb.read 1 x.i).1.e = (S1.read x.i).2 := qe
          have qx' : (bb.read 1 x.i).1.x = (S1.read x.i).1 := qx
          have rl := MS.read_len w1 x.i
          have hzl := zz_len
          have gy6 : r1.get q5.next = some (.cells x.C 0 false) := (fr6.get _ (by omega) (by rw [pnt_ge (Nat.le_refl _)]; unfold busK; omega)).trans gy
          have T6 : MemI r1 C6 203 e S1 := D1'.fr fr6 (by unfold busK; omega) (fun j hj hc => (hC6 j hj).trans hc)
          have O6 : MemI r1 C6 202 c S0 := D0'.fr fr6 (by unfold busK; omega) (fun j hj hc => (hC6 j hj).trans hc)
          have cy6 : C6 q5.next = 0 := (hC6 _ (by omega)).trans (pnt_ge (Nat.le_refl _))
          have cf6 : C6 f = 0 := (hC6 _ (by omega)).trans ((pnt_lt hfl).trans Cfz)
          have gf6 : r1.get f = some (.cells [AV.ptr c 0, AV.ptr e 0] 0 false) := (fr6.get _ (by omega) (by rw [pnt_lt hfl, Cfz]; unfold busK; omega)).trans ((kp5.2 _ hfl).trans gfz)
          have hC6' : ∀ j, j < h.next → C6 j = 0 := fun j hj => (hC6 j (by have := I0n; omega)).trans (hlC j hj)
          have hf6 : ∀ j, j < h.next → r1.get j = h.get j := fun j hj => (fr6.get j (by have := I0n; omega) (by rw [hlC j hj]; unfold busK; omega)).trans (hlf j hj)
          rw [qe', qx']
          simp (maxSteps := 2000000) (implicitDefEqProofs := false) (disch := first | omega | (simp only [SD.down, uA, uL] <;> omega) | fail) only [t1, t7, t8, t9, t10, t11, gy, gy6, xl, xc, xd, hxo.1, at1, x.at2, rl, hzl, zz_fold, cutB_all, over_B, same_int, env_P, env_L, TA.down, TL.down, same_nilslice, resE, oneV, ↓reduceIte, reduceCtorEq, uB, uE, uL, uA, uM, uS, uN, uX, uO, vR, vD, vL, vK, vE, vA, vM, vT, vS]
          have kp6 : Keeps r1 ((r1.new (Blk.cells (B zz) 0 false)).put r1.next (some (Blk.cells (B (S1.read x.i).1) 0 false))) := ⟨by simp (maxSteps := 2000000) (implicitDefEqProofs := false) (disch := first | omega | (simp only [SD.down, uA, uL] <;> omega) | fail) only [TA.down, TL.down, same_nilslice, resE, oneV, ↓reduceIte, reduceCtorEq, uB, uE, uL, uA, uM, uS, uN, uX, uO, vR, vD, vL, vK, vE, vA, vM, vT, vS]; omega, fun j hj => by simp (maxSteps := 2000000) (implicitDefEqProofs := false) (disch := first | omega | (simp only [SD.down, uA, uL] <;> omega) | fail) only [TA.down, TL.down, same_nilslice, resE, oneV, ↓reduceIte, reduceCtorEq, uB, uE, uL, uA, uM, uS, uN, uX, uO, vR, vD, vL, vK, vE, vA, vM, vT, vS]⟩
          have n6 : ((r1.new (Blk.cells (B zz) 0 false)).put r1.next (some (Blk.cells (B (S1.read x.i).1) 0 false))).next = r1.next + 1 := by simp (maxSteps := 2000000) (implicitDefEqProofs := false) (disch := first | omega | (simp only [SD.down, uA, uL] <;> omega) | fail) only [TA.down, TL.down, same_nilslice, resE, oneV, ↓reduceIte, reduceCtorEq, uB, uE, uL, uA, uM, uS, uN, uX, uO, vR, vD, vL, vK, vE, vA, vM, vT, vS]
          have gs : ((r1.new (Blk.cells (B zz) 0 false)).put r1.next (some (Blk.cells (B (S1.read x.i).1) 0 false))).get r1.next = some (.cells (B (S1.read x.i).1) 0 false) := by simp (maxSteps := 2000000) (implicitDefEqProofs := false) (disch := first | omega | (simp only [SD.down, uA, uL] <;> omega) | fail) only [TA.down, TL.down, same_nilslice, resE, oneV, ↓reduceIte, reduceCtorEq, uB, uE, uL, uA, uM, uS, uN, uX, uO, vR, vD, vL, vK, vE, vA, vM, vT, vS]
          generalize ((r1.new (Blk.cells (B zz) 0 false)).put r1.next (some (Blk.cells (B (S1.read x.i).1) 0 false))) = r2 at kp6 n6 gs ⊢
          first | refine G.call (m_read (d + 7) r2 (pnt C6 r1.next 0) 203 e S1 (T6.keeps kp6 (fun j hj hc => (pnt_lt hj).trans hc)) w1 x.i) ?_ | refine G.callC (m_read (d + 7) r2 (pnt C6 r1.next 0) 203 e S1 (T6.keeps kp6 (fun j hj hc => (pnt_lt hj).trans hc)) w1 x.i) ?_ | refine G.callL (m_read (d + 7) r2 (pnt C6 r1.next 0) 203 e S1 (T6.keeps kp6 (fun j hj hc => (pnt_lt hj).trans hc)) w1 x.i) ?_
          rintro v r3 ⟨rfl, kp7⟩
          have le7 := kp7.1
          have gs7 := (kp7.2 _ (by omega)).trans gs
          have eqs : eqlE Try.prog 25 (.agg (B (S1.read x.i).1)) (.agg (B (S1.read x.i).1)) = some true := by rw [eq25 _ _ rl rl, decide_eq_true rfl]
          have hd : decide ((S1.read x.i).2 = (S1.read x.i).2) = true := decide_eq_true rfl
          simp (maxSteps := 2000000) (implicitDefEqProofs := false) (disch := first | omega | (simp only [SD.down, uA, uL] <;> omega) | fail) only [t1, t7, t8, t9, t10, t11, gs7, eqs, bin_neq_agg, hd, rl, hzl, zz_fold, cutB_all, over_B, same_int, env_P, env_L, TA.down, TL.down, same_nilslice, resE, oneV, ↓reduceIte, reduceCtorEq, uB, uE, uL, uA, uM, uS, uN, uX, uO, vR, vD, vL, vK, vE, vA, vM, vT, vS]
          have kp8 : Keeps r1 ((r3.new (Blk.cells (B zz) 0 false)).put r3.next (some (Blk.cells (B (S1.read x.i).1) 0 false))) := ⟨by simp (maxSteps := 2000000) (implicitDefEqProofs := false) (disch := first | omega | (simp only [SD.down, uA, uL] <;> omega) | fail) only [TA.down, TL.down, same_nilslice, resE, oneV, ↓reduceIte, reduceCtorEq, uB, uE, uL, uA, uM, uS, uN, uX, uO, vR, vD, vL, vK, vE, vA, vM, vT, vS]; omega, fun j hj => by simp (maxSteps := 2000000) (implicitDefEqProofs := false) (disch := first | omega | (simp only [SD.down, uA, uL] <;> omega) | fail) only [TA.down, TL.down, same_nilslice, resE, oneV, ↓reduceIte, reduceCtorEq, uB, uE, uL, uA, uM, uS, uN, uX, uO, vR, vD, vL, vK, vE, vA, vM, vT, vS]; exact (kp7.2 j (by omega)).trans (kp6.2 j hj)⟩
          have n8 : ((r3.new (Blk.cells (B zz) 0 false)).put r3.next (some (Blk.cells (B (S1.read x.i).1) 0 false))).next = r3.next + 1 := by simp (maxSteps := 2000000) (implicitDefEqProofs := false) (disch := first | omega | (simp only [SD.down, uA, uL] <;> omega) | fail) only [TA.down, TL.down, same_nilslice, resE, oneV, ↓reduceIte, reduceCtorEq, uB, uE, uL, uA, uM, uS, uN, uX, uO, vR, vD, vL, vK, vE, vA, vM, vT, vS]
          generalize ((r3.new (Blk.cells (B zz) 0 false)).put r3.next (some (Blk.cells (B (S1.read x.i).1) 0 false))) = r4 at kp8 n8 ⊢
          refine ih _ _ ⟨q + 1, pnt C6 r1.next 0, _, S0, S1, by omega, by simp (maxSteps := 2000000) (implicitDefEqProofs := false) (disch := first | omega | (simp only [SD.down, uA, uL] <;> omega) | fail) only [t1, TA.down, TL.down, same_nilslice, resE, oneV, ↓reduceIte, reduceCtorEq, uB, uE, uL, uA, uM, uS, uN, uX, uO, vR, vD, vL, vK, vE, vA, vM, vT, vS], by simp (maxSteps := 2000000) (implicitDefEqProofs := false) (disch := first | omega | (simp only [SD.down, uA, uL] <;> omega) | fail) only [t7, TA.down, TL.down, same_nilslice, resE, oneV, ↓reduceIte, reduceCtorEq, uB, uE, uL, uA, uM, uS, uN, uX, uO, vR, vD, vL, vK, vE, vA, vM, vT, vS], by simp (maxSteps := 2000000) (implicitDefEqProofs := false) (disch := first | omega | (simp only [SD.down, uA, uL] <;> omega) | fail) only [t8, TA.down, TL.down, same_nilslice, resE, oneV, ↓reduceIte, reduceCtorEq, uB, uE, uL, uA, uM, uS, uN, uX, uO, vR, vD, vL, vK, vE, vA, vM, vT, vS], by simp (maxSteps := 2000000) (implicitDefEqProofs := false) (disch := first | omega | (simp only [SD.down, uA, uL] <;> omega) | fail) only [t9, TA.down, TL.down, same_nilslice, resE, oneV, ↓reduceIte, reduceCtorEq, uB, uE, uL, uA, uM, uS, uN, uX, uO, vR, vD, vL, vK, vE, vA, vM, vT, vS], by simp (maxSteps := 2000000) (implicitDefEqProofs := false) (disch := first | omega | (simp only [SD.down, uA, uL] <;> omega) | fail) only [t10, TA.down, TL.down, same_nilslice, resE, oneV, ↓reduceIte, reduceCtorEq, uB, uE, uL, uA, uM, uS, uN, uX, uO, vR, vD, vL, vK, vE, vA, vM, vT, vS], by simp (maxSteps := 2000000) (implicitDefEqProofs := false) (disch := first | omega | (simp only [SD.down, uA, uL] <;> omega) | fail) only [TA.down, TL.down, same_nilslice, resE, oneV, ↓reduceIte, reduceCtorEq, uB, uE, uL, uA, uM, uS, uN, uX, uO, vR, vD, vL, vK, vE, vA, vM, vT, vS], I6.keeps qq.w.msl kp8 (fun j hj => pnt_lt hj), qq, w0, w1, O6.keeps kp8 (fun j hj hc => (pnt_lt hj).trans hc), T6.keeps kp8 (fun j hj hc => (pnt_lt hj).trans hc), by omega, (pnt_lt (by omega)).trans cf6, (kp8.2 _ (by omega)).trans gf6, fun j hj => (pnt_lt (by have := I0n; omega)).trans (hC6' j hj), fun j hj => (kp8.2 j (by have := I0n; omega)).trans (hf6 j hj)⟩
    · exact ⟨0, C4, BS.two m, MS.new 4, MS.new 4, by omega, by simp (maxSteps := 2000000) (implicitDefEqProofs := false) (disch := first | omega | (simp only [SD.down, uA, uL] <;> omega) | fail) only [s1, TA.down, TL.down, same_nilslice, resE, oneV, ↓reduceIte, reduceCtorEq, uB, uE, uL, uA, uM, uS, uN, uX, uO, vR, vD, vL, vK, vE, vA, vM, vT, vS], by simp (maxSteps := 2000000) (implicitDefEqProofs := false) (disch := first | omega | (simp only [SD.down, uA, uL] <;> omega) | fail) only [TA.down, TL.down, same_nilslice, resE, oneV, ↓reduceIte, reduceCtorEq, uB, uE, uL, uA, uM, uS, uN, uX, uO, vR, vD, vL, vK, vE, vA, vM, vT, vS], by simp (maxSteps := 2000000) (implicitDefEqProofs := false) (disch := first | omega | (simp only [SD.down, uA, uL] <;> omega) | fail) only [TA.down, TL.down, same_nilslice, resE, oneV, ↓reduceIte, reduceCtorEq, uB, uE, uL, uA, uM, uS, uN, uX, uO, vR, vD, vL, vK, vE, vA, vM, vT, vS], by simp (maxSteps := 2000000) (implicitDefEqProofs := false) (disch := first | omega | (simp only [SD.down, uA, uL] <;> omega) | fail) only [TA.down, TL.down, same_nilslice, resE, oneV, ↓reduceIte, reduceCtorEq, uB, uE, uL, uA, uM, uS, uN, uX, uO, vR, vD, vL, vK, vE, vA, vM, vT, vS], by simp (maxSteps := 2000000) (implicitDefEqProofs := false) (disch := first | omega | (simp only [SD.down, uA, uL] <;> omega) | fail) only [TA.down, TL.down, same_nilslice, resE, oneV, ↓reduceIte, reduceCtorEq, uB, uE, uL, uA, uM, uS, uN, uX, uO, vR, vD, vL, vK, vE, vA, vM, vT, vS], by simp (maxSteps := 2000000) (implicitDefEqProofs := false) (disch := first | omega | (simp only [SD.down, uA, uL] <;> omega) | fail) only [TA.down, TL.down, same_nilslice, resE, oneV, ↓reduceIte, reduceCtorEq, uB, uE, uL, uA, uM, uS, uN, uX, uO, vR, vD, vL, vK, vE, vA, vM, vT, vS], I4, Q0, MS.new_wf (by omega), MS.new_wf (by omega), B0', B1', by omega, Cf, gf, hC4, hf4⟩
  · rintro j mm σ hh ⟨q, m, hq, s1, s5, s6, hL, hnx, hf, hst⟩ ih
    have hql : q < x1.length := by omega
    rcases hst with ⟨e0, _⟩ | ⟨K, vs, h0, rfl, y1, y2, y3, y4, y5⟩
    · rw [e0] at hql; simp at hql
    obtain ⟨s, hs⟩ : ∃ s, m[q]? = some s := ⟨m[q]'(by rw [hL.1]; exact hql), List.getElem?_eq_getElem (by rw [hL.1]; exact hql)⟩
    obtain ⟨u, hu⟩ : ∃ u, vs[q]? = some u := ⟨vs[q]'(by omega), List.getElem?_eq_getElem (by omega)⟩
    have hmd : ∀ t ∈ m, t.data.length = 64 := fun t ht => by
      obtain ⟨i, hi⟩ := List.mem_iff_getElem?.1 ht
      exact (hL.2 i t hi).1
    have hzip : (m.zip vs)[q]? = some (s, u) := by rw [List.getElem?_zip_eq_some]; exact ⟨hs, hu⟩
    have hzl : ∀ x ∈ m.zip vs, (x.1.C x.2).length = 70 := fun x hx => x.1.C_len x.2 (hmd _ (List.of_mem_zip hx).1)
    have hll := stps_len hmd (by rw [y3, hL.1])
    rw [hL.1] at hll
    have hlt : q * 70 < (stpsC (m.zip vs)).length := by rw [hll]; omega
    have hq4 : q < 31 := by omega
    have eset : (stpsC (m.zip vs)).set (q * 70) (.int .i64 ((1000 + q : Nat) : Int)) = stpsC ((m.set q { s with tm := ((1000 + q : Nat) : Int) }).zip vs) := by
      rw [← zip_setL m vs q _ u hu]
      exact flat_set (fun x : Stp × AV => x.1.C x.2) 70 (m.zip vs) q 0 (s, u) ({ s with tm := ((1000 + q : Nat) : Int) }, u) _ hzl hzip (by omega) rfl
    simp (maxSteps := 2000000) (implicitDefEqProofs := false) (disch := first | omega | (simp only [SD.down, uA, uL] <;> omega) | fail) only [run_it, s1, s5, s6, llen, lok, y4, hlt, eset, env_P, env_L, TA.down, TL.down, same_nilslice, resE, oneV, ↓reduceIte, reduceCtorEq, uB, uE, uL, uA, uM, uS, uN, uX, uO, vR, vD, vL, vK, vE, vA, vM, vT, vS]
    refine ih _ _ ⟨q + 1, m.set q { s with tm := ((1000 + q : Nat) : Int) }, by omega, by simp (maxSteps := 2000000) (implicitDefEqProofs := false) (disch := first | omega | (simp only [SD.down, uA, uL] <;> omega) | fail) only [s1, TA.down, TL.down, same_nilslice, resE, oneV, ↓reduceIte, reduceCtorEq, uB, uE, uL, uA, uM, uS, uN, uX, uO, vR, vD, vL, vK, vE, vA, vM, vT, vS], by simp (maxSteps := 2000000) (implicitDefEqProofs := false) (disch := first | omega | (simp only [SD.down, uA, uL] <;> omega) | fail) only [s5, TA.down, TL.down, same_nilslice, resE, oneV, ↓reduceIte, reduceCtorEq, uB, uE, uL, uA, uM, uS, uN, uX, uO, vR, vD, vL, vK, vE, vA, vM, vT, vS], by simp (maxSteps := 2000000) (implicitDefEqProofs := false) (disch := first | omega | (simp only [SD.down, uA, uL] <;> omega) | fail) only [TA.down, TL.down, same_nilslice, resE, oneV, ↓reduceIte, reduceCtorEq, uB, uE, uL, uA, uM, uS, uN, uX, uO, vR, vD, vL, vK, vE, vA, vM, vT, vS], hL.succ hs, by simp (maxSteps := 2000000) (implicitDefEqProofs := false) (disch := first | omega | (simp only [SD.down, uA, uL] <;> omega) | fail) only [TA.down, TL.down, same_nilslice, resE, oneV, ↓reduceIte, reduceCtorEq, uB, uE, uL, uA, uM, uS, uN, uX, uO, vR, vD, vL, vK, vE, vA, vM, vT, vS]; exact hnx, fun j hj => by simp (maxSteps := 2000000) (implicitDefEqProofs := false) (disch := first | omega | (simp only [SD.down, uA, uL] <;> omega) | fail) only [TA.down, TL.down, same_nilslice, resE, oneV, ↓reduceIte, reduceCtorEq, uB, uE, uL, uA, uM, uS, uN, uX, uO, vR, vD, vL, vK, vE, vA, vM, vT, vS]; exact hf j hj, .inr ⟨K, vs, h0, rfl, y1, y2, y3, by simp (maxSteps := 2000000) (implicitDefEqProofs := false) (disch := first | omega | (simp only [SD.down, uA, uL] <;> omega) | fail) only [TA.down, TL.down, same_nilslice, resE, oneV, ↓reduceIte, reduceCtorEq, uB, uE, uL, uA, uM, uS, uN, uX, uO, vR, vD, vL, vK, vE, vA, vM, vT, vS], y5⟩⟩
  · exact ⟨0, x1, by omega, by simp (maxSteps := 2000000) (implicitDefEqProofs := false) (disch := first | omega | (simp only [SD.down, uA, uL] <;> omega) | fail) only [TA.down, TL.down, same_nilslice, resE, oneV, ↓reduceIte, reduceCtorEq, uB, uE, uL, uA, uM, uS, uN, uX, uO, vR, vD, vL, vK, vE, vA, vM, vT, vS], by simp (maxSteps := 2000000) (implicitDefEqProofs := false) (disch := first | omega | (simp only [SD.down, uA, uL] <;> omega) | fail) only [TA.down, TL.down, same_nilslice, resE, oneV, ↓reduceIte, reduceCtorEq, uB, uE, uL, uA, uM, uS, uN, uX, uO, vR, vD, vL, vK, vE, vA, vM, vT, vS], by simp (maxSteps := 2000000) (implicitDefEqProofs := false) (disch := first | omega | (simp only [SD.down, uA, uL] <;> omega) | fail) only [TA.down, TL.down, same_nilslice, resE, oneV, ↓reduceIte, reduceCtorEq, uB, uE, uL, uA, uM, uS, uN, uX, uO, vR, vD, vL, vK, vE, vA, vM, vT, vS], Late.zero hsd, rfl, hf0, hlv⟩
end Go.Proofs.Ytfjcfjfgamajkaa
namespace Go.Proofs.Ytfjcfjfgamajkaa
open Go Go.Ai Go.Aw Go.Proofs Go.RowKit
set_option linter.unusedSimpArgs false
set_option linter.unusedVariables false
set_option maxRecDepth 10000
def stpK : List IntKind := List.replicate 5 .i64 ++ List.replicate 64 .u8
theorem stp_shape : ∃ fs : Array Field, Try.prog.underlying 42 = some (.struct fs) ∧ fieldsK Try.prog 20 (fs.toList.take 6) 0 = some stpK ∧ ∃ f, fs.toList[6]? = some f ∧ f.type = 40 ∧ f.offset = 69 := ⟨_, Try.underlying42, by kernel_rfl, _, rfl, rfl, rfl⟩
theorem st_cells : Try.prog.cellsOf 42 = 70 := by kernel_rfl
theorem pk_cells : Try.prog.cellsOf 40 = 1 := by kernel_rfl
theorem byte_bytes : Try.prog.bytesOf 5 = 1 := by kernel_rfl
/-- a step in memory -/
theorem st_of {H : Type} {enc : TypeId × Value → H} {w : World} {base : Nat} {held : Bool} {fuel : Nat} {cs : List Value} {y : DataW H × List MemPlace}
    (hy : DataW.trod enc Try.prog w base (fun _ => true) held fuel 42 cs = some y) (hw : ∀ q ∈ y.1.weights Try.prog 42, q ≤ reachBytes) :
    ∃ (s : Stp) (al : List AV) (x : Value), s.data.length = 64 ∧ (∀ u, s.C u = al ++ [u]) ∧ (∀ ρ, denL ρ al = some (cs.take 69)) ∧ al.length = 69 ∧ cs = cs.take 69 ++ [x] ∧ InB w x := by
  obtain ⟨fs, hfs, hfk, f6, g6, t6, o6⟩ := stp_shape
  obtain ⟨xs, n, _, hx, hlen, hxl, hel⟩ := DataW.trod_struct hfs hy
  rw [st_cells] at hlen
  have hi := (flat_trod (enc := enc) (P := Try.prog) (w := w) (base := base) (sp := fun _ => true) (held := held) 20).2 (fs.toList.take 6) 0 stpK cs hfk (by rw [hlen]; decide) (fun f hf => by
    obtain ⟨i, hi⟩ := List.mem_iff_getElem?.1 hf
    have hlt := (List.getElem?_eq_some_iff.1 hi).1
    rw [List.length_take] at hlt
    rw [List.getElem?_take_of_lt (by omega)] at hi
    have hfi : fs[i]? = some f := by simpa using hi
    have hlt2 : i < xs.length := by
      have := (Array.getElem?_eq_some_iff.1 hfi).1
      omega
    have := hel i f hfi
    rw [List.getElem?_eq_getElem hlt2] at this
    exact ⟨_, _, this⟩)
  rw [List.drop_zero] at hi
  have h69 : stpK.length = 69 := rfl
  rw [h69] at hi
  obtain ⟨hil, hig⟩ := hi
  rw [h69] at hil
  have h6 : fs[6]? = some f6 := by simpa using g6
  have hlt6 : 6 < xs.length := by
    have := (Array.getElem?_eq_some_iff.1 h6).1
    omega
  have e6 := hel 6 f6 h6
  rw [t6, o6, pk_cells, List.getElem?_eq_getElem hlt6] at e6
  obtain ⟨x, hx69⟩ : ∃ x, (cs.drop 69).take 1 = [x] := by
    have : ((cs.drop 69).take 1).length = 1 := by rw [List.length_take, List.length_drop]; omega
    exact List.length_eq_one_iff.1 this
  rw [hx69] at e6
  have hsplit : cs = cs.take 69 ++ [x] := by
    rw [← hx69, List.take_of_length_le (l := cs.drop 69) (by rw [List.length_drop]; omega), List.take_append_drop]
  have hin : InB w x := in_bytes Try.underlying40 Try.underlying5 byteK_cells byte_bytes e6 fun q hq => hw q (by
    rw [hx]
    simp only [DataW.weights, hfs]
    exact DataW.weights_mem_each (j := 6) (by rw [List.getElem?_map, g6, Option.map_some, t6]) (by rw [List.getElem?_map, List.getElem?_eq_getElem hlt6, Option.map_some]) q hq)
  obtain ⟨al, a1, a2, a3⟩ := ints_av (cs.take 69) fun v hv => by
    obtain ⟨i, hi⟩ := List.mem_iff_getElem?.1 hv
    have hlt := (List.getElem?_eq_some_iff.1 hi).1
    obtain ⟨z, gz, _⟩ := hig i _ (List.getElem?_eq_getElem (by omega))
    rw [gz] at hi; cases hi
    exact ⟨_, z, rfl⟩
  rw [hil] at a1
  have hc : ∀ (i : Nat) (k : IntKind), stpK[i]? = some k → ∃ z : Int, al[i]? = some (.int k z) ∧ (Lit.int k z).wf = true := fun i k hk => by
    obtain ⟨z, gz, gw⟩ := hig i k hk
    exact ⟨z, a3 i k z gz, gw⟩
  obtain ⟨z0, q0, _⟩ := hc 0 .i64 rfl
  obtain ⟨z1, q1, _⟩ := hc 1 .i64 rfl
  obtain ⟨z2, q2, _⟩ := hc 2 .i64 rfl
  obtain ⟨z3, q3, _⟩ := hc 3 .i64 rfl
  obtain ⟨z4, q4, _⟩ := hc 4 .i64 rfl
  match al, a1, q0, q1, q2, q3, q4, hc, a2 with
  | b0 :: b1 :: b2 :: b3 :: b4 :: r, a1, q0, q1, q2, q3, q4, hc, a2 =>
    simp at q0 q1 q2 q3 q4 a1
    subst q0; subst q1; subst q2; subst q3; subst q4
    obtain ⟨ns, g1, g2, g3⟩ := bytesAV r fun i hi => by
      have hi' : i < 64 := by omega
      have : stpK[i + 5]? = some .u8 := by
        show (List.replicate 64 IntKind.u8)[i]? = _
        rw [List.getElem?_replicate, if_pos hi']
      simpa using hc (i + 5) .u8 this
    refine ⟨⟨z0, z1, z2, z3, z4, ns, []⟩, _, x, by simp; omega, fun u => ?_, a2, by simp; omega, hsplit, hin⟩
    show [AV.int .i64 z0, .int .i64 z1, .int .i64 z2, .int .i64 z3, .int .i64 z4] ++ (B ns ++ [u]) = _
    rw [g2]
    rfl
/-- a slice of bytes that lies in memory, al an abstract value -/
theorem inb_new {w : World} {x : Value} (hx : InB w x) {ρ : Ren} {h : Heap} (ro : RO ρ h w) : ∃ ρ' h' u l, Ext ρ ρ' ∧ RO ρ' h' w ∧ Keeps h h' ∧ AV.den ρ' u = some x ∧ PickA h' u l ∧ l.length ≤ 140737488351232 := by
  rcases hx with rfl | ⟨a, rfl⟩ | ⟨l, ns, rfl, hr, hb⟩
  · exact ⟨ρ, h, .nilslice, [], fun _ _ e => e, ro, .refl _, rfl, .inl ⟨rfl, .inl rfl⟩, by decide⟩
  · exact ⟨ρ, h, .zslice a, [], fun _ _ e => e, ro, .refl _, rfl, .inl ⟨rfl, .inr (.inr ⟨a, rfl⟩)⟩, by decide⟩
  · obtain ⟨x1, x2⟩ := ro.new (hb ρ)
    refine ⟨_, _, .slice h.next 0 ns.length l.cap, ns, x2, x1, ⟨Nat.le_succ _, fun j hj => new_ne _ _ (by omega)⟩, by simp [AV.den, Ren.add_same], ?_, hr⟩
    by_cases h0 : ns = []
    · subst h0
      exact .inl ⟨rfl, .inr (.inl ⟨_, _, _, rfl⟩)⟩
    · exact .inr ⟨h.next, 0, l.cap, _, 0, true, h0, rfl, Nat.lt_succ_self _, new_same _ _, cut_all (by simp [B_len])⟩
theorem zip_snoc {α : Type} {β : Type} {l : List α} {m : List β} (h : m.length = l.length) (a : α) (b : β) : (l ++ [a]).zip (m ++ [b]) = l.zip m ++ [(a, b)] := by
  rw [List.zip_append (by omega)]; rfl
/-- the first n steps of a row -/
theorem st_go {H : Type} {enc : TypeId × Value → H} {w : World} {base blk off : Nat} {held : Bool} {fuel len : Nat} {C : Array Value} {T : TypeId} {fz : Nat × Nat} (hC : w.heap[blk]? = some (.cells C T fz))
    (hel : ∀ q, q < len → ∃ cs y, w.cells? base ⟨blk, off + q * 70, none⟩ 70 = some cs ∧ DataW.trod enc Try.prog w base (fun _ => true) held fuel 42 cs = some y ∧ ∀ z ∈ y.1.weights Try.prog 42, z ≤ reachBytes)
    {ρ : Ren} {h : Heap} (ro : RO ρ h w) : ∀ n, n ≤ len → ∃ (ρ' : Ren) (h' : Heap) (l : List Stp) (vs : List AV) (X : List Value), Ext ρ ρ' ∧ RO ρ' h' w ∧ Keeps h h' ∧ l.length = n ∧ vs.length = n ∧ denL ρ' (stpsC (l.zip vs)) = some X ∧ X.length = n * 70 ∧ (∀ (i : Nat) (x : Value), X[i]? = some x → C[off + i]? = some x) ∧ (∀ s ∈ l, s.data.length = 64 ∧ s.picks.length ≤ 140737488351232) ∧ ∀ (i : Nat) (s : Stp) (u : AV), l[i]? = some s → vs[i]? = some u → PickA h' u s.picks
  | 0, _ => ⟨ρ, h, [], [], [], fun _ _ e => e, ro, .refl _, rfl, rfl, denL_nil _, rfl, (fun i x hi => by simp at hi), (fun _ hs => by cases hs), (fun i s u hi => by simp at hi)⟩
  | n + 1, hn => by
    obtain ⟨ρ1, h1, l, vs, X, e1, r1, k1, c1, c2, c3, c4, c5, c6, c7⟩ := st_go hC hel ro n (by omega)
    obtain ⟨cs, y, g1, g2, g3⟩ := hel n (by omega)
    obtain ⟨s, al, x, s1, s2, s3, s4, s5, s6⟩ := st_of g2 g3
    obtain ⟨ρ2, h2, u, p, e2, r2, k2, d2, p1, p2⟩ := inb_new s6 r1
    obtain ⟨_, g4, g5⟩ := World.cells?_some g1
    have hsC : ({ s with picks := p } : Stp).C u = al ++ [u] := s2 u
    refine ⟨ρ2, h2, l ++ [{ s with picks := p }], vs ++ [u], X ++ cs, fun k q hq => e2 _ _ (e1 _ _ hq), r2, k1.trans k2, by simp [c1], by simp [c2], ?_, by simp [c4, g4]; omega, fun i z hi => ?_, fun t ht => ?_, fun i t v hi hv => ?_⟩
    · rw [zip_snoc (by omega)]
      show denL ρ2 ((l.zip vs ++ [(_, u)]).flatMap _) = _
      rw [List.flatMap_append]
      refine denL_app (denL_mono e2 _ _ c3) ?_
      show denL ρ2 (({ s with picks := p } : Stp).C u ++ []) = _
      rw [List.append_nil, hsC, s5]
      exact denL_app (s3 ρ2) (denL_cons.2 ⟨_, _, d2, denL_nil _, rfl⟩)
    · by_cases hlt : i < X.length
      · rw [List.getElem?_append_left hlt] at hi
        exact c5 i z hi
      · rw [List.getElem?_append_right (by omega), c4] at hi
        have hlt2 := (List.getElem?_eq_some_iff.1 hi).1
        have := g5 (i - n * 70) (by omega)
        rw [hi, Addr.add_lit] at this
        have e9 : off + n * 70 + (i - n * 70) = off + i := by omega
        rw [e9] at this
        simpa [World.cell?, hC] using this
    · rcases List.mem_append.1 ht with ht | ht
      · exact c6 t ht
      · simp only [List.mem_cons, List.not_mem_nil, or_false] at ht
        subst ht
        exact ⟨s1, p2⟩
    · by_cases hlt : i < n
      · rw [List.getElem?_append_left (by omega)] at hi hv
        exact (c7 i t v hi hv).keep k2
      · rw [List.getElem?_append_right (by omega)] at hi hv
        rw [c1] at hi; rw [c2] at hv
        have : i - n = 0 := by
          have := (List.getElem?_eq_some_iff.1 hi).1
          simp at this; omega
        rw [this] at hi hv
        simp at hi hv
        subst hi; subst hv
        exact p1
/-- steps that are handed in -/
theorem st_arg {H : Type} {enc : TypeId × Value → H} {w : World} {r : Reach} {b0 base : Nat} {held : Bool} {v : Value} {d : DataW H} {ps : List MemPlace} {ρ : Ren} {h : Heap} (ro : RO ρ h w)
    (hval : Value.okWide Try.prog w r b0 43 v) (hd : DataW.Trod enc Try.prog w base (fun _ => true) held 43 v d ps) (hw : ∀ q ∈ d.weights Try.prog 43, q ≤ reachBytes) :
    ∃ ρ' h' av l, Ext ρ ρ' ∧ RO ρ' h' w ∧ Keeps h h' ∧ av.den ρ' = some v ∧ StA h' av l ∧ ∀ s ∈ l, s.data.length = 64 ∧ s.picks.length ≤ 140737488351232 := by
  have ht := Try.underlying43
  obtain ⟨a, len, cap, rfl⟩ := WideShapes.okWide_slice ht hval
  obtain ⟨fuel, hfu⟩ := hd
  have hok : Cell.ok Try.prog w r b0 43 (.slice a len cap) := by
    have := hval
    simp only [Value.okWide, ht, Cell.okWide] at this
    exact this
  rcases DataW.trod_slice ht hfu with ⟨h, _⟩ | ⟨a', len', cap', elems, rest, n', _, h, hx, _, hl, hmx, hlen, hel, _⟩
  · simp [Value.cells] at h
    obtain ⟨rfl, rfl, rfl⟩ := h
    exact ⟨ρ, _, .nilslice, [], fun _ _ e => e, ro, .refl _, rfl, .inl ⟨rfl, .inl rfl⟩, (fun _ h => by cases h)⟩
  · simp [Value.cells] at h
    obtain ⟨rfl, rfl, rfl⟩ := h
    obtain ⟨blk, off, spot⟩ := a'
    simp only [Cell.ok, ht] at hok
    obtain ⟨_, _, _, hsp, row, cells, hsh, _⟩ := hok
    simp only at hsp
    subst hsp
    obtain ⟨C, T, fz, hC⟩ : ∃ C T fz, w.heap[blk]? = some (.cells C T fz) := by
      unfold World.shape? at hsh
      simp only at hsh
      split at hsh
      · rename_i c t f hh; exact ⟨_, _, _, hh⟩
      all_goals first | cases hsh | (simp at hsh)
    have hg : ∀ q, q < len → ∃ cs y, w.cells? base ⟨blk, off + q * 70, none⟩ 70 = some cs ∧ DataW.trod enc Try.prog w base (fun _ => true) held n' 42 cs = some y ∧ ∀ z ∈ y.1.weights Try.prog 42, z ≤ reachBytes := by
      intro q hq
      have hee := hel q hq
      rw [st_cells, List.getElem?_eq_getElem (by omega), Addr.add_lit] at hee
      simp only [Option.bind_eq_some_iff] at hee
      obtain ⟨cs, h1, h2⟩ := hee
      refine ⟨cs, _, h1, h2, fun z hz => hw z ?_⟩
      have hd : d = .slice (elems.map (·.1)) (rest.map (·.1)) := congrArg Prod.fst hx
      rw [hd]
      simp only [DataW.weights, ht]
      refine List.mem_cons_of_mem _ (List.mem_append_left _ ?_)
      have wa : ∀ (ds : List (DataW H)) (e : DataW H), e ∈ ds → z ∈ e.weights Try.prog 42 → z ∈ DataW.weightsAll Try.prog 42 ds := by
        intro ds
        induction ds with
        | nil => intro e he; cases he
        | cons d0 ds ih =>
          intro e he hz
          simp only [DataW.weightsAll]
          rcases List.mem_cons.1 he with rfl | he
          · exact List.mem_append_left _ hz
          · exact List.mem_append_right _ (ih e he hz)
      exact wa _ _ (List.mem_map.2 ⟨_, List.getElem_mem (by omega), rfl⟩) hz
    obtain ⟨ρ1, h1, l, vs, X, e1, r1, k1, c1, c2, c3, c4, c5, c6, c7⟩ := st_go hC hg ro len (Nat.le_refl _)
    obtain ⟨x1, x2⟩ := r1.new (l := ⟨blk, off, cap⟩) (cs := stpsC (l.zip vs)) ⟨C, T, fz, X, hC, c3, c5, (fun h => by cases h), (fun h => by exact absurd rfl h)⟩
    have k2 : Keeps h1 (h1.new (.cells (stpsC (l.zip vs)) 0 true)) := ⟨Nat.le_succ _, fun j hj => new_ne _ _ (by omega)⟩
    refine ⟨_, _, .slice h1.next 0 len cap, l, fun k q hq => x2 _ _ (e1 _ _ hq), x1, k1.trans k2, by simp [AV.den, Ren.add_same], ?_, c6⟩
    by_cases h0 : l = []
    · subst h0
      obtain rfl : len = 0 := by simpa using c1.symm
      exact .inl ⟨rfl, .inr ⟨_, _, _, rfl⟩⟩
    · exact .inr ⟨h1.next, vs, [], 0, true, h0, .inl ⟨cap, by rw [c1]⟩, Nat.lt_succ_self _, by omega, by rw [new_same, List.append_nil], fun i s u hi hv => (c7 i s u hi hv).keep k2⟩
theorem busQuiet_row (d : Nat) (h : Heap) (a1 : AV) (x1 : List Stp) (h1 : StA h a1 x1) (o1 : ∀ s ∈ x1, s.data.length = 64 ∧ s.picks.length ≤ 140737488351232) (a2 : AV) (x2 : List Act) (h2 : ActsI h a2 x2) (o2 : ∀ a ∈ x2, a.ok) : G (callD env (d + 13) 5 [a1, a2] h) fun v h' => v = .bool true :=
  busQuiet_ok d h a1 x1 h1 (fun s hs => (o1 s hs).1) (fun s hs => (o1 s hs).2) a2 x2 h2 o2
end Go.Proofs.Ytfjcfjfgamajkaa
