/- Of this program, for all inputs: contracts. No condition but those in the theorems. -/
import Derived.Test.YthcbefolifpbpaaE4
namespace Go.Proofs.Ythcbefolifpbpaa.R
open Go Go.Ai Go.Aw Go.Proofs
open Nat renaming reduceBEq → uB, reduceEqDiff → uE, reduceLT → uL, reduceAdd → uA, reduceMul → uM, reduceSub → uS, reduceAnd → uN, reduceXor → uX, reduceOr → uO
open Int renaming reduceMod → vR, reduceDiv → vD, reduceLT → vL, reduceLE → vK, reduceEq → vE, reduceAdd → vA, reduceMul → vM, reduceToNat → vT
set_option linter.unusedSimpArgs false
set_option linter.unusedVariables false
set_option maxRecDepth 10000
def lit16 (x : List Nat) : List AV := [b8 (x.getD 0 0), b8 (x.getD 1 0), b8 (x.getD 2 0), b8 (x.getD 3 0), b8 (x.getD 4 0), b8 (x.getD 5 0), b8 (x.getD 6 0), b8 (x.getD 7 0), b8 (x.getD 8 0), b8 (x.getD 9 0), b8 (x.getD 10 0), b8 (x.getD 11 0), b8 (x.getD 12 0), b8 (x.getD 13 0), b8 (x.getD 14 0), b8 (x.getD 15 0)]
theorem B16 {x : List Nat} (h : x.length = 16) : B x = lit16 x := by
  match x, h with
  | [a, b, c, d, e, f, g, h, i, j, k, l, m, n, o, p], _ => rfl
def Keeps (h h' : Heap) : Prop := h.next ≤ h'.next ∧ ∀ j, j < h.next → h'.get j = h.get j
theorem Keeps.trans {a b c : Heap} (x : Keeps a b) (y : Keeps b c) : Keeps a c := ⟨Nat.le_trans x.1 y.1, fun j hj => (y.2 j (Nat.lt_of_lt_of_le hj x.1)).trans (x.2 j hj)⟩
set_option maxHeartbeats 8000000 in
theorem state_ok (d : Nat) (h : Heap) (b : List Nat) (hb : b.length = 16) : G (callD c2 (d + 1) 46 [.agg (B b)] h) fun v h' => v = .agg (B b) ∧ Keeps h h' := by
  generalize hX : (fun (v : AV) (h' : Heap) => v = .agg (B b) ∧ Keeps h h') = Q
  rw [B16 hb] at hX ⊢
  simp only [lit16] at hX ⊢
  rw [callD_run (E := c2) [] (by kernel_rfl) Try.func46 rfl (by rw [Try.ntmps46]; simp) (by kernel_rfl)]; simp (maxSteps := 2000000) (implicitDefEqProofs := false) (disch := first | omega | (simp only [SD.down, uA, uL] <;> omega) | fail) only [Try.ntmps46, Try.results46, env_P, env_L, List.replicate_succ, List.replicate_zero, TA.down, resE, oneV, ↓reduceIte, reduceCtorEq, uB, uE, uL, uA, uM, uS, uN, uX, uO, vR, vD, vL, vK, vE, vA, vM, vT, run_loop, run_it]
  subst hX
  refine G.ok ⟨rfl, ?_, fun j hj => ?_⟩
  · simp (maxSteps := 2000000) (implicitDefEqProofs := false) (disch := first | omega | (simp only [SD.down, uA, uL] <;> omega) | fail) only [TA.down, resE, oneV, ↓reduceIte, reduceCtorEq, uB, uE, uL, uA, uM, uS, uN, uX, uO, vR, vD, vL, vK, vE, vA, vM, vT]
    try omega
  · simp (maxSteps := 2000000) (implicitDefEqProofs := false) (disch := first | omega | (simp only [SD.down, uA, uL] <;> omega) | fail) only [TA.down, resE, oneV, ↓reduceIte, reduceCtorEq, uB, uE, uL, uA, uM, uS, uN, uX, uO, vR, vD, vL, vK, vE, vA, vM, vT]
set_option maxHeartbeats 8000000 in
theorem block_ok (d : Nat) (h : Heap) (b : List Nat) (hb : b.length = 16) : G (callD c2 (d + 1) 48 [.agg (B b)] h) fun v h' => v = .agg (B b) ∧ Keeps h h' := by
  generalize hX : (fun (v : AV) (h' : Heap) => v = .agg (B b) ∧ Keeps h h') = Q
  rw [B16 hb] at hX ⊢
  simp only [lit16] at hX ⊢
  rw [callD_run (E := c2) [] (by kernel_rfl) Try.func48 rfl (by rw [Try.ntmps48]; simp) (by kernel_rfl)]; simp (maxSteps := 2000000) (implicitDefEqProofs := false) (disch := first | omega | (simp only [SD.down, uA, uL] <;> omega) | fail) only [Try.ntmps48, Try.results48, env_P, env_L, List.replicate_succ, List.replicate_zero, TA.down, resE, oneV, ↓reduceIte, reduceCtorEq, uB, uE, uL, uA, uM, uS, uN, uX, uO, vR, vD, vL, vK, vE, vA, vM, vT, run_loop, run_it]
  subst hX
  refine G.ok ⟨rfl, ?_, fun j hj => ?_⟩
  · simp (maxSteps := 2000000) (implicitDefEqProofs := false) (disch := first | omega | (simp only [SD.down, uA, uL] <;> omega) | fail) only [TA.down, resE, oneV, ↓reduceIte, reduceCtorEq, uB, uE, uL, uA, uM, uS, uN, uX, uO, vR, vD, vL, vK, vE, vA, vM, vT]
    try omega
  · simp (maxSteps := 2000000) (implicitDefEqProofs := false) (disch := first | omega | (simp only [SD.down, uA, uL] <;> omega) | fail) only [TA.down, resE, oneV, ↓reduceIte, reduceCtorEq, uB, uE, uL, uA, uM, uS, uN, uX, uO, vR, vD, vL, vK, vE, vA, vM, vT]
def addR (wl : List Nat) (r : Nat) (s : List Nat) : List Nat := [s.getD 0 0 ^^^ wl.getD (16 * r) 0, s.getD 1 0 ^^^ wl.getD (16 * r + 1) 0, s.getD 2 0 ^^^ wl.getD (16 * r + 2) 0, s.getD 3 0 ^^^ wl.getD (16 * r + 3) 0, s.getD 4 0 ^^^ wl.getD (16 * r + 4) 0, s.getD 5 0 ^^^ wl.getD (16 * r + 5) 0, s.getD 6 0 ^^^ wl.getD (16 * r + 6) 0, s.getD 7 0 ^^^ wl.getD (16 * r + 7) 0, s.getD 8 0 ^^^ wl.getD (16 * r + 8) 0, s.getD 9 0 ^^^ wl.getD (16 * r + 9) 0, s.getD 10 0 ^^^ wl.getD (16 * r + 10) 0, s.getD 11 0 ^^^ wl.getD (16 * r + 11) 0, s.getD 12 0 ^^^ wl.getD (16 * r + 12) 0, s.getD 13 0 ^^^ wl.getD (16 * r + 13) 0, s.getD 14 0 ^^^ wl.getD (16 * r + 14) 0, s.getD 15 0 ^^^ wl.getD (16 * r + 15) 0]
theorem wd_at (wl : List Nat) (r c : Nat) : wd wl (4 * r + c) = [wl.getD (16 * r + 4 * c) 0, wl.getD (16 * r + (4 * c + 1)) 0, wl.getD (16 * r + (4 * c + 2)) 0, wl.getD (16 * r + (4 * c + 3)) 0] := by
  unfold wd
  rw [show 4 * (4 * r + c) = 16 * r + 4 * c by omega]
  rfl
set_option maxHeartbeats 8000000 in
theorem added_ok (d : Nat) (h : Heap) (b : List Nat) (hb : b.length = 16) {h0 kw : Nat} {ids wl : List Nat} (w : WIs h0 h kw 60 ids wl) (r : Nat) (hr : r ≤ 14) : G (callD c2 (d + 1) 45 [.agg (B b), .eslice kw 0 0 60, .int .i64 (r : Int)] h) fun v h' => v = .agg (B (addR wl r b)) ∧ Keeps h h' := by
  generalize hX : (fun (v : AV) (h' : Heap) => v = .agg (B (addR wl r b)) ∧ Keeps h h') = Q
  rw [B16 hb]
  simp only [lit16]
  have gw := w.at_
  have kwl := w.lt
  have l0 := w.sl (j := 4 * r + 0) (by omega)
  have l1 := w.sl (j := 4 * r + 1) (by omega)
  have l2 := w.sl (j := 4 * r + 2) (by omega)
  have l3 := w.sl (j := 4 * r + 3) (by omega)
  obtain ⟨g0, _, n0, _⟩ := w.wds (4 * r + 0) (by omega)
  obtain ⟨g1, _, n1, _⟩ := w.wds (4 * r + 1) (by omega)
  obtain ⟨g2, _, n2, _⟩ := w.wds (4 * r + 2) (by omega)
  obtain ⟨g3, _, n3, _⟩ := w.wds (4 * r + 3) (by omega)
  generalize ids.getD (4 * r + 0) 0 = a0 at l0 g0 n0
  generalize ids.getD (4 * r + 1) 0 = a1 at l1 g1 n1
  generalize ids.getD (4 * r + 2) 0 = a2 at l2 g2 n2
  generalize ids.getD (4 * r + 3) 0 = a3 at l3 g3 n3
  rw [wd_at] at g0 g1 g2 g3
  simp only [B, List.map_cons, List.map_nil, Nat.mul_zero, Nat.mul_one, Nat.reduceMul, Nat.reduceAdd, Nat.add_zero, Nat.zero_add] at g0 g1 g2 g3 l0 l1 l2 l3
  rw [callD_run (E := c2) [] (by kernel_rfl) Try.func45 rfl (by rw [Try.ntmps45]; simp) (by kernel_rfl)]; simp (maxSteps := 2000000) (implicitDefEqProofs := false) (disch := first | omega | (simp only [SD.down, uA, uL] <;> omega) | fail) only [Try.ntmps45, Try.results45, env_P, env_L, gw, l0, l1, l2, l3, g0, g1, g2, g3, List.replicate_succ, List.replicate_zero, TA.down, resE, oneV, ↓reduceIte, reduceCtorEq, uB, uE, uL, uA, uM, uS, uN, uX, uO, vR, vD, vL, vK, vE, vA, vM, vT, run_loop, run_it]
  subst hX
  refine G.ok ⟨rfl, ?_, fun j hj => ?_⟩
  · simp (maxSteps := 2000000) (implicitDefEqProofs := false) (disch := first | omega | (simp only [SD.down, uA, uL] <;> omega) | fail) only [TA.down, resE, oneV, ↓reduceIte, reduceCtorEq, uB, uE, uL, uA, uM, uS, uN, uX, uO, vR, vD, vL, vK, vE, vA, vM, vT]
    try omega
  · simp (maxSteps := 2000000) (implicitDefEqProofs := false) (disch := first | omega | (simp only [SD.down, uA, uL] <;> omega) | fail) only [TA.down, resE, oneV, ↓reduceIte, reduceCtorEq, uB, uE, uL, uA, uM, uS, uN, uX, uO, vR, vD, vL, vK, vE, vA, vM, vT]
end Go.Proofs.Ythcbefolifpbpaa.R
