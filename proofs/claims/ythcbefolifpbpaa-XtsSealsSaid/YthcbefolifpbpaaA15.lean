/- Of this program, for all inputs: contracts. No condition but those in the theorems. -/
import Derived.Test.YthcbefolifpbpaaA14
namespace Go.Proofs.Ythcbefolifpbpaa
open Go Go.Ai Go.Aw Go.Proofs
open Nat renaming reduceBEq → uB, reduceEqDiff → uE, reduceLT → uL, reduceAdd → uA, reduceMul → uM, reduceSub → uS, reduceAnd → uN, reduceXor → uX, reduceOr → uO
open Int renaming reduceMod → vR, reduceDiv → vD, reduceLT → vL, reduceLE → vK, reduceEq → vE, reduceAdd → vA, reduceMul → vM, reduceToNat → vT
set_option linter.unusedSimpArgs false
set_option linter.unusedVariables false
set_option maxRecDepth 100000
def ky1 : List Nat := [1, 0, 0, 0, 0, 0, 0, 0, 0, 0, 0, 0, 0, 0, 0, 0, 0, 0, 0, 0, 0, 0, 0, 0, 0, 0, 0, 0, 0, 0, 0, 0]
def ky2 : List Nat := [2, 0, 0, 0, 0, 0, 0, 0, 0, 0, 0, 0, 0, 0, 0, 0, 0, 0, 0, 0, 0, 0, 0, 0, 0, 0, 0, 0, 0, 0, 0, 0]
def bk1 : List Nat := [1, 0, 0, 0, 0, 0, 0, 0, 0, 0, 0, 0, 0, 0, 0, 0]
def bk2 : List Nat := [2, 0, 0, 0, 0, 0, 0, 0, 0, 0, 0, 0, 0, 0, 0, 0]
def z64 : List Nat := [0, 0, 0, 0, 0, 0, 0, 0, 0, 0, 0, 0, 0, 0, 0, 0, 0, 0, 0, 0, 0, 0, 0, 0, 0, 0, 0, 0, 0, 0, 0, 0, 0, 0, 0, 0, 0, 0, 0, 0, 0, 0, 0, 0, 0, 0, 0, 0, 0, 0, 0, 0, 0, 0, 0, 0, 0, 0, 0, 0, 0, 0, 0, 0]
def sc7 : List Nat := [0, 0, 0, 0, 0, 7, 0, 0, 0, 0, 0, 0, 0, 0, 0, 0, 0, 0, 0, 0, 0, 0, 0, 0, 0, 0, 0, 0, 0, 0, 0, 0, 0, 0, 0, 0, 0, 0, 0, 0, 0, 0, 0, 0, 0, 0, 0, 0, 0, 0, 0, 0, 0, 0, 0, 0, 0, 0, 0, 0, 0, 0, 0, 0]
def wkA : List Nat := eL (sealK (keysL S0 ky1)) 4 0 (sealK (keysL S0 ky2) (numL 3)) sc7
def wkB : List Nat := eL (openK (keysL S0 ky1)) 4 0 (sealK (keysL S0 ky2) (numL 3)) wkA
theorem wk1 : (M wkA == M sc7) = false := by kernel_rfl
theorem wk2 : (M wkB == M sc7) = true := by kernel_rfl
theorem wk3 : M (dblX bk1) = M bk2 := by kernel_rfl
end Go.Proofs.Ythcbefolifpbpaa
namespace Go.Proofs.Ythcbefolifpbpaa
open Go Go.Ai Go.Aw Go.Proofs
open Nat renaming reduceBEq → uB, reduceEqDiff → uE, reduceLT → uL, reduceAdd → uA, reduceMul → uM, reduceSub → uS, reduceAnd → uN, reduceXor → uX, reduceOr → uO
open Int renaming reduceMod → vR, reduceDiv → vD, reduceLT → vL, reduceLE → vK, reduceEq → vE, reduceAdd → vA, reduceMul → vM, reduceToNat → vT
set_option linter.unusedSimpArgs false
set_option linter.unusedVariables false
set_option maxRecDepth 10000
theorem ky1_len : ky1.length = 32 := rfl
theorem ky2_len : ky2.length = 32 := rfl
theorem bk1_len : bk1.length = 16 := rfl
theorem bk2_len : bk2.length = 16 := rfl
theorem sc7_len : sc7.length = 64 := rfl
theorem z64_len : z64.length = 64 := rfl
theorem bky1 : buildE Try.prog 23 [(0, b8 1)] = some (.agg (B ky1)) := by kernel_rfl
theorem bky2 : buildE Try.prog 23 [(0, b8 2)] = some (.agg (B ky2)) := by kernel_rfl
theorem bbk1 : buildE Try.prog 24 [(0, b8 1)] = some (.agg (B bk1)) := by kernel_rfl
theorem bbk2 : buildE Try.prog 24 [(0, b8 2)] = some (.agg (B bk2)) := by kernel_rfl
theorem zz64 : List.replicate 64 (b8 0) = B z64 := rfl
theorem zz64' : List.replicate 64 0 = z64 := rfl
theorem eq53 (x y : List Nat) (hx : x.length = 64) (hy : y.length = 64) : eqlE Try.prog 53 (.agg (B x)) (.agg (B y)) = some (decide (M x = M y)) := eql_B Try.underlying53 rfl (by kernel_rfl) (by kernel_rfl) x y hx hy
theorem zs7 : z64.set 5 7 = sc7 := rfl
theorem wkA_len : wkA.length = 64 := eL_len _ 4 0 _ _ rfl rfl
theorem wkB_len : wkB.length = 64 := eL_len _ 4 0 _ _ rfl wkA_len
theorem rb1 : (List.replicate 16 (b8 0)).set 0 (b8 1) = B bk1 := rfl
theorem rb2 : (List.replicate 16 (b8 0)).set 0 (b8 2) = B bk2 := rfl
theorem wk1' : decide (M wkA = M sc7) = false := decide_eq_false (by have := wk1; rw [beq_eq_false_iff_ne] at this; exact this)
theorem wk2' : decide (M wkB = M sc7) = true := decide_eq_true (eq_of_beq wk2)
set_option maxHeartbeats 4000000 in
theorem works_ok (d : Nat) (h : Heap) : G (callD env (d + 7) 21 [] h) fun v h' => v = .bool true ∧ Keeps h h' := by
  generalize hX : (fun (v : AV) (h' : Heap) => v = .bool true ∧ Keeps h h') = Q
  have hsc := sc7_len
  have hwl := wkA_len
  have hz := z64_len
  rw [callD_run (E := env) [(5, .fl [(7, 0, 1)])] (by kernel_rfl) Try.func21 rfl (by rw [Try.ntmps21]; simp) (by kernel_rfl)]; simp (maxSteps := 2000000) (implicitDefEqProofs := false) (disch := first | omega | (simp only [SD.down, uA, uL] <;> omega) | fail) only [Try.ntmps21, Try.results21, env_P, env_L, bky1, bky2, TA.down, resE, oneV, ↓reduceIte, reduceCtorEq, uB, uE, uL, uA, uM, uS, uN, uX, uO, vR, vD, vL, vK, vE, vA, vM, vT]
  refine G.call (xnew_ok (d + 2) _ ky1 ky2 ky1_len ky2_len) ?_
  rintro v h1 ⟨m, kd, kt, rfl, hm, hkd, i1, k1⟩
  simp (maxSteps := 2000000) (implicitDefEqProofs := false) (disch := first | omega | (simp only [SD.down, uA, uL] <;> omega) | fail) only [zz64, zs7, cutB_all, sc7_len, TA.down, resE, oneV, ↓reduceIte, reduceCtorEq, uB, uE, uL, uA, uM, uS, uN, uX, uO, vR, vD, vL, vK, vE, vA, vM, vT]
  refine G.call (mseal_ok d _ m kd kt _ _ (i1.keep ⟨by simp (maxSteps := 2000000) (implicitDefEqProofs := false) (disch := first | omega | (simp only [SD.down, uA, uL] <;> omega) | fail) only [TA.down, resE, oneV, ↓reduceIte, reduceCtorEq, uB, uE, uL, uA, uM, uS, uN, uX, uO, vR, vD, vL, vK, vE, vA, vM, vT]; omega, fun j hj => by simp (maxSteps := 2000000) (implicitDefEqProofs := false) (disch := first | omega | (simp only [SD.down, uA, uL] <;> omega) | fail) only [TA.down, resE, oneV, ↓reduceIte, reduceCtorEq, uB, uE, uL, uA, uM, uS, uN, uX, uO, vR, vD, vL, vK, vE, vA, vM, vT]⟩) 3 (by omega) sc7 sc7_len) ?_
  rw [show eL (sealK (keysL S0 ky1)) 4 0 (sealK (keysL S0 ky2) (numL 3)) sc7 = wkA from rfl]
  rintro v h2 ⟨rfl, i2, k2⟩
  have hn1 := k1.1
  have hn2 := k2.1
  have hkl := i1.d.2.1
  simp only [next_new, next_put] at hn2
  have g2 : h2.get h1.next = some (.cells (B sc7) 0 false) := by rw [k2.2 _ (by simp (maxSteps := 2000000) (implicitDefEqProofs := false) (disch := first | omega | (simp only [SD.down, uA, uL] <;> omega) | fail) only [TA.down, resE, oneV, ↓reduceIte, reduceCtorEq, uB, uE, uL, uA, uM, uS, uN, uX, uO, vR, vD, vL, vK, vE, vA, vM, vT]; omega) (by omega)]; simp (maxSteps := 2000000) (implicitDefEqProofs := false) (disch := first | omega | (simp only [SD.down, uA, uL] <;> omega) | fail) only [TA.down, resE, oneV, ↓reduceIte, reduceCtorEq, uB, uE, uL, uA, uM, uS, uN, uX, uO, vR, vD, vL, vK, vE, vA, vM, vT]
  simp (maxSteps := 2000000) (implicitDefEqProofs := false) (disch := first | omega | (simp only [SD.down, uA, uL] <;> omega) | fail) only [zz64, zs7, over_B, z64_len, cutB_all, sc7_len, wkA_len, g2, same_B, TA.down, resE, oneV, ↓reduceIte, reduceCtorEq, uB, uE, uL, uA, uM, uS, uN, uX, uO, vR, vD, vL, vK, vE, vA, vM, vT]
  rw [bin_neq_agg, eq53 _ _ wkA_len sc7_len, show decide (M wkA = M sc7) = false from wk1']
  simp (maxSteps := 2000000) (implicitDefEqProofs := false) (disch := first | omega | (simp only [SD.down, uA, uL] <;> omega) | fail) only [zz64, zs7, cutB_all, sc7_len, g2, TA.down, resE, oneV, ↓reduceIte, reduceCtorEq, uB, uE, uL, uA, uM, uS, uN, uX, uO, vR, vD, vL, vK, vE, vA, vM, vT]
  have i2' : MIs ((h2.new (Blk.cells (B z64) 0 false)).put h2.next (some (Blk.cells (B wkA) 0 false))) m kd kt (keysL S0 ky1) (keysL S0 ky2) := i2.keep ⟨by simp (maxSteps := 2000000) (implicitDefEqProofs := false) (disch := first | omega | (simp only [SD.down, uA, uL] <;> omega) | fail) only [TA.down, resE, oneV, ↓reduceIte, reduceCtorEq, uB, uE, uL, uA, uM, uS, uN, uX, uO, vR, vD, vL, vK, vE, vA, vM, vT]; omega, fun j hj => by simp (maxSteps := 2000000) (implicitDefEqProofs := false) (disch := first | omega | (simp only [SD.down, uA, uL] <;> omega) | fail) only [TA.down, resE, oneV, ↓reduceIte, reduceCtorEq, uB, uE, uL, uA, uM, uS, uN, uX, uO, vR, vD, vL, vK, vE, vA, vM, vT]⟩
  refine G.callC (mopen_ok d _ m kd kt _ _ i2' 3 (by omega) wkA wkA_len) ?_
  rw [show eL (openK (keysL S0 ky1)) 4 0 (sealK (keysL S0 ky2) (numL 3)) wkA = wkB from rfl]
  rintro v h3 ⟨rfl, i3, k3⟩
  have hn3 := k3.1
  simp only [next_new, next_put] at hn3
  have hkl2 := i2.d.2.1
  have g3 : h3.get h1.next = some (.cells (B sc7) 0 false) := by rw [k3.2 _ (by simp (maxSteps := 2000000) (implicitDefEqProofs := false) (disch := first | omega | (simp only [SD.down, uA, uL] <;> omega) | fail) only [TA.down, resE, oneV, ↓reduceIte, reduceCtorEq, uB, uE, uL, uA, uM, uS, uN, uX, uO, vR, vD, vL, vK, vE, vA, vM, vT]; omega) (by omega)]; simp (maxSteps := 2000000) (implicitDefEqProofs := false) (disch := first | omega | (simp only [SD.down, uA, uL] <;> omega) | fail) only [g2, TA.down, resE, oneV, ↓reduceIte, reduceCtorEq, uB, uE, uL, uA, uM, uS, uN, uX, uO, vR, vD, vL, vK, vE, vA, vM, vT]
  have w3 : h3.get h2.next = some (.cells (B wkA) 0 false) := by rw [k3.2 _ (by simp (maxSteps := 2000000) (implicitDefEqProofs := false) (disch := first | omega | (simp only [SD.down, uA, uL] <;> omega) | fail) only [TA.down, resE, oneV, ↓reduceIte, reduceCtorEq, uB, uE, uL, uA, uM, uS, uN, uX, uO, vR, vD, vL, vK, vE, vA, vM, vT]; omega) (by omega)]; simp (maxSteps := 2000000) (implicitDefEqProofs := false) (disch := first | omega | (simp only [SD.down, uA, uL] <;> omega) | fail) only [TA.down, resE, oneV, ↓reduceIte, reduceCtorEq, uB, uE, uL, uA, uM, uS, uN, uX, uO, vR, vD, vL, vK, vE, vA, vM, vT]
  simp (maxSteps := 2000000) (implicitDefEqProofs := false) (disch := first | omega | (simp only [SD.down, uA, uL] <;> omega) | fail) only [zz64, zs7, cutB_all, sc7_len, g2, g3, w3, same_B, TA.down, resE, oneV, ↓reduceIte, reduceCtorEq, uB, uE, uL, uA, uM, uS, uN, uX, uO, vR, vD, vL, vK, vE, vA, vM, vT]
  rw [bin_eql_agg, eq53 _ _ wkB_len sc7_len, wk2']
  simp (maxSteps := 2000000) (implicitDefEqProofs := false) (disch := first | omega | (simp only [SD.down, uA, uL] <;> omega) | fail) only [zz64, zs7, cutB_all, sc7_len, g2, g3, w3, same_B, rb1, rb2, TA.down, resE, oneV, ↓reduceIte, reduceCtorEq, uB, uE, uL, uA, uM, uS, uN, uX, uO, vR, vD, vL, vK, vE, vA, vM, vT]
  refine G.callC (xdouble_ok (d + 5) _ bk1 bk1_len) ?_
  rintro v h4 ⟨rfl, k4⟩
  simp (maxSteps := 2000000) (implicitDefEqProofs := false) (disch := first | omega | (simp only [SD.down, uA, uL] <;> omega) | fail) only [zz64, zs7, cutB_all, sc7_len, g2, g3, w3, same_B, rb1, rb2, TA.down, resE, oneV, ↓reduceIte, reduceCtorEq, uB, uE, uL, uA, uM, uS, uN, uX, uO, vR, vD, vL, vK, vE, vA, vM, vT]
  rw [bin_eql_agg, eq24 _ _ (dblX_len ..) bk2_len, show decide (M (dblX bk1) = M bk2) = true from decide_eq_true wk3]
  simp (maxSteps := 2000000) (implicitDefEqProofs := false) (disch := first | omega | (simp only [SD.down, uA, uL] <;> omega) | fail) only [zz64, zs7, cutB_all, sc7_len, g2, g3, w3, same_B, rb1, rb2, TA.down, resE, oneV, ↓reduceIte, reduceCtorEq, uB, uE, uL, uA, uM, uS, uN, uX, uO, vR, vD, vL, vK, vE, vA, vM, vT]
  subst hX
  refine G.ok ⟨rfl, ?_, fun j hj => ?_⟩
  · have := k4.1; omega
  · rw [k4.2 j (by omega), k3.2 j (by simp (maxSteps := 2000000) (implicitDefEqProofs := false) (disch := first | omega | (simp only [SD.down, uA, uL] <;> omega) | fail) only [TA.down, resE, oneV, ↓reduceIte, reduceCtorEq, uB, uE, uL, uA, uM, uS, uN, uX, uO, vR, vD, vL, vK, vE, vA, vM, vT]; omega) (by omega)]
    simp (maxSteps := 2000000) (implicitDefEqProofs := false) (disch := first | omega | (simp only [SD.down, uA, uL] <;> omega) | fail) only [TA.down, resE, oneV, ↓reduceIte, reduceCtorEq, uB, uE, uL, uA, uM, uS, uN, uX, uO, vR, vD, vL, vK, vE, vA, vM, vT]
    rw [k2.2 j (by simp (maxSteps := 2000000) (implicitDefEqProofs := false) (disch := first | omega | (simp only [SD.down, uA, uL] <;> omega) | fail) only [TA.down, resE, oneV, ↓reduceIte, reduceCtorEq, uB, uE, uL, uA, uM, uS, uN, uX, uO, vR, vD, vL, vK, vE, vA, vM, vT]; omega) (by omega)]
    simp (maxSteps := 2000000) (implicitDefEqProofs := false) (disch := first | omega | (simp only [SD.down, uA, uL] <;> omega) | fail) only [TA.down, resE, oneV, ↓reduceIte, reduceCtorEq, uB, uE, uL, uA, uM, uS, uN, uX, uO, vR, vD, vL, vK, vE, vA, vM, vT]
    exact k1.2 j hj
end Go.Proofs.Ythcbefolifpbpaa
