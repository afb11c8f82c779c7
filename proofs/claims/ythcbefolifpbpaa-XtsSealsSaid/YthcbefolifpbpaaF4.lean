/- Of this program, for all inputs: contracts. No condition but those in the theorems. -/
import Derived.Test.YthcbefolifpbpaaF3
import Derived.Test.YthcbefolifpbpaaCB
import Derived.Test.YthcbefolifpbpaaAwArgs
namespace Go.Proofs.Ythcbefolifpbpaa
open Go Go.Ai Go.Aw Go.Proofs
open Nat renaming reduceBEq → uB, reduceEqDiff → uE, reduceLT → uL, reduceAdd → uA, reduceMul → uM, reduceSub → uS, reduceAnd → uN, reduceXor → uX, reduceOr → uO
open Int renaming reduceMod → vR, reduceDiv → vD, reduceLT → vL, reduceLE → vK, reduceEq → vE, reduceAdd → vA, reduceMul → vM, reduceToNat → vT
set_option linter.unusedSimpArgs false
set_option linter.unusedVariables false
set_option maxRecDepth 10000
set_option maxHeartbeats 4000000 in
theorem xtsSeals_ok (d : Nat) (h : Heap) (ka kb : List Nat) (ha : ka.length = 32) (hb : kb.length = 32) (n : Nat) (hn : n < 18446744073709551616) (s : List Nat) (hs : s.length = 64) : G (callD env (d + 8) 5 [.agg (keysC ka kb n), .agg (B s)] h) fun v h' => v = .bool true := by
  generalize hX : (fun (v : AV) (h' : Heap) => v = .bool true) = Q
  have hz := z64_len
  rw [callD_run (E := env) [(2, .fl [(6, 0, 1), (8, 0, 1), (10, 0, 1), (11, 0, 1), (21, 2, 3), (23, 2, 3), (25, 2, 3), (26, 2, 3)])] (by kernel_rfl) Try.func5 rfl (by rw [Try.ntmps5]; simp) (by kernel_rfl)]; simp (maxSteps := 2000000) (implicitDefEqProofs := false) (disch := first | omega | (simp only [SD.down, uA, uL] <;> omega) | fail) only [Try.ntmps5, Try.results5, env_P, env_L, cutB_all, hs, cut_ka, cut_kb, ha, hb, TA.down, resE, oneV, ↓reduceIte, reduceCtorEq, uB, uE, uL, uA, uM, uS, uN, uX, uO, vR, vD, vL, vK, vE, vA, vM, vT]
  refine G.call (xnew_ok (d + 3) _ ka kb ha hb) ?_
  rintro v h1 ⟨m, kd, kt, rfl, hm, hkd, i1, k1⟩
  have hn1 := k1.1
  simp (maxSteps := 2000000) (implicitDefEqProofs := false) (disch := first | omega | (simp only [SD.down, uA, uL] <;> omega) | fail) only [TA.down, resE, oneV, ↓reduceIte, reduceCtorEq, uB, uE, uL, uA, uM, uS, uN, uX, uO, vR, vD, vL, vK, vE, vA, vM, vT] at hn1 hm hkd
  have gk : h1.get h.next = some (.cells (keysC ka kb n) 0 false) := by rw [k1.2 _ (by simp (maxSteps := 2000000) (implicitDefEqProofs := false) (disch := first | omega | (simp only [SD.down, uA, uL] <;> omega) | fail) only [TA.down, resE, oneV, ↓reduceIte, reduceCtorEq, uB, uE, uL, uA, uM, uS, uN, uX, uO, vR, vD, vL, vK, vE, vA, vM, vT]; omega)]; simp (maxSteps := 2000000) (implicitDefEqProofs := false) (disch := first | omega | (simp only [SD.down, uA, uL] <;> omega) | fail) only [TA.down, resE, oneV, ↓reduceIte, reduceCtorEq, uB, uE, uL, uA, uM, uS, uN, uX, uO, vR, vD, vL, vK, vE, vA, vM, vT]
  have gs : h1.get (h.next + 1) = some (.cells (B s) 0 false) := by rw [k1.2 _ (by simp (maxSteps := 2000000) (implicitDefEqProofs := false) (disch := first | omega | (simp only [SD.down, uA, uL] <;> omega) | fail) only [TA.down, resE, oneV, ↓reduceIte, reduceCtorEq, uB, uE, uL, uA, uM, uS, uN, uX, uO, vR, vD, vL, vK, vE, vA, vM, vT]; omega)]; simp (maxSteps := 2000000) (implicitDefEqProofs := false) (disch := first | omega | (simp only [SD.down, uA, uL] <;> omega) | fail) only [TA.down, resE, oneV, ↓reduceIte, reduceCtorEq, uB, uE, uL, uA, uM, uS, uN, uX, uO, vR, vD, vL, vK, vE, vA, vM, vT]
  have q4 := at_n (n := n) ha hb
  have e18 : ∀ D h', callD env (D + 1) 18 [.agg (B ka), .agg (B kb), .int .u64 (n : Int), .agg (B s)] h' = some (.agg (B (R.X.sealR (M ka) (M kb) n (M s))), h') := fun D h' => R.X.q18 D ka kb s n h' ha hb hn hs
  have e20 : ∀ D h', callD env (D + 1) 20 [.agg (B ka), .agg (B kb), .int .u64 (n : Int), .agg (B s)] h' = some (.agg (B (R.X.openR (M ka) (M kb) n (M s))), h') := fun D h' => R.X.q20 D ka kb s n h' ha hb hn hs
  have lr : (R.X.sealR (M ka) (M kb) n (M s)).length = 64 := R.X.eR_len ..
  have lo : (R.X.openR (M ka) (M kb) n (M s)).length = 64 := R.X.eR_len ..
  simp (maxSteps := 2000000) (implicitDefEqProofs := false) (disch := first | omega | (simp only [SD.down, uA, uL] <;> omega) | fail) only [gk, gs, q4, cutB_all, cut_ka, cut_kb, ha, hb, hs, same_B, TA.down, resE, oneV, ↓reduceIte, reduceCtorEq, uB, uE, uL, uA, uM, uS, uN, uX, uO, vR, vD, vL, vK, vE, vA, vM, vT]
  refine G.callC (mseal_ok (d + 1) _ m kd kt _ _ i1 n hn s hs) ?_
  rintro v h2 ⟨rfl, i2, k2⟩
  have gk2 : h2.get h.next = some (.cells (keysC ka kb n) 0 false) := by rw [k2.2 _ (by omega) (by omega)]; exact gk
  have gs2 : h2.get (h.next + 1) = some (.cells (B s) 0 false) := by rw [k2.2 _ (by omega) (by omega)]; exact gs
  have la := eL_len (sealK (keysL S0 ka)) 4 0 (sealK (keysL S0 kb) (numL n)) s rfl hs
  have n2 := k2.1
  simp (maxSteps := 2000000) (implicitDefEqProofs := false) (disch := first | omega | (simp only [SD.down, uA, uL] <;> omega) | fail) only [gk, gs, gk2, gs2, q4, e18, e20, la, lr, lo, cutB_all, cut_ka, cut_kb, ha, hb, hs, same_B, TA.down, resE, oneV, ↓reduceIte, reduceCtorEq, uB, uE, uL, uA, uM, uS, uN, uX, uO, vR, vD, vL, vK, vE, vA, vM, vT]
  rw [bin_eql_agg, eq53 _ _ la lr, decide_eq_true (sealR_M ha hb n hs).symm]
  simp (maxSteps := 2000000) (implicitDefEqProofs := false) (disch := first | omega | (simp only [SD.down, uA, uL] <;> omega) | fail) only [gk, gs, gk2, gs2, q4, la, lr, lo, cutB_all, cut_ka, cut_kb, ha, hb, hs, same_B, TA.down, resE, oneV, ↓reduceIte, reduceCtorEq, uB, uE, uL, uA, uM, uS, uN, uX, uO, vR, vD, vL, vK, vE, vA, vM, vT]
  refine G.callC (mopen_ok (d + 1) _ m kd kt _ _ i2 n hn s hs) ?_
  rintro v h3 ⟨rfl, i3, k3⟩
  have gk3 : h3.get h.next = some (.cells (keysC ka kb n) 0 false) := by rw [k3.2 _ (by omega) (by omega)]; exact gk2
  have gs3 : h3.get (h.next + 1) = some (.cells (B s) 0 false) := by rw [k3.2 _ (by omega) (by omega)]; exact gs2
  have l2 := eL_len (openK (keysL S0 ka)) 4 0 (sealK (keysL S0 kb) (numL n)) s rfl hs
  simp (maxSteps := 2000000) (implicitDefEqProofs := false) (disch := first | omega | (simp only [SD.down, uA, uL] <;> omega) | fail) only [gk, gs, gk2, gs2, gk3, gs3, q4, e18, e20, la, l2, lr, lo, cutB_all, cut_ka, cut_kb, ha, hb, hs, same_B, TA.down, resE, oneV, ↓reduceIte, reduceCtorEq, uB, uE, uL, uA, uM, uS, uN, uX, uO, vR, vD, vL, vK, vE, vA, vM, vT]
  rw [bin_eql_agg, eq53 _ _ l2 lo, decide_eq_true (openR_M ha hb n hs).symm]
  simp (maxSteps := 2000000) (implicitDefEqProofs := false) (disch := first | omega | (simp only [SD.down, uA, uL] <;> omega) | fail) only [gk, gs, gk2, gs2, gk3, gs3, q4, la, l2, lr, lo, cutB_all, cut_ka, cut_kb, ha, hb, hs, same_B, TA.down, resE, oneV, ↓reduceIte, reduceCtorEq, uB, uE, uL, uA, uM, uS, uN, uX, uO, vR, vD, vL, vK, vE, vA, vM, vT]
  refine G.callC (works_ok d _) ?_
  rintro v h4 ⟨rfl, k4⟩
  simp (maxSteps := 2000000) (implicitDefEqProofs := false) (disch := first | omega | (simp only [SD.down, uA, uL] <;> omega) | fail) only [gk, gs, gk2, gs2, gk3, gs3, q4, la, l2, lr, lo, cutB_all, cut_ka, cut_kb, ha, hb, hs, same_B, TA.down, resE, oneV, ↓reduceIte, reduceCtorEq, uB, uE, uL, uA, uM, uS, uN, uX, uO, vR, vD, vL, vK, vE, vA, vM, vT]
  subst hX
  exact G.ok rfl
end Go.Proofs.Ythcbefolifpbpaa
