/- Of this program, for all inputs: contracts. No condition but those in the theorems. -/
import Derived.Test.YthcbefolifpbpaaA13
namespace Go.Proofs.Ythcbefolifpbpaa
open Go Go.Ai Go.Aw Go.Proofs
open Nat renaming reduceBEq → uB, reduceEqDiff → uE, reduceLT → uL, reduceAdd → uA, reduceMul → uM, reduceSub → uS, reduceAnd → uN, reduceXor → uX, reduceOr → uO
open Int renaming reduceMod → vR, reduceDiv → vD, reduceLT → vL, reduceLE → vK, reduceEq → vE, reduceAdd → vA, reduceMul → vM, reduceToNat → vT
set_option linter.unusedSimpArgs false
set_option linter.unusedVariables false
set_option maxRecDepth 10000
set_option maxHeartbeats 4000000 in
theorem xnew_ok (d : Nat) (h : Heap) (ka kb : List Nat) (ha : ka.length = 32) (hb : kb.length = 32) : G (callD env (d + 4) 16 [.agg (B ka), .agg (B kb)] h) fun v h' => ∃ m kd kt, v = .ptr m 0 ∧ h.next ≤ m ∧ h.next ≤ kd ∧ MIs h' m kd kt (keysL S0 ka) (keysL S0 kb) ∧ Keeps h h' := by
  generalize hX : (fun (v : AV) (h' : Heap) => ∃ m kd kt, v = .ptr m 0 ∧ h.next ≤ m ∧ h.next ≤ kd ∧ MIs h' m kd kt (keysL S0 ka) (keysL S0 kb) ∧ Keeps h h') = Q
  rw [callD_run (E := env) [(1, .fl [(2, 0, 1)])] (by kernel_rfl) Try.func16 rfl (by rw [Try.ntmps16]; simp) (by kernel_rfl)]; simp (maxSteps := 2000000) (implicitDefEqProofs := false) (disch := first | omega | (simp only [SD.down, uA, uL] <;> omega) | fail) only [Try.ntmps16, Try.results16, env_P, env_L, TA.down, resE, oneV, ↓reduceIte, reduceCtorEq, uB, uE, uL, uA, uM, uS, uN, uX, uO, vR, vD, vL, vK, vE, vA, vM, vT]
  simp (maxSteps := 2000000) (implicitDefEqProofs := false) (disch := first | omega | (simp only [SD.down, uA, uL] <;> omega) | fail) only [cutB_all, ha, hb, TA.down, resE, oneV, ↓reduceIte, reduceCtorEq, uB, uE, uL, uA, uM, uS, uN, uX, uO, vR, vD, vL, vK, vE, vA, vM, vT]
  refine G.callC (new_is d _ ka ha) ?_
  rintro v h1 ⟨c, rfl, hc, i1, k1⟩
  have hn1 := k1.1
  simp only [next_new, next_put] at hn1 hc
  have g1 : h1.get (h.next + 1) = some (.cells (B kb) 0 false) := by rw [k1.2 _ (by simp (maxSteps := 2000000) (implicitDefEqProofs := false) (disch := first | omega | (simp only [SD.down, uA, uL] <;> omega) | fail) only [TA.down, resE, oneV, ↓reduceIte, reduceCtorEq, uB, uE, uL, uA, uM, uS, uN, uX, uO, vR, vD, vL, vK, vE, vA, vM, vT]; omega)]; simp (maxSteps := 2000000) (implicitDefEqProofs := false) (disch := first | omega | (simp only [SD.down, uA, uL] <;> omega) | fail) only [TA.down, resE, oneV, ↓reduceIte, reduceCtorEq, uB, uE, uL, uA, uM, uS, uN, uX, uO, vR, vD, vL, vK, vE, vA, vM, vT]
  simp (maxSteps := 2000000) (implicitDefEqProofs := false) (disch := first | omega | (simp only [SD.down, uA, uL] <;> omega) | fail) only [cutB_all, ha, hb, g1, same_B, TA.down, resE, oneV, ↓reduceIte, reduceCtorEq, uB, uE, uL, uA, uM, uS, uN, uX, uO, vR, vD, vL, vK, vE, vA, vM, vT]
  refine G.callC (new_is d _ kb hb) ?_
  rintro v h2 ⟨c2, rfl, hc2, i2, k2⟩
  have hn2 := k2.1
  simp (maxSteps := 2000000) (implicitDefEqProofs := false) (disch := first | omega | (simp only [SD.down, uA, uL] <;> omega) | fail) only [cutB_all, ha, hb, g1, same_B, TA.down, resE, oneV, ↓reduceIte, reduceCtorEq, uB, uE, uL, uA, uM, uS, uN, uX, uO, vR, vD, vL, vK, vE, vA, vM, vT]
  subst hX
  refine G.ok ⟨_, _, _, rfl, by omega, by omega, ⟨by simp (maxSteps := 2000000) (implicitDefEqProofs := false) (disch := first | omega | (simp only [SD.down, uA, uL] <;> omega) | fail) only [TA.down, resE, oneV, ↓reduceIte, reduceCtorEq, uB, uE, uL, uA, uM, uS, uN, uX, uO, vR, vD, vL, vK, vE, vA, vM, vT]; rfl, by simp (maxSteps := 2000000) (implicitDefEqProofs := false) (disch := first | omega | (simp only [SD.down, uA, uL] <;> omega) | fail) only [TA.down, resE, oneV, ↓reduceIte, reduceCtorEq, uB, uE, uL, uA, uM, uS, uN, uX, uO, vR, vD, vL, vK, vE, vA, vM, vT]; omega, (i1.keep ⟨by simp (maxSteps := 2000000) (implicitDefEqProofs := false) (disch := first | omega | (simp only [SD.down, uA, uL] <;> omega) | fail) only [TA.down, resE, oneV, ↓reduceIte, reduceCtorEq, uB, uE, uL, uA, uM, uS, uN, uX, uO, vR, vD, vL, vK, vE, vA, vM, vT]; omega, fun j hj => by simp (maxSteps := 2000000) (implicitDefEqProofs := false) (disch := first | omega | (simp only [SD.down, uA, uL] <;> omega) | fail) only [TA.down, resE, oneV, ↓reduceIte, reduceCtorEq, uB, uE, uL, uA, uM, uS, uN, uX, uO, vR, vD, vL, vK, vE, vA, vM, vT]; exact k2.2 j hj⟩), i2.keep ⟨by simp (maxSteps := 2000000) (implicitDefEqProofs := false) (disch := first | omega | (simp only [SD.down, uA, uL] <;> omega) | fail) only [TA.down, resE, oneV, ↓reduceIte, reduceCtorEq, uB, uE, uL, uA, uM, uS, uN, uX, uO, vR, vD, vL, vK, vE, vA, vM, vT]; omega, fun j hj => by simp (maxSteps := 2000000) (implicitDefEqProofs := false) (disch := first | omega | (simp only [SD.down, uA, uL] <;> omega) | fail) only [TA.down, resE, oneV, ↓reduceIte, reduceCtorEq, uB, uE, uL, uA, uM, uS, uN, uX, uO, vR, vD, vL, vK, vE, vA, vM, vT]⟩, ?_, ?_, ?_⟩, ?_, fun j hj => ?_⟩
  · have := i1.2.1; omega
  · have := i1.2.1; omega
  · have := i2.2.1; omega
  · simp (maxSteps := 2000000) (implicitDefEqProofs := false) (disch := first | omega | (simp only [SD.down, uA, uL] <;> omega) | fail) only [TA.down, resE, oneV, ↓reduceIte, reduceCtorEq, uB, uE, uL, uA, uM, uS, uN, uX, uO, vR, vD, vL, vK, vE, vA, vM, vT]; omega
  · simp (maxSteps := 2000000) (implicitDefEqProofs := false) (disch := first | omega | (simp only [SD.down, uA, uL] <;> omega) | fail) only [TA.down, resE, oneV, ↓reduceIte, reduceCtorEq, uB, uE, uL, uA, uM, uS, uN, uX, uO, vR, vD, vL, vK, vE, vA, vM, vT]
    rw [k2.2 j (by omega), k1.2 j (by simp (maxSteps := 2000000) (implicitDefEqProofs := false) (disch := first | omega | (simp only [SD.down, uA, uL] <;> omega) | fail) only [TA.down, resE, oneV, ↓reduceIte, reduceCtorEq, uB, uE, uL, uA, uM, uS, uN, uX, uO, vR, vD, vL, vK, vE, vA, vM, vT]; omega)]
    simp (maxSteps := 2000000) (implicitDefEqProofs := false) (disch := first | omega | (simp only [SD.down, uA, uL] <;> omega) | fail) only [TA.down, resE, oneV, ↓reduceIte, reduceCtorEq, uB, uE, uL, uA, uM, uS, uN, uX, uO, vR, vD, vL, vK, vE, vA, vM, vT]
theorem eL_len (f : List Nat → List Nat) : ∀ (j q : Nat) (t s : List Nat), q + j = 4 → s.length = 64 → (eL f j q t s).length = 64
  | 0, _, _, _, _, hs => hs
  | j + 1, q, t, s, hq, hs => by
    rw [eL]
    exact eL_len f j (q + 1) _ _ (by omega) (by rw [putL_len (by omega) (addX_len ..)]; exact hs)
theorem b53 : buildE Try.prog 53 [] = some (.agg (B (List.replicate 64 0))) := by kernel_rfl
theorem Z64 : List.replicate 64 (b8 0) = B (List.replicate 64 0) := by rw [B_rep]
set_option maxHeartbeats 4000000 in
theorem mseal_ok (d : Nat) (h : Heap) (m kd kt : Nat) (Kd Kt : List Nat) (i : MIs h m kd kt Kd Kt) (n : Nat) (hn : n < 18446744073709551616) (s : List Nat) (hs : s.length = 64) :
    G (callD env (d + 6) 17 [.ptr m 0, .int .u64 n, .agg (B s)] h) fun v h' => v = .agg (B (eL (sealK Kd) 4 0 (sealK Kt (numL n)) s)) ∧ MIs h' m kd kt Kd Kt ∧ KeepsBut kd h h' := by
  generalize hX : (fun (v : AV) (h' : Heap) => v = .agg (B (eL (sealK Kd) 4 0 (sealK Kt (numL n)) s)) ∧ MIs h' m kd kt Kd Kt ∧ KeepsBut kd h h') = Q
  have hm := i.at_
  have hml := i.lt
  have hdl := i.d.2.1
  have hel := eL_len (sealK Kd) 4 0 (sealK Kt (numL n)) s rfl hs
  have hz : (List.replicate 64 0).length = 64 := List.length_replicate
  rw [callD_run (E := env) [] (by kernel_rfl) Try.func17 rfl (by rw [Try.ntmps17]; simp) (by kernel_rfl)]; simp (maxSteps := 2000000) (implicitDefEqProofs := false) (disch := first | omega | (simp only [SD.down, uA, uL] <;> omega) | fail) only [Try.ntmps17, Try.results17, env_P, env_L, hm, cutB_all, hs, TA.down, resE, oneV, ↓reduceIte, reduceCtorEq, uB, uE, uL, uA, uM, uS, uN, uX, uO, vR, vD, vL, vK, vE, vA, vM, vT]
  refine G.call (each_ok d _ m kd kt Kd Kt (i.keep ⟨by simp (maxSteps := 2000000) (implicitDefEqProofs := false) (disch := first | omega | (simp only [SD.down, uA, uL] <;> omega) | fail) only [TA.down, resE, oneV, ↓reduceIte, reduceCtorEq, uB, uE, uL, uA, uM, uS, uN, uX, uO, vR, vD, vL, vK, vE, vA, vM, vT]; omega, fun j hj => by simp (maxSteps := 2000000) (implicitDefEqProofs := false) (disch := first | omega | (simp only [SD.down, uA, uL] <;> omega) | fail) only [TA.down, resE, oneV, ↓reduceIte, reduceCtorEq, uB, uE, uL, uA, uM, uS, uN, uX, uO, vR, vD, vL, vK, vE, vA, vM, vT]⟩) n hn s hs 13 (sealK Kd) (fun b => sealK_len ..) (chg_seal d kd Kd)) ?_
  rintro v h1 ⟨rfl, j1, k1⟩
  have hn1 := k1.1
  simp only [next_new, next_put] at hn1
  have g1 : h1.get (h.next + 1) = some (.cells (List.replicate 64 (b8 0)) 0 false) := by rw [k1.2 _ (by simp (maxSteps := 2000000) (implicitDefEqProofs := false) (disch := first | omega | (simp only [SD.down, uA, uL] <;> omega) | fail) only [TA.down, resE, oneV, ↓reduceIte, reduceCtorEq, uB, uE, uL, uA, uM, uS, uN, uX, uO, vR, vD, vL, vK, vE, vA, vM, vT]; omega) (by omega)]; simp (maxSteps := 2000000) (implicitDefEqProofs := false) (disch := first | omega | (simp only [SD.down, uA, uL] <;> omega) | fail) only [TA.down, resE, oneV, ↓reduceIte, reduceCtorEq, uB, uE, uL, uA, uM, uS, uN, uX, uO, vR, vD, vL, vK, vE, vA, vM, vT]
  have kk : ∀ j, j < h.next → j ≠ kd → h1.get j = h.get j := fun j hj hjk => by rw [k1.2 j (by simp (maxSteps := 2000000) (implicitDefEqProofs := false) (disch := first | omega | (simp only [SD.down, uA, uL] <;> omega) | fail) only [TA.down, resE, oneV, ↓reduceIte, reduceCtorEq, uB, uE, uL, uA, uM, uS, uN, uX, uO, vR, vD, vL, vK, vE, vA, vM, vT]; omega) hjk]; simp (maxSteps := 2000000) (implicitDefEqProofs := false) (disch := first | omega | (simp only [SD.down, uA, uL] <;> omega) | fail) only [TA.down, resE, oneV, ↓reduceIte, reduceCtorEq, uB, uE, uL, uA, uM, uS, uN, uX, uO, vR, vD, vL, vK, vE, vA, vM, vT]
  simp (maxSteps := 2000000) (implicitDefEqProofs := false) (disch := first | omega | (simp only [SD.down, uA, uL] <;> omega) | fail) only [g1, Z64, over_B, cutB_all, hel, hz, same_B, TA.down, resE, oneV, ↓reduceIte, reduceCtorEq, uB, uE, uL, uA, uM, uS, uN, uX, uO, vR, vD, vL, vK, vE, vA, vM, vT]
  subst hX
  have kF : KeepsBut kd h (h1.put (h.next + 1) (some (Blk.cells (B (eL (sealK Kd) 4 0 (sealK Kt (numL n)) s)) 0 false))) := ⟨by simp (maxSteps := 2000000) (implicitDefEqProofs := false) (disch := first | omega | (simp only [SD.down, uA, uL] <;> omega) | fail) only [TA.down, resE, oneV, ↓reduceIte, reduceCtorEq, uB, uE, uL, uA, uM, uS, uN, uX, uO, vR, vD, vL, vK, vE, vA, vM, vT]; omega, fun j hj hjk => by rw [get_put_ne (by omega)]; exact kk j hj hjk⟩
  refine G.ok ⟨rfl, i.keepBut kF (j1.put (by omega) _), kF⟩
set_option maxHeartbeats 4000000 in
theorem mseal_nil (d : Nat) (h : Heap) (n : AV) (s : List Nat) (hs : s.length = 64) :
    G (callD env (d + 6) 17 [.nilptr, n, .agg (B s)] h) fun v h' => v = .agg (B (List.replicate 64 0)) ∧ Keeps h h' := by
  generalize hX : (fun (v : AV) (h' : Heap) => v = .agg (B (List.replicate 64 0)) ∧ Keeps h h') = Q
  have hz : (List.replicate 64 0).length = 64 := List.length_replicate
  rw [callD_run (E := env) [] (by kernel_rfl) Try.func17 rfl (by rw [Try.ntmps17]; simp) (by kernel_rfl)]; simp (maxSteps := 2000000) (implicitDefEqProofs := false) (disch := first | omega | (simp only [SD.down, uA, uL] <;> omega) | fail) only [Try.ntmps17, Try.results17, env_P, env_L, cutB_all, hs, over_B, hz, Z64, b53, TA.down, resE, oneV, ↓reduceIte, reduceCtorEq, uB, uE, uL, uA, uM, uS, uN, uX, uO, vR, vD, vL, vK, vE, vA, vM, vT]
  subst hX
  refine G.ok ⟨rfl, ?_, fun j hj => ?_⟩
  · simp (maxSteps := 2000000) (implicitDefEqProofs := false) (disch := first | omega | (simp only [SD.down, uA, uL] <;> omega) | fail) only [TA.down, resE, oneV, ↓reduceIte, reduceCtorEq, uB, uE, uL, uA, uM, uS, uN, uX, uO, vR, vD, vL, vK, vE, vA, vM, vT]
    try omega
  · simp (maxSteps := 2000000) (implicitDefEqProofs := false) (disch := first | omega | (simp only [SD.down, uA, uL] <;> omega) | fail) only [TA.down, resE, oneV, ↓reduceIte, reduceCtorEq, uB, uE, uL, uA, uM, uS, uN, uX, uO, vR, vD, vL, vK, vE, vA, vM, vT]
set_option maxHeartbeats 4000000 in
theorem mseal_empty (d : Nat) (h : Heap) (m : Nat) (hml : m < h.next) (hm : h.get m = some (.cells [.nilptr, .nilptr] 0 false)) (n : AV) (s : List Nat) (hs : s.length = 64) :
    G (callD env (d + 6) 17 [.ptr m 0, n, .agg (B s)] h) fun v h' => v = .agg (B (List.replicate 64 0)) ∧ Keeps h h' := by
  generalize hX : (fun (v : AV) (h' : Heap) => v = .agg (B (List.replicate 64 0)) ∧ Keeps h h') = Q
  have hz : (List.replicate 64 0).length = 64 := List.length_replicate
  rw [callD_run (E := env) [] (by kernel_rfl) Try.func17 rfl (by rw [Try.ntmps17]; simp) (by kernel_rfl)]; simp (maxSteps := 2000000) (implicitDefEqProofs := false) (disch := first | omega | (simp only [SD.down, uA, uL] <;> omega) | fail) only [Try.ntmps17, Try.results17, env_P, env_L, cutB_all, hs, over_B, hz, Z64, b53, hm, TA.down, resE, oneV, ↓reduceIte, reduceCtorEq, uB, uE, uL, uA, uM, uS, uN, uX, uO, vR, vD, vL, vK, vE, vA, vM, vT]
  subst hX
  refine G.ok ⟨rfl, ?_, fun j hj => ?_⟩
  · simp (maxSteps := 2000000) (implicitDefEqProofs := false) (disch := first | omega | (simp only [SD.down, uA, uL] <;> omega) | fail) only [TA.down, resE, oneV, ↓reduceIte, reduceCtorEq, uB, uE, uL, uA, uM, uS, uN, uX, uO, vR, vD, vL, vK, vE, vA, vM, vT]
    try omega
  · simp (maxSteps := 2000000) (implicitDefEqProofs := false) (disch := first | omega | (simp only [SD.down, uA, uL] <;> omega) | fail) only [TA.down, resE, oneV, ↓reduceIte, reduceCtorEq, uB, uE, uL, uA, uM, uS, uN, uX, uO, vR, vD, vL, vK, vE, vA, vM, vT]
set_option maxHeartbeats 4000000 in
theorem mopen_ok (d : Nat) (h : Heap) (m kd kt : Nat) (Kd Kt : List Nat) (i : MIs h m kd kt Kd Kt) (n : Nat) (hn : n < 18446744073709551616) (s : List Nat) (hs : s.length = 64) :
    G (callD env (d + 6) 19 [.ptr m 0, .int .u64 n, .agg (B s)] h) fun v h' => v = .agg (B (eL (openK Kd) 4 0 (sealK Kt (numL n)) s)) ∧ MIs h' m kd kt Kd Kt ∧ KeepsBut kd h h' := by
  generalize hX : (fun (v : AV) (h' : Heap) => v = .agg (B (eL (openK Kd) 4 0 (sealK Kt (numL n)) s)) ∧ MIs h' m kd kt Kd Kt ∧ KeepsBut kd h h') = Q
  have hm := i.at_
  have hml := i.lt
  have hdl := i.d.2.1
  have hel := eL_len (openK Kd) 4 0 (sealK Kt (numL n)) s rfl hs
  have hz : (List.replicate 64 0).length = 64 := List.length_replicate
  rw [callD_run (E := env) [] (by kernel_rfl) Try.func19 rfl (by rw [Try.ntmps19]; simp) (by kernel_rfl)]; simp (maxSteps := 2000000) (implicitDefEqProofs := false) (disch := first | omega | (simp only [SD.down, uA, uL] <;> omega) | fail) only [Try.ntmps19, Try.results19, env_P, env_L, hm, cutB_all, hs, TA.down, resE, oneV, ↓reduceIte, reduceCtorEq, uB, uE, uL, uA, uM, uS, uN, uX, uO, vR, vD, vL, vK, vE, vA, vM, vT]
  refine G.call (each_ok d _ m kd kt Kd Kt (i.keep ⟨by simp (maxSteps := 2000000) (implicitDefEqProofs := false) (disch := first | omega | (simp only [SD.down, uA, uL] <;> omega) | fail) only [TA.down, resE, oneV, ↓reduceIte, reduceCtorEq, uB, uE, uL, uA, uM, uS, uN, uX, uO, vR, vD, vL, vK, vE, vA, vM, vT]; omega, fun j hj => by simp (maxSteps := 2000000) (implicitDefEqProofs := false) (disch := first | omega | (simp only [SD.down, uA, uL] <;> omega) | fail) only [TA.down, resE, oneV, ↓reduceIte, reduceCtorEq, uB, uE, uL, uA, uM, uS, uN, uX, uO, vR, vD, vL, vK, vE, vA, vM, vT]⟩) n hn s hs 15 (openK Kd) (fun b => openK_len ..) (chg_open d kd Kd)) ?_
  rintro v h1 ⟨rfl, j1, k1⟩
  have hn1 := k1.1
  simp only [next_new, next_put] at hn1
  have g1 : h1.get (h.next + 1) = some (.cells (List.replicate 64 (b8 0)) 0 false) := by rw [k1.2 _ (by simp (maxSteps := 2000000) (implicitDefEqProofs := false) (disch := first | omega | (simp only [SD.down, uA, uL] <;> omega) | fail) only [TA.down, resE, oneV, ↓reduceIte, reduceCtorEq, uB, uE, uL, uA, uM, uS, uN, uX, uO, vR, vD, vL, vK, vE, vA, vM, vT]; omega) (by omega)]; simp (maxSteps := 2000000) (implicitDefEqProofs := false) (disch := first | omega | (simp only [SD.down, uA, uL] <;> omega) | fail) only [TA.down, resE, oneV, ↓reduceIte, reduceCtorEq, uB, uE, uL, uA, uM, uS, uN, uX, uO, vR, vD, vL, vK, vE, vA, vM, vT]
  have kk : ∀ j, j < h.next → j ≠ kd → h1.get j = h.get j := fun j hj hjk => by rw [k1.2 j (by simp (maxSteps := 2000000) (implicitDefEqProofs := false) (disch := first | omega | (simp only [SD.down, uA, uL] <;> omega) | fail) only [TA.down, resE, oneV, ↓reduceIte, reduceCtorEq, uB, uE, uL, uA, uM, uS, uN, uX, uO, vR, vD, vL, vK, vE, vA, vM, vT]; omega) hjk]; simp (maxSteps := 2000000) (implicitDefEqProofs := false) (disch := first | omega | (simp only [SD.down, uA, uL] <;> omega) | fail) only [TA.down, resE, oneV, ↓reduceIte, reduceCtorEq, uB, uE, uL, uA, uM, uS, uN, uX, uO, vR, vD, vL, vK, vE, vA, vM, vT]
  simp (maxSteps := 2000000) (implicitDefEqProofs := false) (disch := first | omega | (simp only [SD.down, uA, uL] <;> omega) | fail) only [g1, Z64, over_B, cutB_all, hel, hz, same_B, TA.down, resE, oneV, ↓reduceIte, reduceCtorEq, uB, uE, uL, uA, uM, uS, uN, uX, uO, vR, vD, vL, vK, vE, vA, vM, vT]
  subst hX
  have kF : KeepsBut kd h (h1.put (h.next + 1) (some (Blk.cells (B (eL (openK Kd) 4 0 (sealK Kt (numL n)) s)) 0 false))) := ⟨by simp (maxSteps := 2000000) (implicitDefEqProofs := false) (disch := first | omega | (simp only [SD.down, uA, uL] <;> omega) | fail) only [TA.down, resE, oneV, ↓reduceIte, reduceCtorEq, uB, uE, uL, uA, uM, uS, uN, uX, uO, vR, vD, vL, vK, vE, vA, vM, vT]; omega, fun j hj hjk => by rw [get_put_ne (by omega)]; exact kk j hj hjk⟩
  refine G.ok ⟨rfl, i.keepBut kF (j1.put (by omega) _), kF⟩
set_option maxHeartbeats 4000000 in
theorem mopen_nil (d : Nat) (h : Heap) (n : AV) (s : List Nat) (hs : s.length = 64) :
    G (callD env (d + 6) 19 [.nilptr, n, .agg (B s)] h) fun v h' => v = .agg (B (List.replicate 64 0)) ∧ Keeps h h' := by
  generalize hX : (fun (v : AV) (h' : Heap) => v = .agg (B (List.replicate 64 0)) ∧ Keeps h h') = Q
  have hz : (List.replicate 64 0).length = 64 := List.length_replicate
  rw [callD_run (E := env) [] (by kernel_rfl) Try.func19 rfl (by rw [Try.ntmps19]; simp) (by kernel_rfl)]; simp (maxSteps := 2000000) (implicitDefEqProofs := false) (disch := first | omega | (simp only [SD.down, uA, uL] <;> omega) | fail) only [Try.ntmps19, Try.results19, env_P, env_L, cutB_all, hs, over_B, hz, Z64, b53, TA.down, resE, oneV, ↓reduceIte, reduceCtorEq, uB, uE, uL, uA, uM, uS, uN, uX, uO, vR, vD, vL, vK, vE, vA, vM, vT]
  subst hX
  refine G.ok ⟨rfl, ?_, fun j hj => ?_⟩
  · simp (maxSteps := 2000000) (implicitDefEqProofs := false) (disch := first | omega | (simp only [SD.down, uA, uL] <;> omega) | fail) only [TA.down, resE, oneV, ↓reduceIte, reduceCtorEq, uB, uE, uL, uA, uM, uS, uN, uX, uO, vR, vD, vL, vK, vE, vA, vM, vT]
    try omega
  · simp (maxSteps := 2000000) (implicitDefEqProofs := false) (disch := first | omega | (simp only [SD.down, uA, uL] <;> omega) | fail) only [TA.down, resE, oneV, ↓reduceIte, reduceCtorEq, uB, uE, uL, uA, uM, uS, uN, uX, uO, vR, vD, vL, vK, vE, vA, vM, vT]
set_option maxHeartbeats 4000000 in
theorem mopen_empty (d : Nat) (h : Heap) (m : Nat) (hml : m < h.next) (hm : h.get m = some (.cells [.nilptr, .nilptr] 0 false)) (n : AV) (s : List Nat) (hs : s.length = 64) :
    G (callD env (d + 6) 19 [.ptr m 0, n, .agg (B s)] h) fun v h' => v = .agg (B (List.replicate 64 0)) ∧ Keeps h h' := by
  generalize hX : (fun (v : AV) (h' : Heap) => v = .agg (B (List.replicate 64 0)) ∧ Keeps h h') = Q
  have hz : (List.replicate 64 0).length = 64 := List.length_replicate
  rw [callD_run (E := env) [] (by kernel_rfl) Try.func19 rfl (by rw [Try.ntmps19]; simp) (by kernel_rfl)]; simp (maxSteps := 2000000) (implicitDefEqProofs := false) (disch := first | omega | (simp only [SD.down, uA, uL] <;> omega) | fail) only [Try.ntmps19, Try.results19, env_P, env_L, cutB_all, hs, over_B, hz, Z64, b53, hm, TA.down, resE, oneV, ↓reduceIte, reduceCtorEq, uB, uE, uL, uA, uM, uS, uN, uX, uO, vR, vD, vL, vK, vE, vA, vM, vT]
  subst hX
  refine G.ok ⟨rfl, ?_, fun j hj => ?_⟩
  · simp (maxSteps := 2000000) (implicitDefEqProofs := false) (disch := first | omega | (simp only [SD.down, uA, uL] <;> omega) | fail) only [TA.down, resE, oneV, ↓reduceIte, reduceCtorEq, uB, uE, uL, uA, uM, uS, uN, uX, uO, vR, vD, vL, vK, vE, vA, vM, vT]
    try omega
  · simp (maxSteps := 2000000) (implicitDefEqProofs := false) (disch := first | omega | (simp only [SD.down, uA, uL] <;> omega) | fail) only [TA.down, resE, oneV, ↓reduceIte, reduceCtorEq, uB, uE, uL, uA, uM, uS, uN, uX, uO, vR, vD, vL, vK, vE, vA, vM, vT]
end Go.Proofs.Ythcbefolifpbpaa
