/- Of this program, for all inputs: contracts. No condition but those in the theorems. -/
import Derived.Test.YthcbefolifpbpaaA8
namespace Go.Proofs.Ythcbefolifpbpaa
open Go Go.Ai Go.Aw Go.Proofs
open Nat renaming reduceBEq → uB, reduceEqDiff → uE, reduceLT → uL, reduceAdd → uA, reduceMul → uM, reduceSub → uS, reduceAnd → uN, reduceXor → uX, reduceOr → uO
open Int renaming reduceMod → vR, reduceDiv → vD, reduceLT → vL, reduceLE → vK, reduceEq → vE, reduceAdd → vA, reduceMul → vM, reduceToNat → vT
set_option linter.unusedSimpArgs false
set_option linter.unusedVariables false
set_option maxRecDepth 10000
theorem kS_len : kS.length = 32 := rfl
theorem bS_len : bS.length = 16 := rfl
set_option maxHeartbeats 4000000 in
theorem awake_ok (d : Nat) (h : Heap) : G (callD env (d + 4) 14 [] h) fun v h' => v = .bool true ∧ Keeps h h' := by
  generalize hX : (fun (v : AV) (h' : Heap) => v = .bool true ∧ Keeps h h') = Q
  have hkS := kS_len
  have hbS := bS_len
  rw [callD_run (E := env) [(2, .fl [(2, 0, 1)])] (by kernel_rfl) Try.func14 rfl (by rw [Try.ntmps14]; simp) (by kernel_rfl)]; simp (maxSteps := 2000000) (implicitDefEqProofs := false) (disch := first | omega | (simp only [SD.down, uA, uL] <;> omega) | fail) only [Try.ntmps14, Try.results14, env_P, env_L, TA.down, resE, oneV, ↓reduceIte, reduceCtorEq, uB, uE, uL, uA, uM, uS, uN, uX, uO, vR, vD, vL, vK, vE, vA, vM, vT]
  refine G.call (steps_ok (d + 2) _) ?_
  rintro v h1 ⟨rfl, k1⟩
  simp (maxSteps := 2000000) (implicitDefEqProofs := false) (disch := first | omega | (simp only [SD.down, uA, uL] <;> omega) | fail) only [rep32, rep16, over_B, cutB_all, kS_len, bS_len, TA.down, resE, oneV, ↓reduceIte, reduceCtorEq, uB, uE, uL, uA, uM, uS, uN, uX, uO, vR, vD, vL, vK, vE, vA, vM, vT]
  refine G.callC (new_is d _ kS kS_len) ?_
  rintro v h2 ⟨c, rfl, hc, i2, k2⟩
  have g2 : h2.get (h1.next + 1) = some (.cells (B bS) 0 false) := by rw [k2.2 _ (by simp (maxSteps := 2000000) (implicitDefEqProofs := false) (disch := first | omega | (simp only [SD.down, uA, uL] <;> omega) | fail) only [TA.down, resE, oneV, ↓reduceIte, reduceCtorEq, uB, uE, uL, uA, uM, uS, uN, uX, uO, vR, vD, vL, vK, vE, vA, vM, vT]; omega)]; simp (maxSteps := 2000000) (implicitDefEqProofs := false) (disch := first | omega | (simp only [SD.down, uA, uL] <;> omega) | fail) only [TA.down, resE, oneV, ↓reduceIte, reduceCtorEq, uB, uE, uL, uA, uM, uS, uN, uX, uO, vR, vD, vL, vK, vE, vA, vM, vT]
  simp (maxSteps := 2000000) (implicitDefEqProofs := false) (disch := first | omega | (simp only [SD.down, uA, uL] <;> omega) | fail) only [rep32, rep16, over_B, cutB_all, kS_len, bS_len, g2, TA.down, resE, oneV, ↓reduceIte, reduceCtorEq, uB, uE, uL, uA, uM, uS, uN, uX, uO, vR, vD, vL, vK, vE, vA, vM, vT]
  refine G.callC (seal_is d _ c _ bS bS_len i2) ?_
  rintro v h3 ⟨rfl, k3⟩
  simp (maxSteps := 2000000) (implicitDefEqProofs := false) (disch := first | omega | (simp only [SD.down, uA, uL] <;> omega) | fail) only [rep32, rep16, over_B, cutB_all, kS_len, bS_len, g2, same_B, bu24, TA.down, resE, oneV, ↓reduceIte, reduceCtorEq, uB, uE, uL, uA, uM, uS, uN, uX, uO, vR, vD, vL, vK, vE, vA, vM, vT]
  rw [bin_eql_agg, eq24 _ _ (sealK_len ..) rfl, show M (sealK (keysL S0 kS) bS) = M [142, 162, 183, 202, 81, 103, 69, 191, 234, 252, 73, 144, 75, 73, 96, 137] from fips]
  simp (maxSteps := 2000000) (implicitDefEqProofs := false) (disch := first | omega | (simp only [SD.down, uA, uL] <;> omega) | fail) only [rep32, rep16, over_B, cutB_all, kS_len, bS_len, g2, same_B, TA.down, resE, oneV, ↓reduceIte, reduceCtorEq, uB, uE, uL, uA, uM, uS, uN, uX, uO, vR, vD, vL, vK, vE, vA, vM, vT]

  subst hX
  refine G.ok ⟨rfl, k1.trans (Keeps.trans ⟨?_, fun j hj => ?_⟩ (k2.trans k3))⟩
  · simp (maxSteps := 2000000) (implicitDefEqProofs := false) (disch := first | omega | (simp only [SD.down, uA, uL] <;> omega) | fail) only [TA.down, resE, oneV, ↓reduceIte, reduceCtorEq, uB, uE, uL, uA, uM, uS, uN, uX, uO, vR, vD, vL, vK, vE, vA, vM, vT]
    try omega
  · simp (maxSteps := 2000000) (implicitDefEqProofs := false) (disch := first | omega | (simp only [SD.down, uA, uL] <;> omega) | fail) only [TA.down, resE, oneV, ↓reduceIte, reduceCtorEq, uB, uE, uL, uA, uM, uS, uN, uX, uO, vR, vD, vL, vK, vE, vA, vM, vT]
end Go.Proofs.Ythcbefolifpbpaa
namespace Go.Proofs.Ythcbefolifpbpaa
open Go Go.Ai Go.Aw Go.Proofs
open Nat renaming reduceBEq → uB, reduceEqDiff → uE, reduceLT → uL, reduceAdd → uA, reduceMul → uM, reduceSub → uS, reduceAnd → uN, reduceXor → uX, reduceOr → uO
open Int renaming reduceMod → vR, reduceDiv → vD, reduceLT → vL, reduceLE → vK, reduceEq → vE, reduceAdd → vA, reduceMul → vM, reduceToNat → vT
def z16 : List Nat := [0, 0, 0, 0, 0, 0, 0, 0, 0, 0, 0, 0, 0, 0, 0, 0]
def z32 : List Nat := [0, 0, 0, 0, 0, 0, 0, 0, 0, 0, 0, 0, 0, 0, 0, 0, 0, 0, 0, 0, 0, 0, 0, 0, 0, 0, 0, 0, 0, 0, 0, 0]
theorem known1 : M (openK (keysL S0 kS) (sealK (keysL S0 kS) bS)) = M bS := by kernel_rfl
theorem known2 : M (sealK (keysL S0 z32) z16) = [0xdc, 0x95, 0xc0, 0x78, 0xa2, 0x40, 0x89, 0x89, 0xad, 0x48, 0xa2, 0x14, 0x92, 0x84, 0x20, 0x87] := by kernel_rfl
end Go.Proofs.Ythcbefolifpbpaa
namespace Go.Proofs.Ythcbefolifpbpaa
open Go Go.Ai Go.Aw Go.Proofs
open Nat renaming reduceBEq → uB, reduceEqDiff → uE, reduceLT → uL, reduceAdd → uA, reduceMul → uM, reduceSub → uS, reduceAnd → uN, reduceXor → uX, reduceOr → uO
open Int renaming reduceMod → vR, reduceDiv → vD, reduceLT → vL, reduceLE → vK, reduceEq → vE, reduceAdd → vA, reduceMul → vM, reduceToNat → vT
set_option linter.unusedSimpArgs false
set_option linter.unusedVariables false
set_option maxRecDepth 10000
theorem Z32 : List.replicate 32 (b8 0) = B z32 := rfl
theorem Z16 : List.replicate 16 (b8 0) = B z16 := rfl
theorem z16_len : z16.length = 16 := rfl
theorem z32_len : z32.length = 32 := rfl
def emptyC : List AV := List.replicate 752 (b8 0) ++ [AV.bool false] ++ [AV.int IntKind.u32 0] ++ [AV.int IntKind.i32 0] ++ [AV.int IntKind.u32 0]
theorem empty_at : emptyC[752]? = some (.bool false) := by kernel_rfl
theorem seal_nil (d : Nat) (h : Heap) (b : List Nat) : G (callD env (d + 3) 13 [.nilptr, .agg (B b)] h) fun v h' => v = .agg (B z16) ∧ Keeps h h' := by
  generalize hX : (fun (v : AV) (h' : Heap) => v = .agg (B z16) ∧ Keeps h h') = Q
  have hz := z16_len
  rw [callD_run (E := env) [] (by kernel_rfl) Try.func13 rfl (by rw [Try.ntmps13]; simp) (by kernel_rfl)]; simp (maxSteps := 2000000) (implicitDefEqProofs := false) (disch := first | omega | (simp only [SD.down, uA, uL] <;> omega) | fail) only [Try.ntmps13, Try.results13, env_P, env_L, in26, Try.f26, Z16, over_B, cutB_all, hz, TA.down, resE, oneV, ↓reduceIte, reduceCtorEq, uB, uE, uL, uA, uM, uS, uN, uX, uO, vR, vD, vL, vK, vE, vA, vM, vT]
  subst hX
  refine G.ok ⟨rfl, ?_, fun j hj => ?_⟩
  · simp (maxSteps := 2000000) (implicitDefEqProofs := false) (disch := first | omega | (simp only [SD.down, uA, uL] <;> omega) | fail) only [TA.down, resE, oneV, ↓reduceIte, reduceCtorEq, uB, uE, uL, uA, uM, uS, uN, uX, uO, vR, vD, vL, vK, vE, vA, vM, vT]
    try omega
  · simp (maxSteps := 2000000) (implicitDefEqProofs := false) (disch := first | omega | (simp only [SD.down, uA, uL] <;> omega) | fail) only [TA.down, resE, oneV, ↓reduceIte, reduceCtorEq, uB, uE, uL, uA, uM, uS, uN, uX, uO, vR, vD, vL, vK, vE, vA, vM, vT]
theorem open_nil (d : Nat) (h : Heap) (b : List Nat) : G (callD env (d + 3) 15 [.nilptr, .agg (B b)] h) fun v h' => v = .agg (B z16) ∧ Keeps h h' := by
  generalize hX : (fun (v : AV) (h' : Heap) => v = .agg (B z16) ∧ Keeps h h') = Q
  have hz := z16_len
  rw [callD_run (E := env) [] (by kernel_rfl) Try.func15 rfl (by rw [Try.ntmps15]; simp) (by kernel_rfl)]; simp (maxSteps := 2000000) (implicitDefEqProofs := false) (disch := first | omega | (simp only [SD.down, uA, uL] <;> omega) | fail) only [Try.ntmps15, Try.results15, env_P, env_L, in26, Try.f26, Z16, over_B, cutB_all, hz, TA.down, resE, oneV, ↓reduceIte, reduceCtorEq, uB, uE, uL, uA, uM, uS, uN, uX, uO, vR, vD, vL, vK, vE, vA, vM, vT]
  subst hX
  refine G.ok ⟨rfl, ?_, fun j hj => ?_⟩
  · simp (maxSteps := 2000000) (implicitDefEqProofs := false) (disch := first | omega | (simp only [SD.down, uA, uL] <;> omega) | fail) only [TA.down, resE, oneV, ↓reduceIte, reduceCtorEq, uB, uE, uL, uA, uM, uS, uN, uX, uO, vR, vD, vL, vK, vE, vA, vM, vT]
    try omega
  · simp (maxSteps := 2000000) (implicitDefEqProofs := false) (disch := first | omega | (simp only [SD.down, uA, uL] <;> omega) | fail) only [TA.down, resE, oneV, ↓reduceIte, reduceCtorEq, uB, uE, uL, uA, uM, uS, uN, uX, uO, vR, vD, vL, vK, vE, vA, vM, vT]
theorem seal_empty (d : Nat) (h : Heap) (k : Nat) (hkn : k < h.next) (hk : h.get k = some (.cells emptyC 0 false)) (b : List Nat) : G (callD env (d + 3) 13 [.ptr k 0, .agg (B b)] h) fun v h' => v = .agg (B z16) ∧ Keeps h h' := by
  generalize hX : (fun (v : AV) (h' : Heap) => v = .agg (B z16) ∧ Keeps h h') = Q
  have hz := z16_len
  have hm := empty_at
  rw [callD_run (E := env) [] (by kernel_rfl) Try.func13 rfl (by rw [Try.ntmps13]; simp) (by kernel_rfl)]; simp (maxSteps := 2000000) (implicitDefEqProofs := false) (disch := first | omega | (simp only [SD.down, uA, uL] <;> omega) | fail) only [Try.ntmps13, Try.results13, env_P, env_L, in26, Try.f26, Z16, over_B, cutB_all, hz, hk, hm, TA.down, resE, oneV, ↓reduceIte, reduceCtorEq, uB, uE, uL, uA, uM, uS, uN, uX, uO, vR, vD, vL, vK, vE, vA, vM, vT]
  subst hX
  refine G.ok ⟨rfl, ?_, fun j hj => ?_⟩
  · simp (maxSteps := 2000000) (implicitDefEqProofs := false) (disch := first | omega | (simp only [SD.down, uA, uL] <;> omega) | fail) only [TA.down, resE, oneV, ↓reduceIte, reduceCtorEq, uB, uE, uL, uA, uM, uS, uN, uX, uO, vR, vD, vL, vK, vE, vA, vM, vT]
    try omega
  · simp (maxSteps := 2000000) (implicitDefEqProofs := false) (disch := first | omega | (simp only [SD.down, uA, uL] <;> omega) | fail) only [TA.down, resE, oneV, ↓reduceIte, reduceCtorEq, uB, uE, uL, uA, uM, uS, uN, uX, uO, vR, vD, vL, vK, vE, vA, vM, vT]
theorem open_empty (d : Nat) (h : Heap) (k : Nat) (hkn : k < h.next) (hk : h.get k = some (.cells emptyC 0 false)) (b : List Nat) : G (callD env (d + 3) 15 [.ptr k 0, .agg (B b)] h) fun v h' => v = .agg (B z16) ∧ Keeps h h' := by
  generalize hX : (fun (v : AV) (h' : Heap) => v = .agg (B z16) ∧ Keeps h h') = Q
  have hz := z16_len
  have hm := empty_at
  rw [callD_run (E := env) [] (by kernel_rfl) Try.func15 rfl (by rw [Try.ntmps15]; simp) (by kernel_rfl)]; simp (maxSteps := 2000000) (implicitDefEqProofs := false) (disch := first | omega | (simp only [SD.down, uA, uL] <;> omega) | fail) only [Try.ntmps15, Try.results15, env_P, env_L, in26, Try.f26, Z16, over_B, cutB_all, hz, hk, hm, TA.down, resE, oneV, ↓reduceIte, reduceCtorEq, uB, uE, uL, uA, uM, uS, uN, uX, uO, vR, vD, vL, vK, vE, vA, vM, vT]
  subst hX
  refine G.ok ⟨rfl, ?_, fun j hj => ?_⟩
  · simp (maxSteps := 2000000) (implicitDefEqProofs := false) (disch := first | omega | (simp only [SD.down, uA, uL] <;> omega) | fail) only [TA.down, resE, oneV, ↓reduceIte, reduceCtorEq, uB, uE, uL, uA, uM, uS, uN, uX, uO, vR, vD, vL, vK, vE, vA, vM, vT]
    try omega
  · simp (maxSteps := 2000000) (implicitDefEqProofs := false) (disch := first | omega | (simp only [SD.down, uA, uL] <;> omega) | fail) only [TA.down, resE, oneV, ↓reduceIte, reduceCtorEq, uB, uE, uL, uA, uM, uS, uN, uX, uO, vR, vD, vL, vK, vE, vA, vM, vT]
theorem b23 : buildE Try.prog 23 [] = some (.agg (B z32)) := by kernel_rfl
theorem b24 : buildE Try.prog 24 [] = some (.agg (B z16)) := by kernel_rfl
theorem b45 : buildE Try.prog 45 [] = some (.agg emptyC) := by kernel_rfl
set_option maxHeartbeats 4000000 in
theorem aesKnown_ok (d : Nat) (h : Heap) : G (callD env (d + 6) 3 [] h) fun v h' => v = .bool true := by
  generalize hX : (fun (v : AV) (h' : Heap) => v = .bool true) = Q
  have hkS := kS_len
  have hbS := bS_len
  have hz := z16_len
  have hz2 := z32_len
  rw [callD_run (E := env) [(6, .fl [(7, 1, 3)])] (by kernel_rfl) Try.func3 rfl (by rw [Try.ntmps3]; simp) (by kernel_rfl)]; simp (maxSteps := 2000000) (implicitDefEqProofs := false) (disch := first | omega | (simp only [SD.down, uA, uL] <;> omega) | fail) only [Try.ntmps3, Try.results3, env_P, env_L, TA.down, resE, oneV, ↓reduceIte, reduceCtorEq, uB, uE, uL, uA, uM, uS, uN, uX, uO, vR, vD, vL, vK, vE, vA, vM, vT]
  refine G.call (steps_ok (d + 4) _) ?_
  rintro v h1 ⟨rfl, k1⟩
  simp (maxSteps := 2000000) (implicitDefEqProofs := false) (disch := first | omega | (simp only [SD.down, uA, uL] <;> omega) | fail) only [Z32, Z16, over_B, cutB_all, kS_len, bS_len, TA.down, resE, oneV, ↓reduceIte, reduceCtorEq, uB, uE, uL, uA, uM, uS, uN, uX, uO, vR, vD, vL, vK, vE, vA, vM, vT]
  refine G.call (new_is (d + 2) _ kS kS_len) ?_
  rintro v h2 ⟨c, rfl, hc, i2, k2⟩
  have hn2 : h1.next + 2 ≤ h2.next := k2.1
  have g2 : h2.get (h1.next + 1) = some (.cells (B bS) 0 false) := by rw [k2.2 _ (by simp (maxSteps := 2000000) (implicitDefEqProofs := false) (disch := first | omega | (simp only [SD.down, uA, uL] <;> omega) | fail) only [TA.down, resE, oneV, ↓reduceIte, reduceCtorEq, uB, uE, uL, uA, uM, uS, uN, uX, uO, vR, vD, vL, vK, vE, vA, vM, vT]; omega)]; simp (maxSteps := 2000000) (implicitDefEqProofs := false) (disch := first | omega | (simp only [SD.down, uA, uL] <;> omega) | fail) only [TA.down, resE, oneV, ↓reduceIte, reduceCtorEq, uB, uE, uL, uA, uM, uS, uN, uX, uO, vR, vD, vL, vK, vE, vA, vM, vT]
  simp (maxSteps := 2000000) (implicitDefEqProofs := false) (disch := first | omega | (simp only [SD.down, uA, uL] <;> omega) | fail) only [Z32, Z16, z32_len, z16_len, b23, TA.down, resE, oneV, ↓reduceIte, reduceCtorEq, uB, uE, uL, uA, uM, uS, uN, uX, uO, vR, vD, vL, vK, vE, vA, vM, vT]
  refine G.call (new_is (d + 2) _ z32 z32_len) ?_
  rintro v h3 ⟨c0, rfl, hc0, i3, k3⟩
  simp (maxSteps := 2000000) (implicitDefEqProofs := false) (disch := first | omega | (simp only [SD.down, uA, uL] <;> omega) | fail) only [Z32, Z16, z32_len, z16_len, b24, TA.down, resE, oneV, ↓reduceIte, reduceCtorEq, uB, uE, uL, uA, uM, uS, uN, uX, uO, vR, vD, vL, vK, vE, vA, vM, vT]
  refine G.call (seal_is (d + 2) _ c0 _ z16 z16_len i3) ?_
  rintro v h4 ⟨rfl, k4⟩
  have k24 := k3.trans k4
  have g4 : h4.get (h1.next + 1) = some (.cells (B bS) 0 false) := by rw [k24.2 _ (by omega)]; exact g2
  have i4 := i2.keep k24
  have hn4 := k24.1
  have hsl := sealK_len (keysL S0 z32) z16
  simp (maxSteps := 2000000) (implicitDefEqProofs := false) (disch := first | omega | (simp only [SD.down, uA, uL] <;> omega) | fail) only [Z32, Z16, z32_len, z16_len, b45, over_B, hsl, TA.down, resE, oneV, ↓reduceIte, reduceCtorEq, uB, uE, uL, uA, uM, uS, uN, uX, uO, vR, vD, vL, vK, vE, vA, vM, vT]
  have hE : ((List.replicate 752 (b8 0) ++ [AV.bool false] ++ [AV.int IntKind.u32 0] ++ [AV.int IntKind.i32 0] ++ [AV.int IntKind.u32 0])) = emptyC := rfl
  rw [hE]
  refine G.callC (awake_ok (d + 1) _) ?_
  rintro v h5 ⟨rfl, k5⟩
  have hn5 := k5.1
  have g5 : h5.get (h1.next + 1) = some (.cells (B bS) 0 false) := by rw [k5.2 _ (by simp (maxSteps := 2000000) (implicitDefEqProofs := false) (disch := first | omega | (simp only [SD.down, uA, uL] <;> omega) | fail) only [TA.down, resE, oneV, ↓reduceIte, reduceCtorEq, uB, uE, uL, uA, uM, uS, uN, uX, uO, vR, vD, vL, vK, vE, vA, vM, vT]; omega)]; simp (maxSteps := 2000000) (implicitDefEqProofs := false) (disch := first | omega | (simp only [SD.down, uA, uL] <;> omega) | fail) only [g4, TA.down, resE, oneV, ↓reduceIte, reduceCtorEq, uB, uE, uL, uA, uM, uS, uN, uX, uO, vR, vD, vL, vK, vE, vA, vM, vT]
  have i5 : Is h5 c (keysL S0 kS) := i4.keep (Keeps.trans ⟨by simp (maxSteps := 2000000) (implicitDefEqProofs := false) (disch := first | omega | (simp only [SD.down, uA, uL] <;> omega) | fail) only [TA.down, resE, oneV, ↓reduceIte, reduceCtorEq, uB, uE, uL, uA, uM, uS, uN, uX, uO, vR, vD, vL, vK, vE, vA, vM, vT]; omega, fun j hj => by simp (maxSteps := 2000000) (implicitDefEqProofs := false) (disch := first | omega | (simp only [SD.down, uA, uL] <;> omega) | fail) only [TA.down, resE, oneV, ↓reduceIte, reduceCtorEq, uB, uE, uL, uA, uM, uS, uN, uX, uO, vR, vD, vL, vK, vE, vA, vM, vT]⟩ k5)
  have z5 : h5.get h4.next = some (.cells (B (sealK (keysL S0 z32) z16)) 0 false) := by rw [k5.2 _ (by simp (maxSteps := 2000000) (implicitDefEqProofs := false) (disch := first | omega | (simp only [SD.down, uA, uL] <;> omega) | fail) only [TA.down, resE, oneV, ↓reduceIte, reduceCtorEq, uB, uE, uL, uA, uM, uS, uN, uX, uO, vR, vD, vL, vK, vE, vA, vM, vT]; omega)]; simp (maxSteps := 2000000) (implicitDefEqProofs := false) (disch := first | omega | (simp only [SD.down, uA, uL] <;> omega) | fail) only [TA.down, resE, oneV, ↓reduceIte, reduceCtorEq, uB, uE, uL, uA, uM, uS, uN, uX, uO, vR, vD, vL, vK, vE, vA, vM, vT]
  have e5 : h5.get (h4.next + 1) = some (.cells emptyC 0 false) := by rw [k5.2 _ (by simp (maxSteps := 2000000) (implicitDefEqProofs := false) (disch := first | omega | (simp only [SD.down, uA, uL] <;> omega) | fail) only [TA.down, resE, oneV, ↓reduceIte, reduceCtorEq, uB, uE, uL, uA, uM, uS, uN, uX, uO, vR, vD, vL, vK, vE, vA, vM, vT]; omega)]; simp (maxSteps := 2000000) (implicitDefEqProofs := false) (disch := first | omega | (simp only [SD.down, uA, uL] <;> omega) | fail) only [TA.down, resE, oneV, ↓reduceIte, reduceCtorEq, uB, uE, uL, uA, uM, uS, uN, uX, uO, vR, vD, vL, vK, vE, vA, vM, vT]
  simp only [next_new, next_put] at hn5
  have g4' : ((((h4.new (Blk.cells (B z16) 0 false)).put h4.next (some (Blk.cells (B (sealK (keysL S0 z32) z16)) 0 false))).new (Blk.cells emptyC 0 false))).get (h1.next + 1) = some (.cells (B bS) 0 false) := by simp (maxSteps := 2000000) (implicitDefEqProofs := false) (disch := first | omega | (simp only [SD.down, uA, uL] <;> omega) | fail) only [g4, TA.down, resE, oneV, ↓reduceIte, reduceCtorEq, uB, uE, uL, uA, uM, uS, uN, uX, uO, vR, vD, vL, vK, vE, vA, vM, vT]
  clear hc0
  simp (maxSteps := 2000000) (implicitDefEqProofs := false) (disch := first | omega | (simp only [SD.down, uA, uL] <;> omega) | fail) only [cutB_all, g5, TA.down, resE, oneV, ↓reduceIte, reduceCtorEq, uB, uE, uL, uA, uM, uS, uN, uX, uO, vR, vD, vL, vK, vE, vA, vM, vT]
  refine G.callC (seal_is (d + 2) _ c _ bS bS_len i5) ?_
  rintro v h6 ⟨rfl, k6⟩
  have hn6 := k6.1
  have g6 : h6.get (h1.next + 1) = some (.cells (B bS) 0 false) := by rw [k6.2 _ (by omega)]; exact g5
  simp (maxSteps := 2000000) (implicitDefEqProofs := false) (disch := first | omega | (simp only [SD.down, uA, uL] <;> omega) | fail) only [cutB_all, g6, TA.down, resE, oneV, ↓reduceIte, reduceCtorEq, uB, uE, uL, uA, uM, uS, uN, uX, uO, vR, vD, vL, vK, vE, vA, vM, vT]
  refine G.callC (open_is (d + 1) _ c _ _ (sealK_len ..) (i5.keep k6)) ?_
  rintro v h7 ⟨rfl, i7, k7⟩
  have hn7 := k7.1
  have hcl := i2.2.1
  have g7 : h7.get (h1.next + 1) = some (.cells (B bS) 0 false) := by rw [k7.2 _ (by omega) (by simp (maxSteps := 2000000) (implicitDefEqProofs := false) (disch := first | omega | (simp only [SD.down, uA, uL] <;> omega) | fail) only [TA.down, resE, oneV, ↓reduceIte, reduceCtorEq, uB, uE, uL, uA, uM, uS, uN, uX, uO, vR, vD, vL, vK, vE, vA, vM, vT] at hc; omega)]; exact g6
  have z7 : h7.get h4.next = some (.cells (B (sealK (keysL S0 z32) z16)) 0 false) := by rw [k7.2 _ (by omega) (by omega), k6.2 _ (by omega)]; exact z5
  have e7 : h7.get (h4.next + 1) = some (.cells emptyC 0 false) := by rw [k7.2 _ (by omega) (by omega), k6.2 _ (by omega)]; exact e5
  simp (maxSteps := 2000000) (implicitDefEqProofs := false) (disch := first | omega | (simp only [SD.down, uA, uL] <;> omega) | fail) only [cutB_all, g7, TA.down, resE, oneV, ↓reduceIte, reduceCtorEq, uB, uE, uL, uA, uM, uS, uN, uX, uO, vR, vD, vL, vK, vE, vA, vM, vT]
  rw [bin_eql_agg, eq24 _ _ (openK_len ..) bS_len, known1]
  simp (maxSteps := 2000000) (implicitDefEqProofs := false) (disch := first | omega | (simp only [SD.down, uA, uL] <;> omega) | fail) only [cutB_all, z7, hsl, rep16, TA.down, resE, oneV, ↓reduceIte, reduceCtorEq, uB, uE, uL, uA, uM, uS, uN, uX, uO, vR, vD, vL, vK, vE, vA, vM, vT]
  rw [bin_eql_agg, eq24 _ _ (sealK_len ..) rfl, show M (sealK (keysL S0 z32) z16) = M [220, 149, 192, 120, 162, 64, 137, 137, 173, 72, 162, 20, 146, 132, 32, 135] from known2]
  simp (maxSteps := 2000000) (implicitDefEqProofs := false) (disch := first | omega | (simp only [SD.down, uA, uL] <;> omega) | fail) only [cutB_all, g7, TA.down, resE, oneV, ↓reduceIte, reduceCtorEq, uB, uE, uL, uA, uM, uS, uN, uX, uO, vR, vD, vL, vK, vE, vA, vM, vT]
  refine G.callC (seal_nil (d + 2) _ bS) ?_
  rintro v h8 ⟨rfl, k8⟩
  have hn8 := k8.1
  have g8 : h8.get (h1.next + 1) = some (.cells (B bS) 0 false) := by rw [k8.2 _ (by omega)]; exact g7
  have e8 : h8.get (h4.next + 1) = some (.cells emptyC 0 false) := by rw [k8.2 _ (by omega)]; exact e7
  simp (maxSteps := 2000000) (implicitDefEqProofs := false) (disch := first | omega | (simp only [SD.down, uA, uL] <;> omega) | fail) only [cutB_all, b24, Z16, TA.down, resE, oneV, ↓reduceIte, reduceCtorEq, uB, uE, uL, uA, uM, uS, uN, uX, uO, vR, vD, vL, vK, vE, vA, vM, vT]
  rw [bin_eql_agg, eq24 _ _ z16_len z16_len]
  simp (maxSteps := 2000000) (implicitDefEqProofs := false) (disch := first | omega | (simp only [SD.down, uA, uL] <;> omega) | fail) only [cutB_all, g8, g7, g6, g5, g4', same_B, TA.down, resE, oneV, ↓reduceIte, reduceCtorEq, uB, uE, uL, uA, uM, uS, uN, uX, uO, vR, vD, vL, vK, vE, vA, vM, vT]
  refine G.callC (open_nil (d + 2) _ bS) ?_
  rintro v h9 ⟨rfl, k9⟩
  have hn9 := k9.1
  have g9 : h9.get (h1.next + 1) = some (.cells (B bS) 0 false) := by rw [k9.2 _ (by omega)]; exact g8
  have e9 : h9.get (h4.next + 1) = some (.cells emptyC 0 false) := by rw [k9.2 _ (by omega)]; exact e8
  simp (maxSteps := 2000000) (implicitDefEqProofs := false) (disch := first | omega | (simp only [SD.down, uA, uL] <;> omega) | fail) only [cutB_all, b24, Z16, TA.down, resE, oneV, ↓reduceIte, reduceCtorEq, uB, uE, uL, uA, uM, uS, uN, uX, uO, vR, vD, vL, vK, vE, vA, vM, vT]
  rw [bin_eql_agg, eq24 _ _ z16_len z16_len]
  simp (maxSteps := 2000000) (implicitDefEqProofs := false) (disch := first | omega | (simp only [SD.down, uA, uL] <;> omega) | fail) only [cutB_all, g9, g7, g6, g5, g4', same_B, TA.down, resE, oneV, ↓reduceIte, reduceCtorEq, uB, uE, uL, uA, uM, uS, uN, uX, uO, vR, vD, vL, vK, vE, vA, vM, vT]
  refine G.callC (seal_empty (d + 2) _ _ (by omega) e9 bS) ?_
  rintro v h10 ⟨rfl, k10⟩
  have hn10 := k10.1
  have g10 : h10.get (h1.next + 1) = some (.cells (B bS) 0 false) := by rw [k10.2 _ (by omega)]; exact g9
  have e10 : h10.get (h4.next + 1) = some (.cells emptyC 0 false) := by rw [k10.2 _ (by omega)]; exact e9
  simp (maxSteps := 2000000) (implicitDefEqProofs := false) (disch := first | omega | (simp only [SD.down, uA, uL] <;> omega) | fail) only [cutB_all, b24, Z16, TA.down, resE, oneV, ↓reduceIte, reduceCtorEq, uB, uE, uL, uA, uM, uS, uN, uX, uO, vR, vD, vL, vK, vE, vA, vM, vT]
  rw [bin_eql_agg, eq24 _ _ z16_len z16_len]
  simp (maxSteps := 2000000) (implicitDefEqProofs := false) (disch := first | omega | (simp only [SD.down, uA, uL] <;> omega) | fail) only [cutB_all, g10, g7, g6, g5, g4', same_B, TA.down, resE, oneV, ↓reduceIte, reduceCtorEq, uB, uE, uL, uA, uM, uS, uN, uX, uO, vR, vD, vL, vK, vE, vA, vM, vT]
  refine G.callC (open_empty (d + 2) _ _ (by omega) e10 bS) ?_
  rintro v h11 ⟨rfl, k11⟩
  have hn11 := k11.1
  have g11 : h11.get (h1.next + 1) = some (.cells (B bS) 0 false) := by rw [k11.2 _ (by omega)]; exact g10
  have e11 : h11.get (h4.next + 1) = some (.cells emptyC 0 false) := by rw [k11.2 _ (by omega)]; exact e10
  simp (maxSteps := 2000000) (implicitDefEqProofs := false) (disch := first | omega | (simp only [SD.down, uA, uL] <;> omega) | fail) only [cutB_all, b24, Z16, TA.down, resE, oneV, ↓reduceIte, reduceCtorEq, uB, uE, uL, uA, uM, uS, uN, uX, uO, vR, vD, vL, vK, vE, vA, vM, vT]
  rw [bin_eql_agg, eq24 _ _ z16_len z16_len]
  simp (maxSteps := 2000000) (implicitDefEqProofs := false) (disch := first | omega | (simp only [SD.down, uA, uL] <;> omega) | fail) only [cutB_all, g11, g7, g6, g5, g4', same_B, TA.down, resE, oneV, ↓reduceIte, reduceCtorEq, uB, uE, uL, uA, uM, uS, uN, uX, uO, vR, vD, vL, vK, vE, vA, vM, vT]
  subst hX
  exact G.ok rfl
end Go.Proofs.Ythcbefolifpbpaa
