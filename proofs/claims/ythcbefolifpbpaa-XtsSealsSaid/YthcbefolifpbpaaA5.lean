/- Of this program, for all inputs: contracts. No condition but those in the theorems. -/
import Derived.Test.YthcbefolifpbpaaA4
namespace Go.Proofs.Ythcbefolifpbpaa
open Go Go.Ai Go.Aw Go.Proofs
open Nat renaming reduceBEq → uB, reduceEqDiff → uE, reduceLT → uL, reduceAdd → uA, reduceMul → uM, reduceSub → uS, reduceAnd → uN, reduceXor → uX, reduceOr → uO
open Int renaming reduceMod → vR, reduceDiv → vD, reduceLT → vL, reduceLE → vK, reduceEq → vE, reduceAdd → vA, reduceMul → vM, reduceToNat → vT
set_option linter.unusedSimpArgs false
set_option linter.unusedVariables false
set_option maxRecDepth 10000
def boxN : Nat → Nat → Nat → List Nat → List Nat
  | 0, _, _, l => l.set 0 99
  | n + 1, a, b, l => boxN n (gA a) (gB b) (l.set (gA a % 256) (aff (gB b)))
theorem boxN_len : ∀ n a b l, (boxN n a b l).length = l.length
  | 0, _, _, l => by simp [boxN]
  | n + 1, a, b, l => by rw [boxN, boxN_len n]; simp
theorem boxC_B : ∀ (n a b : Nat) (l : List Nat) (r : List AV), l.length = 256 → boxC n a b (B l ++ r) = B (boxN n a b l) ++ r
  | 0, a, b, l, r, hl => by
    rw [boxC, boxN, List.set_append_left _ _ (by rw [B_len]; omega), B_set]
  | n + 1, a, b, l, r, hl => by
    rw [boxC, boxN, List.set_append_left _ _ (by rw [B_len]; omega), B_set]
    exact boxC_B n _ _ _ r (by simpa using hl)
/-- the box -/
def S0 : List Nat := boxN 255 1 1 (List.replicate 256 0)
theorem S0_len : S0.length = 256 := by simp [S0, boxN_len]
def tailC (o : Nat) : List AV := [.bool true, .int .u32 o, .int .i32 0, .int .u32 0]
/-- a cipher's cells -/
def ciphC (O K : List Nat) (o : Nat) : List AV := B S0 ++ (B O ++ (B K ++ tailC o))
theorem wN_len (S wl : List Nat) (p n : Nat) : (wN S wl p n).length = wl.length := by simp [wN]
theorem wB_len (S : List Nat) : ∀ j n p wl, (wB S j n p wl).length = wl.length
  | 0, _, _, _ => rfl
  | j + 1, n, p, wl => by rw [wB, wB_len S j, wN_len]
theorem keysL_len (S kl : List Nat) : (keysL S kl).length = 240 := by rw [keysL, wB_len, wA_len kl 8 (by omega)]
set_option maxHeartbeats 4000000 in
theorem new_ok (d : Nat) (h : Heap) (kl : List Nat) (hkl : kl.length = 32) :
    G (callD env (d + 3) 12 [.agg (B kl)] h) fun v h' => v = .ptr (h.next + 1) 0 ∧ h'.get (h.next + 1) = some (.cells (ciphC (List.replicate 256 0) (keysL S0 kl) 0) 0 false) ∧ h.next + 2 ≤ h'.next ∧ ∀ j, j < h.next → h'.get j = h.get j := by
  generalize hX : (fun (v : AV) (h' : Heap) => v = .ptr (h.next + 1) 0 ∧ h'.get (h.next + 1) = some (.cells (ciphC (List.replicate 256 0) (keysL S0 kl) 0) 0 false) ∧ h.next + 2 ≤ h'.next ∧ ∀ j, j < h.next → h'.get j = h.get j) = Q
  rw [callD_run (E := env) [] (by kernel_rfl) Try.func12 rfl (by rw [Try.ntmps12]; simp) (by kernel_rfl)]; simp (maxSteps := 2000000) (implicitDefEqProofs := false) (disch := first | omega | (simp only [SD.down, uA, uL] <;> omega) | fail) only [Try.ntmps12, Try.results12, env_P, env_L, bu45, TA.down, resE, oneV, ↓reduceIte, reduceCtorEq, uB, uE, uL, uA, uM, uS, uN, uX, uO, vR, vD, vL, vK, vE, vA, vM, vT]
  have hc0 : ((List.replicate 752 (b8 0) ++ [AV.bool false] ++ [AV.int IntKind.u32 0] ++ [AV.int IntKind.i32 0] ++ [AV.int IntKind.u32 0]).set 752 (AV.bool true)) = B (List.replicate 256 0) ++ (B (List.replicate 256 0) ++ (B (List.replicate 240 0) ++ tailC 0)) := by kernel_rfl
  rw [hc0]
  refine G.call (boxes_ok d _ (h.next + 1) (B (List.replicate 256 0) ++ (B (List.replicate 256 0) ++ (B (List.replicate 240 0) ++ tailC 0))) (by simp [B_len, tailC]) 0 (by simp (maxSteps := 2000000) (implicitDefEqProofs := false) (disch := first | omega | (simp only [SD.down, uA, uL] <;> omega) | fail) only [TA.down, resE, oneV, ↓reduceIte, reduceCtorEq, uB, uE, uL, uA, uM, uS, uN, uX, uO, vR, vD, vL, vK, vE, vA, vM, vT])) ?_
  rintro v h1 ⟨rfl, rfl⟩
  rw [boxC_B 255 1 1 (List.replicate 256 0) _ (by simp)]
  show G (runB _ _ _ _ _ _ (some (_, Heap.put _ _ (some (.cells (B S0 ++ _) _ _))))) Q
  simp (maxSteps := 2000000) (implicitDefEqProofs := false) (disch := first | omega | (simp only [SD.down, uA, uL] <;> omega) | fail) only [cutE_B, List.take_of_length_le, List.drop_zero, TA.down, resE, oneV, ↓reduceIte, reduceCtorEq, uB, uE, uL, uA, uM, uS, uN, uX, uO, vR, vD, vL, vK, vE, vA, vM, vT]
  refine G.call (expand_ok d _ (h.next + 1) (by simp (maxSteps := 2000000) (implicitDefEqProofs := false) (disch := first | omega | (simp only [SD.down, uA, uL] <;> omega) | fail) only [TA.down, resE, oneV, ↓reduceIte, reduceCtorEq, uB, uE, uL, uA, uM, uS, uN, uX, uO, vR, vD, vL, vK, vE, vA, vM, vT]; omega) S0 (B S0 ++ (B (List.replicate 256 0) ++ (B (List.replicate 240 0) ++ tailC 0))) (by simp [B_len, S0_len, tailC]) 0 (by simp (maxSteps := 2000000) (implicitDefEqProofs := false) (disch := first | omega | (simp only [SD.down, uA, uL] <;> omega) | fail) only [TA.down, resE, oneV, ↓reduceIte, reduceCtorEq, uB, uE, uL, uA, uM, uS, uN, uX, uO, vR, vD, vL, vK, vE, vA, vM, vT]) ?_ kl hkl) ?_
  · intro j hj
    rw [List.getElem?_append_left (by rw [B_len, S0_len]; exact hj), B_get (by rw [S0_len]; exact hj)]
  rintro v h2 ⟨rfl, ⟨cs', hc, hcl, hlo, hhi, hmid⟩, hn, hf⟩
  have hn : h.next + 2 ≤ h2.next := by
    simp only [next_put, next_new] at hn
    omega
  have hce : cs' = ciphC (List.replicate 256 0) (keysL S0 kl) 0 := by
    apply List.ext_getElem?
    intro j
    unfold ciphC
    simp only [List.getElem?_append, B_len, S0_len, List.length_replicate, keysL_len] at hlo hhi ⊢
    by_cases h0 : j < 256
    · rw [hlo j (by omega), if_pos h0, if_pos h0]
    · by_cases h1 : j < 512
      · rw [hlo j h1, if_neg h0, if_neg h0, if_pos (by omega), if_pos (by omega)]
      · by_cases h2 : j < 752
        · rw [hmid j (by omega) h2, if_neg h0, if_neg (by omega), if_pos (by omega), B_get (by rw [keysL_len]; omega)]
          congr 3
        · rw [hhi j (by omega), if_neg h0, if_neg h0, if_neg (by omega), if_neg (by omega), if_neg (by omega), if_neg (by omega)]
  subst hce
  simp (maxSteps := 2000000) (implicitDefEqProofs := false) (disch := first | omega | (simp only [SD.down, uA, uL] <;> omega) | fail) only [TA.down, resE, oneV, ↓reduceIte, reduceCtorEq, uB, uE, uL, uA, uM, uS, uN, uX, uO, vR, vD, vL, vK, vE, vA, vM, vT]
  subst hX
  refine G.ok ⟨rfl, hc, hn, fun j hj => ?_⟩
  rw [hf j (by simp (maxSteps := 2000000) (implicitDefEqProofs := false) (disch := first | omega | (simp only [SD.down, uA, uL] <;> omega) | fail) only [TA.down, resE, oneV, ↓reduceIte, reduceCtorEq, uB, uE, uL, uA, uM, uS, uN, uX, uO, vR, vD, vL, vK, vE, vA, vM, vT]; omega) (by omega)]
  simp (maxSteps := 2000000) (implicitDefEqProofs := false) (disch := first | omega | (simp only [SD.down, uA, uL] <;> omega) | fail) only [TA.down, resE, oneV, ↓reduceIte, reduceCtorEq, uB, uE, uL, uA, uM, uS, uN, uX, uO, vR, vD, vL, vK, vE, vA, vM, vT]
end Go.Proofs.Ythcbefolifpbpaa
