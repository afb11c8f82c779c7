/- Of this program, for all inputs: contracts. No condition but those in the theorems. -/
import Derived.Test.YthcbefolifpbpaaA3
namespace Go.Proofs.Ythcbefolifpbpaa
open Go Go.Ai Go.Aw Go.Proofs
open Nat renaming reduceBEq → uB, reduceEqDiff → uE, reduceLT → uL, reduceAdd → uA, reduceMul → uM, reduceSub → uS, reduceAnd → uN, reduceXor → uX, reduceOr → uO
open Int renaming reduceMod → vR, reduceDiv → vD, reduceLT → vL, reduceLE → vK, reduceEq → vE, reduceAdd → vA, reduceMul → vM, reduceToNat → vT
set_option linter.unusedSimpArgs false
set_option linter.unusedVariables false
set_option maxRecDepth 10000
/-- the words: the key's -/
def wA (kl : List Nat) : Nat → List Nat
  | 0 => List.replicate 240 0
  | n + 1 => (wA kl n).take (n * 4) ++ [kl.getD (4 * n) 0, kl.getD (4 * n + 1) 0, kl.getD (4 * n + 2) 0, kl.getD (4 * n + 3) 0] ++ (wA kl n).drop (n * 4 + 4)
theorem wA_len (kl : List Nat) : ∀ n, n ≤ 60 → (wA kl n).length = 240
  | 0, _ => by simp [wA]
  | n + 1, h => by simp [wA, wA_len kl n (by omega)]; omega
/-- four bytes of the n-th word -/
def t4 (S wl : List Nat) (p n : Nat) : List Nat :=
  let o := (n - 1) * 4
  if n % 8 = 0 then [S.getD (wl.getD (o + 1) 0 % 256) 0 ^^^ p, S.getD (wl.getD (o + 2) 0 % 256) 0, S.getD (wl.getD (o + 3) 0 % 256) 0, S.getD (wl.getD o 0 % 256) 0]
  else if n % 8 = 4 then [S.getD (wl.getD o 0 % 256) 0, S.getD (wl.getD (o + 1) 0 % 256) 0, S.getD (wl.getD (o + 2) 0 % 256) 0, S.getD (wl.getD (o + 3) 0 % 256) 0]
  else [wl.getD o 0, wl.getD (o + 1) 0, wl.getD (o + 2) 0, wl.getD (o + 3) 0]
def wN (S wl : List Nat) (p n : Nat) : List Nat :=
  (((wl.set (n * 4) (wl.getD ((n - 8) * 4) 0 ^^^ (t4 S wl p n).getD 0 0)).set (n * 4 + 1) (wl.getD ((n - 8) * 4 + 1) 0 ^^^ (t4 S wl p n).getD 1 0)).set (n * 4 + 2) (wl.getD ((n - 8) * 4 + 2) 0 ^^^ (t4 S wl p n).getD 2 0)).set (n * 4 + 3) (wl.getD ((n - 8) * 4 + 3) 0 ^^^ (t4 S wl p n).getD 3 0)
def wB (S : List Nat) : Nat → Nat → Nat → List Nat → List Nat
  | 0, _, _, wl => wl
  | j + 1, n, p, wl => wB S j (n + 1) (if n % 8 = 0 then dbl p else p) (wN S wl p n)
def keysL (S kl : List Nat) : List Nat := wB S 52 8 1 (wA kl 8)
set_option maxHeartbeats 8000000 in
theorem expand_ok (d : Nat) (h : Heap) (k : Nat) (hkn : k < h.next) (S : List Nat) (cs : List AV) (hl : cs.length = 756) (e : Nat) (hk : h.get k = some (.cells cs e false)) (hbox : ∀ j, j < 256 → cs[j]? = some (b8 (S.getD j 0))) (kl : List Nat) (hkl : kl.length = 32) :
    G (callD env (d + 2) 25 [.ptr k 0, .agg (B kl)] h) fun v h' => v = .tup [] ∧ (∃ cs', h'.get k = some (.cells cs' e false) ∧ cs'.length = 756 ∧ (∀ j, j < 512 → cs'[j]? = cs[j]?) ∧ (∀ j, 752 ≤ j → cs'[j]? = cs[j]?) ∧ (∀ j, 512 ≤ j → j < 752 → cs'[j]? = some (b8 ((keysL S kl).getD (j - 512) 0)))) ∧ h.next ≤ h'.next ∧ ∀ j, j < h.next → j ≠ k → h'.get j = h.get j := by
  generalize hX : (fun (v : AV) (h' : Heap) => v = .tup [] ∧ (∃ cs', h'.get k = some (.cells cs' e false) ∧ cs'.length = 756 ∧ (∀ j, j < 512 → cs'[j]? = cs[j]?) ∧ (∀ j, 752 ≤ j → cs'[j]? = cs[j]?) ∧ (∀ j, 512 ≤ j → j < 752 → cs'[j]? = some (b8 ((keysL S kl).getD (j - 512) 0)))) ∧ h.next ≤ h'.next ∧ ∀ j, j < h.next → j ≠ k → h'.get j = h.get j) = Q
  rw [callD_run (E := env) [] (by kernel_rfl) Try.func25 rfl (by rw [Try.ntmps25]; simp) (by kernel_rfl)]; simp (maxSteps := 2000000) (implicitDefEqProofs := false) (disch := first | omega | (simp only [SD.down, uA, uL] <;> omega) | fail) only [Try.ntmps25, Try.results25, env_P, env_L, hk, TA.down, resE, oneV, ↓reduceIte, reduceCtorEq, uB, uE, uL, uA, uM, uS, uN, uX, uO, vR, vD, vL, vK, vE, vA, vM, vT]
  rw [run_loop]
  refine loop_ind (fun j σ hh => ∃ n, n + j = 8 ∧ σ 0 = .ptr k 0 ∧ σ 3 = .ptr h.next 0 ∧ σ 4 = .ptr (h.next + 1) 0 ∧ σ 12 = .int .i64 ((n : Nat) : Int) ∧ hh.get h.next = some (.cells (B kl) 0 false) ∧ hh.get (h.next + 1) = some (.cells (B (wA kl n)) 0 false) ∧ h.next + 2 ≤ hh.next ∧ ∀ j, j < h.next → hh.get j = h.get j) ?_ ?_ 8 _ _ _ (by simp) ?_
  · rintro m σ hh ⟨n, hn, h0, h3, h4, h12, hb, hw, hnx, hf⟩
    obtain rfl : n = 8 := by omega
    have hk2 := (hf k hkn).trans hk
    simp (maxSteps := 2000000) (implicitDefEqProofs := false) (disch := first | omega | (simp only [SD.down, uA, uL] <;> omega) | fail) only [run_it, h0, h3, h4, h12, env_P, TA.down, resE, oneV, ↓reduceIte, reduceCtorEq, uB, uE, uL, uA, uM, uS, uN, uX, uO, vR, vD, vL, vK, vE, vA, vM, vT]
    rw [run_loop]
    refine loop_ind (fun j σ hh => ∃ n p wl, n + j = 60 ∧ 8 ≤ n ∧ σ 0 = .ptr k 0 ∧ σ 4 = .ptr (h.next + 1) 0 ∧ σ 6 = b8 p ∧ σ 7 = .int .i64 ((n : Nat) : Int) ∧ hh.get (h.next + 1) = some (.cells (B wl) 0 false) ∧ wl.length = 240 ∧ wB S j n p wl = keysL S kl ∧ h.next + 2 ≤ hh.next ∧ ∀ j, j < h.next → hh.get j = h.get j) ?_ ?_ 52 _ _ _ (by simp) ?_
    · rintro m σ hh ⟨n, p, wl, hn, hn8, h0, h4, h6, h7, hw, hwl, hs, hnx, hf⟩
      obtain rfl : n = 60 := by omega
      have hk2 := (hf k hkn).trans hk
      simp (maxSteps := 2000000) (implicitDefEqProofs := false) (disch := first | omega | (simp only [SD.down, uA, uL] <;> omega) | fail) only [run_it, h0, h4, h6, h7, hw, env_P, cutE_B, List.take_of_length_le, List.drop_zero, TA.down, resE, oneV, ↓reduceIte, reduceCtorEq, uB, uE, uL, uA, uM, uS, uN, uX, uO, vR, vD, vL, vK, vE, vA, vM, vT]
      rw [run_loop]
      have hwk : wl = keysL S kl := hs
      refine loop_ind (fun j σ hh => ∃ n cs', n + j = 60 ∧ σ 0 = .ptr k 0 ∧ σ 117 = .agg (B wl) ∧ σ 118 = .int .i64 ((n : Nat) : Int) ∧ hh.get k = some (.cells cs' e false) ∧ cs'.length = 756 ∧ (∀ j, j < 512 → cs'[j]? = cs[j]?) ∧ (∀ j, 752 ≤ j → cs'[j]? = cs[j]?) ∧ (∀ j, 512 ≤ j → j < 512 + n * 4 → cs'[j]? = some (b8 (wl.getD (j - 512) 0))) ∧ h.next + 2 ≤ hh.next ∧ ∀ j, j < h.next → j ≠ k → hh.get j = h.get j) ?_ ?_ 60 _ _ _ (by simp) ?_
      · rintro m σ hh ⟨n, cs', hn, h0, h117, h118, hc, hcl, hlo, hhi, hmid, hnx, hf⟩
        obtain rfl : n = 60 := by omega
        simp (maxSteps := 2000000) (implicitDefEqProofs := false) (disch := first | omega | (simp only [SD.down, uA, uL] <;> omega) | fail) only [run_it, h0, h117, h118, env_P, TA.down, resE, oneV, ↓reduceIte, reduceCtorEq, uB, uE, uL, uA, uM, uS, uN, uX, uO, vR, vD, vL, vK, vE, vA, vM, vT]
        subst hX
        exact G.ok ⟨rfl, ⟨cs', hc, hcl, hlo, hhi, by rw [← hwk]; exact hmid⟩, by omega, hf⟩
      · rintro j m σ hh ⟨n, cs', hn, h0, h117, h118, hc, hcl, hlo, hhi, hmid, hnx, hf⟩ ih
        simp (maxSteps := 2000000) (implicitDefEqProofs := false) (disch := first | omega | (simp only [SD.down, uA, uL] <;> omega) | fail) only [run_it, h0, h117, h118, hc, env_P, List.replicate_succ, List.replicate_zero, ovN_of, TA.down, resE, oneV, ↓reduceIte, reduceCtorEq, uB, uE, uL, uA, uM, uS, uN, uX, uO, vR, vD, vL, vK, vE, vA, vM, vT]
        have hoff : 512 + n / 4 * 16 + n % 4 * 4 = 512 + n * 4 := by omega
        have hL := lay_at (512 + n * 4) [b8 (wl.getD (n * 4) 0), b8 (wl.getD (n * 4 + 1) 0), b8 (wl.getD (n * 4 + 2) 0), b8 (wl.getD (n * 4 + 3) 0)] cs' (by simp only [List.length_cons, List.length_nil]; omega)
        have hL2 := lay_len (512 + n * 4) [b8 (wl.getD (n * 4) 0), b8 (wl.getD (n * 4 + 1) 0), b8 (wl.getD (n * 4 + 2) 0), b8 (wl.getD (n * 4 + 3) 0)] cs' (by simp only [List.length_cons, List.length_nil]; omega)
        simp only [List.length_cons, List.length_nil, Nat.zero_add, Nat.reduceAdd] at hL hL2
        rw [hoff]
        generalize hcs : List.take (512 + n * 4) cs' ++ [b8 (wl.getD (n * 4) 0), b8 (wl.getD (n * 4 + 1) 0), b8 (wl.getD (n * 4 + 2) 0), b8 (wl.getD (n * 4 + 3) 0)] ++ List.drop (512 + n * 4 + 4) cs' = cs2 at hL hL2 ⊢
        refine ih _ _ ⟨n + 1, cs2, by omega, ?_, ?_, ?_, ?_, by rw [hL2, hcl], fun j hj => ?_, fun j hj => ?_, fun j hj1 hj2 => ?_, ?_, fun j hj hjk => ?_⟩
        · simp (maxSteps := 2000000) (implicitDefEqProofs := false) (disch := first | omega | (simp only [SD.down, uA, uL] <;> omega) | fail) only [h0, TA.down, resE, oneV, ↓reduceIte, reduceCtorEq, uB, uE, uL, uA, uM, uS, uN, uX, uO, vR, vD, vL, vK, vE, vA, vM, vT]
        · simp (maxSteps := 2000000) (implicitDefEqProofs := false) (disch := first | omega | (simp only [SD.down, uA, uL] <;> omega) | fail) only [h117, TA.down, resE, oneV, ↓reduceIte, reduceCtorEq, uB, uE, uL, uA, uM, uS, uN, uX, uO, vR, vD, vL, vK, vE, vA, vM, vT]
        · simp (maxSteps := 2000000) (implicitDefEqProofs := false) (disch := first | omega | (simp only [SD.down, uA, uL] <;> omega) | fail) only [TA.down, resE, oneV, ↓reduceIte, reduceCtorEq, uB, uE, uL, uA, uM, uS, uN, uX, uO, vR, vD, vL, vK, vE, vA, vM, vT]
        · simp (maxSteps := 2000000) (implicitDefEqProofs := false) (disch := first | omega | (simp only [SD.down, uA, uL] <;> omega) | fail) only [TA.down, resE, oneV, ↓reduceIte, reduceCtorEq, uB, uE, uL, uA, uM, uS, uN, uX, uO, vR, vD, vL, vK, vE, vA, vM, vT]
        · rw [hL, if_neg (by omega), hlo j hj]
        · rw [hL, if_neg (by omega), hhi j hj]
        · rw [hL]
          by_cases hc4 : 512 + n * 4 ≤ j
          · rw [if_pos (by omega)]
            obtain ⟨q, hq, rfl⟩ : ∃ q, q < 4 ∧ j = 512 + n * 4 + q := ⟨j - (512 + n * 4), by omega, by omega⟩
            rw [Nat.add_sub_cancel_left, show 512 + n * 4 + q - 512 = n * 4 + q by omega]
            obtain rfl | rfl | rfl | rfl : q = 0 ∨ q = 1 ∨ q = 2 ∨ q = 3 := by omega
            all_goals rfl
          · rw [if_neg (by omega), hmid j hj1 (by omega)]
        · simp (maxSteps := 2000000) (implicitDefEqProofs := false) (disch := first | omega | (simp only [SD.down, uA, uL] <;> omega) | fail) only [TA.down, resE, oneV, ↓reduceIte, reduceCtorEq, uB, uE, uL, uA, uM, uS, uN, uX, uO, vR, vD, vL, vK, vE, vA, vM, vT]
          try omega
        · simp (maxSteps := 2000000) (implicitDefEqProofs := false) (disch := first | omega | (simp only [SD.down, uA, uL] <;> omega) | fail) only [hf j hj hjk, TA.down, resE, oneV, ↓reduceIte, reduceCtorEq, uB, uE, uL, uA, uM, uS, uN, uX, uO, vR, vD, vL, vK, vE, vA, vM, vT]
      · refine ⟨0, cs, by omega, ?_, ?_, ?_, hk2, hl, fun _ _ => rfl, fun _ _ => rfl, fun j h1 h2 => by omega, hnx, fun j hj _ => hf j hj⟩
        · simp (maxSteps := 2000000) (implicitDefEqProofs := false) (disch := first | omega | (simp only [SD.down, uA, uL] <;> omega) | fail) only [h0, TA.down, resE, oneV, ↓reduceIte, reduceCtorEq, uB, uE, uL, uA, uM, uS, uN, uX, uO, vR, vD, vL, vK, vE, vA, vM, vT]
        · simp (maxSteps := 2000000) (implicitDefEqProofs := false) (disch := first | omega | (simp only [SD.down, uA, uL] <;> omega) | fail) only [TA.down, resE, oneV, ↓reduceIte, reduceCtorEq, uB, uE, uL, uA, uM, uS, uN, uX, uO, vR, vD, vL, vK, vE, vA, vM, vT]
        · simp (maxSteps := 2000000) (implicitDefEqProofs := false) (disch := first | omega | (simp only [SD.down, uA, uL] <;> omega) | fail) only [TA.down, resE, oneV, ↓reduceIte, reduceCtorEq, uB, uE, uL, uA, uM, uS, uN, uX, uO, vR, vD, vL, vK, vE, vA, vM, vT]
    · rintro j m σ hh ⟨n, p, wl, hn, hn8, h0, h4, h6, h7, hw, hwl, hs, hnx, hf⟩ ih
      have hk2 := (hf k hkn).trans hk
      by_cases c0 : n % 8 = 0
      · simp (maxSteps := 2000000) (implicitDefEqProofs := false) (disch := first | omega | (simp only [SD.down, uA, uL] <;> omega) | fail) only [run_it, run_loop, h0, h4, h6, h7, hk2, hw, hbox, env_P, env_L, double_ok, List.replicate_succ, List.replicate_zero, bu82, TA.down, resE, oneV, ↓reduceIte, reduceCtorEq, uB, uE, uL, uA, uM, uS, uN, uX, uO, vR, vD, vL, vK, vE, vA, vM, vT]
        refine ih _ _ ⟨n + 1, dbl p, wN S wl p n, by omega, by omega, ?_, ?_, ?_, ?_, ?_, ?_, ?_, ?_, fun j hj => ?_⟩
        · simp (maxSteps := 2000000) (implicitDefEqProofs := false) (disch := first | omega | (simp only [SD.down, uA, uL] <;> omega) | fail) only [h0, TA.down, resE, oneV, ↓reduceIte, reduceCtorEq, uB, uE, uL, uA, uM, uS, uN, uX, uO, vR, vD, vL, vK, vE, vA, vM, vT]
        · simp (maxSteps := 2000000) (implicitDefEqProofs := false) (disch := first | omega | (simp only [SD.down, uA, uL] <;> omega) | fail) only [h4, TA.down, resE, oneV, ↓reduceIte, reduceCtorEq, uB, uE, uL, uA, uM, uS, uN, uX, uO, vR, vD, vL, vK, vE, vA, vM, vT]
        · simp (maxSteps := 2000000) (implicitDefEqProofs := false) (disch := first | omega | (simp only [SD.down, uA, uL] <;> omega) | fail) only [h6, TA.down, resE, oneV, ↓reduceIte, reduceCtorEq, uB, uE, uL, uA, uM, uS, uN, uX, uO, vR, vD, vL, vK, vE, vA, vM, vT]
        · simp (maxSteps := 2000000) (implicitDefEqProofs := false) (disch := first | omega | (simp only [SD.down, uA, uL] <;> omega) | fail) only [TA.down, resE, oneV, ↓reduceIte, reduceCtorEq, uB, uE, uL, uA, uM, uS, uN, uX, uO, vR, vD, vL, vK, vE, vA, vM, vT]
        · simp (maxSteps := 2000000) (implicitDefEqProofs := false) (disch := first | omega | (simp only [SD.down, uA, uL] <;> omega) | fail) only [TA.down, resE, oneV, ↓reduceIte, reduceCtorEq, uB, uE, uL, uA, uM, uS, uN, uX, uO, vR, vD, vL, vK, vE, vA, vM, vT]
          simp (disch := omega) only [wN, t4, if_pos c0, Go.Aw.getD_set_ne, if_true, if_false, List.getD_cons_zero, List.getD_cons_succ, Nat.add_assoc, Nat.reduceAdd]
        · simp [wN, hwl]
        · rw [← hs]; simp [wB, c0]
        · simp (maxSteps := 2000000) (implicitDefEqProofs := false) (disch := first | omega | (simp only [SD.down, uA, uL] <;> omega) | fail) only [TA.down, resE, oneV, ↓reduceIte, reduceCtorEq, uB, uE, uL, uA, uM, uS, uN, uX, uO, vR, vD, vL, vK, vE, vA, vM, vT]
          try omega
        · simp (maxSteps := 2000000) (implicitDefEqProofs := false) (disch := first | omega | (simp only [SD.down, uA, uL] <;> omega) | fail) only [hf j hj, TA.down, resE, oneV, ↓reduceIte, reduceCtorEq, uB, uE, uL, uA, uM, uS, uN, uX, uO, vR, vD, vL, vK, vE, vA, vM, vT]
      · by_cases c4 : n % 8 = 4
        · simp (maxSteps := 2000000) (implicitDefEqProofs := false) (disch := first | omega | (simp only [SD.down, uA, uL] <;> omega) | fail) only [run_it, run_loop, h0, h4, h6, h7, hk2, hw, hbox, env_P, env_L, double_ok, List.replicate_succ, List.replicate_zero, bu82, TA.down, resE, oneV, ↓reduceIte, reduceCtorEq, uB, uE, uL, uA, uM, uS, uN, uX, uO, vR, vD, vL, vK, vE, vA, vM, vT]
          refine ih _ _ ⟨n + 1, p, wN S wl p n, by omega, by omega, ?_, ?_, ?_, ?_, ?_, ?_, ?_, ?_, fun j hj => ?_⟩
          · simp (maxSteps := 2000000) (implicitDefEqProofs := false) (disch := first | omega | (simp only [SD.down, uA, uL] <;> omega) | fail) only [h0, TA.down, resE, oneV, ↓reduceIte, reduceCtorEq, uB, uE, uL, uA, uM, uS, uN, uX, uO, vR, vD, vL, vK, vE, vA, vM, vT]
          · simp (maxSteps := 2000000) (implicitDefEqProofs := false) (disch := first | omega | (simp only [SD.down, uA, uL] <;> omega) | fail) only [h4, TA.down, resE, oneV, ↓reduceIte, reduceCtorEq, uB, uE, uL, uA, uM, uS, uN, uX, uO, vR, vD, vL, vK, vE, vA, vM, vT]
          · simp (maxSteps := 2000000) (implicitDefEqProofs := false) (disch := first | omega | (simp only [SD.down, uA, uL] <;> omega) | fail) only [h6, TA.down, resE, oneV, ↓reduceIte, reduceCtorEq, uB, uE, uL, uA, uM, uS, uN, uX, uO, vR, vD, vL, vK, vE, vA, vM, vT]
          · simp (maxSteps := 2000000) (implicitDefEqProofs := false) (disch := first | omega | (simp only [SD.down, uA, uL] <;> omega) | fail) only [TA.down, resE, oneV, ↓reduceIte, reduceCtorEq, uB, uE, uL, uA, uM, uS, uN, uX, uO, vR, vD, vL, vK, vE, vA, vM, vT]
          · simp (maxSteps := 2000000) (implicitDefEqProofs := false) (disch := first | omega | (simp only [SD.down, uA, uL] <;> omega) | fail) only [TA.down, resE, oneV, ↓reduceIte, reduceCtorEq, uB, uE, uL, uA, uM, uS, uN, uX, uO, vR, vD, vL, vK, vE, vA, vM, vT]
            simp (disch := omega) only [wN, t4, if_neg c0, if_pos c4, Go.Aw.getD_set_ne, if_true, if_false, List.getD_cons_zero, List.getD_cons_succ, Nat.add_assoc, Nat.reduceAdd]
          · simp [wN, hwl]
          · rw [← hs]; simp [wB, c0, c4]
          · simp (maxSteps := 2000000) (implicitDefEqProofs := false) (disch := first | omega | (simp only [SD.down, uA, uL] <;> omega) | fail) only [TA.down, resE, oneV, ↓reduceIte, reduceCtorEq, uB, uE, uL, uA, uM, uS, uN, uX, uO, vR, vD, vL, vK, vE, vA, vM, vT]
            try omega
          · simp (maxSteps := 2000000) (implicitDefEqProofs := false) (disch := first | omega | (simp only [SD.down, uA, uL] <;> omega) | fail) only [hf j hj, TA.down, resE, oneV, ↓reduceIte, reduceCtorEq, uB, uE, uL, uA, uM, uS, uN, uX, uO, vR, vD, vL, vK, vE, vA, vM, vT]
        · simp (maxSteps := 2000000) (implicitDefEqProofs := false) (disch := first | omega | (simp only [SD.down, uA, uL] <;> omega) | fail) only [run_it, run_loop, h0, h4, h6, h7, hk2, hw, hbox, env_P, env_L, double_ok, List.replicate_succ, List.replicate_zero, bu82, TA.down, resE, oneV, ↓reduceIte, reduceCtorEq, uB, uE, uL, uA, uM, uS, uN, uX, uO, vR, vD, vL, vK, vE, vA, vM, vT]
          refine ih _ _ ⟨n + 1, p, wN S wl p n, by omega, by omega, ?_, ?_, ?_, ?_, ?_, ?_, ?_, ?_, fun j hj => ?_⟩
          · simp (maxSteps := 2000000) (implicitDefEqProofs := false) (disch := first | omega | (simp only [SD.down, uA, uL] <;> omega) | fail) only [h0, TA.down, resE, oneV, ↓reduceIte, reduceCtorEq, uB, uE, uL, uA, uM, uS, uN, uX, uO, vR, vD, vL, vK, vE, vA, vM, vT]
          · simp (maxSteps := 2000000) (implicitDefEqProofs := false) (disch := first | omega | (simp only [SD.down, uA, uL] <;> omega) | fail) only [h4, TA.down, resE, oneV, ↓reduceIte, reduceCtorEq, uB, uE, uL, uA, uM, uS, uN, uX, uO, vR, vD, vL, vK, vE, vA, vM, vT]
          · simp (maxSteps := 2000000) (implicitDefEqProofs := false) (disch := first | omega | (simp only [SD.down, uA, uL] <;> omega) | fail) only [h6, TA.down, resE, oneV, ↓reduceIte, reduceCtorEq, uB, uE, uL, uA, uM, uS, uN, uX, uO, vR, vD, vL, vK, vE, vA, vM, vT]
          · simp (maxSteps := 2000000) (implicitDefEqProofs := false) (disch := first | omega | (simp only [SD.down, uA, uL] <;> omega) | fail) only [TA.down, resE, oneV, ↓reduceIte, reduceCtorEq, uB, uE, uL, uA, uM, uS, uN, uX, uO, vR, vD, vL, vK, vE, vA, vM, vT]
          · simp (maxSteps := 2000000) (implicitDefEqProofs := false) (disch := first | omega | (simp only [SD.down, uA, uL] <;> omega) | fail) only [TA.down, resE, oneV, ↓reduceIte, reduceCtorEq, uB, uE, uL, uA, uM, uS, uN, uX, uO, vR, vD, vL, vK, vE, vA, vM, vT]
            simp (disch := omega) only [wN, t4, if_neg c0, if_neg c4, Go.Aw.getD_set_ne, if_true, if_false, List.getD_cons_zero, List.getD_cons_succ, Nat.add_assoc, Nat.reduceAdd]
          · simp [wN, hwl]
          · rw [← hs]; simp [wB, c0, c4]
          · simp (maxSteps := 2000000) (implicitDefEqProofs := false) (disch := first | omega | (simp only [SD.down, uA, uL] <;> omega) | fail) only [TA.down, resE, oneV, ↓reduceIte, reduceCtorEq, uB, uE, uL, uA, uM, uS, uN, uX, uO, vR, vD, vL, vK, vE, vA, vM, vT]
            try omega
          · simp (maxSteps := 2000000) (implicitDefEqProofs := false) (disch := first | omega | (simp only [SD.down, uA, uL] <;> omega) | fail) only [hf j hj, TA.down, resE, oneV, ↓reduceIte, reduceCtorEq, uB, uE, uL, uA, uM, uS, uN, uX, uO, vR, vD, vL, vK, vE, vA, vM, vT]
    · refine ⟨8, 1, wA kl 8, by omega, by omega, ?_, ?_, ?_, ?_, ?_, wA_len kl 8 (by omega), rfl, ?_, fun j hj => ?_⟩
      · simp (maxSteps := 2000000) (implicitDefEqProofs := false) (disch := first | omega | (simp only [SD.down, uA, uL] <;> omega) | fail) only [h0, TA.down, resE, oneV, ↓reduceIte, reduceCtorEq, uB, uE, uL, uA, uM, uS, uN, uX, uO, vR, vD, vL, vK, vE, vA, vM, vT]
      · simp (maxSteps := 2000000) (implicitDefEqProofs := false) (disch := first | omega | (simp only [SD.down, uA, uL] <;> omega) | fail) only [h4, TA.down, resE, oneV, ↓reduceIte, reduceCtorEq, uB, uE, uL, uA, uM, uS, uN, uX, uO, vR, vD, vL, vK, vE, vA, vM, vT]
      · simp (maxSteps := 2000000) (implicitDefEqProofs := false) (disch := first | omega | (simp only [SD.down, uA, uL] <;> omega) | fail) only [TA.down, resE, oneV, ↓reduceIte, reduceCtorEq, uB, uE, uL, uA, uM, uS, uN, uX, uO, vR, vD, vL, vK, vE, vA, vM, vT]
      · simp (maxSteps := 2000000) (implicitDefEqProofs := false) (disch := first | omega | (simp only [SD.down, uA, uL] <;> omega) | fail) only [TA.down, resE, oneV, ↓reduceIte, reduceCtorEq, uB, uE, uL, uA, uM, uS, uN, uX, uO, vR, vD, vL, vK, vE, vA, vM, vT]
      · exact hw
      · exact hnx
      · exact hf j hj
  · rintro j m σ hh ⟨n, hn, h0, h3, h4, h12, hb, hw, hnx, hf⟩ ih
    have hwl := wA_len kl n (by omega)
    simp (maxSteps := 2000000) (implicitDefEqProofs := false) (disch := first | omega | (simp only [SD.down, uA, uL] <;> omega) | fail) only [run_it, h0, h3, h4, h12, hb, hw, env_P, ovN_of, TA.down, resE, oneV, ↓reduceIte, reduceCtorEq, uB, uE, uL, uA, uM, uS, uN, uX, uO, vR, vD, vL, vK, vE, vA, vM, vT]
    refine ih _ _ ⟨n + 1, by omega, ?_, ?_, ?_, ?_, ?_, ?_, ?_, fun j hj => ?_⟩
    · simp (maxSteps := 2000000) (implicitDefEqProofs := false) (disch := first | omega | (simp only [SD.down, uA, uL] <;> omega) | fail) only [h0, TA.down, resE, oneV, ↓reduceIte, reduceCtorEq, uB, uE, uL, uA, uM, uS, uN, uX, uO, vR, vD, vL, vK, vE, vA, vM, vT]
    · simp (maxSteps := 2000000) (implicitDefEqProofs := false) (disch := first | omega | (simp only [SD.down, uA, uL] <;> omega) | fail) only [h3, TA.down, resE, oneV, ↓reduceIte, reduceCtorEq, uB, uE, uL, uA, uM, uS, uN, uX, uO, vR, vD, vL, vK, vE, vA, vM, vT]
    · simp (maxSteps := 2000000) (implicitDefEqProofs := false) (disch := first | omega | (simp only [SD.down, uA, uL] <;> omega) | fail) only [h4, TA.down, resE, oneV, ↓reduceIte, reduceCtorEq, uB, uE, uL, uA, uM, uS, uN, uX, uO, vR, vD, vL, vK, vE, vA, vM, vT]
    · simp (maxSteps := 2000000) (implicitDefEqProofs := false) (disch := first | omega | (simp only [SD.down, uA, uL] <;> omega) | fail) only [TA.down, resE, oneV, ↓reduceIte, reduceCtorEq, uB, uE, uL, uA, uM, uS, uN, uX, uO, vR, vD, vL, vK, vE, vA, vM, vT]
    · simp (maxSteps := 2000000) (implicitDefEqProofs := false) (disch := first | omega | (simp only [SD.down, uA, uL] <;> omega) | fail) only [hb, TA.down, resE, oneV, ↓reduceIte, reduceCtorEq, uB, uE, uL, uA, uM, uS, uN, uX, uO, vR, vD, vL, vK, vE, vA, vM, vT]
    · simp (maxSteps := 2000000) (implicitDefEqProofs := false) (disch := first | omega | (simp only [SD.down, uA, uL] <;> omega) | fail) only [TA.down, resE, oneV, ↓reduceIte, reduceCtorEq, uB, uE, uL, uA, uM, uS, uN, uX, uO, vR, vD, vL, vK, vE, vA, vM, vT]
      simp [wA, B, List.map_take, List.map_drop]
    · simp (maxSteps := 2000000) (implicitDefEqProofs := false) (disch := first | omega | (simp only [SD.down, uA, uL] <;> omega) | fail) only [TA.down, resE, oneV, ↓reduceIte, reduceCtorEq, uB, uE, uL, uA, uM, uS, uN, uX, uO, vR, vD, vL, vK, vE, vA, vM, vT]
      try omega
    · simp (maxSteps := 2000000) (implicitDefEqProofs := false) (disch := first | omega | (simp only [SD.down, uA, uL] <;> omega) | fail) only [hf j hj, TA.down, resE, oneV, ↓reduceIte, reduceCtorEq, uB, uE, uL, uA, uM, uS, uN, uX, uO, vR, vD, vL, vK, vE, vA, vM, vT]
  · refine ⟨0, by omega, ?_, ?_, ?_, ?_, ?_, ?_, ?_, fun j hj => ?_⟩
    · simp (maxSteps := 2000000) (implicitDefEqProofs := false) (disch := first | omega | (simp only [SD.down, uA, uL] <;> omega) | fail) only [TA.down, resE, oneV, ↓reduceIte, reduceCtorEq, uB, uE, uL, uA, uM, uS, uN, uX, uO, vR, vD, vL, vK, vE, vA, vM, vT]
    · simp (maxSteps := 2000000) (implicitDefEqProofs := false) (disch := first | omega | (simp only [SD.down, uA, uL] <;> omega) | fail) only [TA.down, resE, oneV, ↓reduceIte, reduceCtorEq, uB, uE, uL, uA, uM, uS, uN, uX, uO, vR, vD, vL, vK, vE, vA, vM, vT]
    · simp (maxSteps := 2000000) (implicitDefEqProofs := false) (disch := first | omega | (simp only [SD.down, uA, uL] <;> omega) | fail) only [TA.down, resE, oneV, ↓reduceIte, reduceCtorEq, uB, uE, uL, uA, uM, uS, uN, uX, uO, vR, vD, vL, vK, vE, vA, vM, vT]
    · simp (maxSteps := 2000000) (implicitDefEqProofs := false) (disch := first | omega | (simp only [SD.down, uA, uL] <;> omega) | fail) only [TA.down, resE, oneV, ↓reduceIte, reduceCtorEq, uB, uE, uL, uA, uM, uS, uN, uX, uO, vR, vD, vL, vK, vE, vA, vM, vT]
    · simp (maxSteps := 2000000) (implicitDefEqProofs := false) (disch := first | omega | (simp only [SD.down, uA, uL] <;> omega) | fail) only [TA.down, resE, oneV, ↓reduceIte, reduceCtorEq, uB, uE, uL, uA, uM, uS, uN, uX, uO, vR, vD, vL, vK, vE, vA, vM, vT]
    · simp (maxSteps := 2000000) (implicitDefEqProofs := false) (disch := first | omega | (simp only [SD.down, uA, uL] <;> omega) | fail) only [TA.down, resE, oneV, ↓reduceIte, reduceCtorEq, uB, uE, uL, uA, uM, uS, uN, uX, uO, vR, vD, vL, vK, vE, vA, vM, vT]
      simp [wA, B]
    · simp (maxSteps := 2000000) (implicitDefEqProofs := false) (disch := first | omega | (simp only [SD.down, uA, uL] <;> omega) | fail) only [TA.down, resE, oneV, ↓reduceIte, reduceCtorEq, uB, uE, uL, uA, uM, uS, uN, uX, uO, vR, vD, vL, vK, vE, vA, vM, vT]
      try omega
    · simp (maxSteps := 2000000) (implicitDefEqProofs := false) (disch := first | omega | (simp only [SD.down, uA, uL] <;> omega) | fail) only [TA.down, resE, oneV, ↓reduceIte, reduceCtorEq, uB, uE, uL, uA, uM, uS, uN, uX, uO, vR, vD, vL, vK, vE, vA, vM, vT]
end Go.Proofs.Ythcbefolifpbpaa
