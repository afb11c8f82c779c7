/- Of this program, for all inputs: contracts. No condition but those in the theorems. -/
import Derived.Test.YthcbefolifpbpaaA5
namespace Go.Proofs.Ythcbefolifpbpaa
open Go Go.Ai Go.Aw Go.Proofs
open Nat renaming reduceBEq → uB, reduceEqDiff → uE, reduceLT → uL, reduceAdd → uA, reduceMul → uM, reduceSub → uS, reduceAnd → uN, reduceXor → uX, reduceOr → uO
open Int renaming reduceMod → vR, reduceDiv → vD, reduceLT → vL, reduceLE → vK, reduceEq → vE, reduceAdd → vA, reduceMul → vM, reduceToNat → vT
set_option linter.unusedSimpArgs false
set_option linter.unusedVariables false
set_option maxRecDepth 10000
/-- the other box -/
def invN (s : List Nat) : Nat → Nat → List Nat → List Nat
  | 0, _, o => o
  | j + 1, n, o => invN s j (n + 1) (o.set (s.getD n 0 % 256) n)
theorem invN_len (s : List Nat) : ∀ j n o, (invN s j n o).length = o.length
  | 0, _, _ => rfl
  | j + 1, n, o => by rw [invN, invN_len s j]; simp
theorem set_mid {X Y R : List AV} {i : Nat} {v : AV} (h1 : X.length ≤ i) (h2 : i - X.length < Y.length) : (X ++ (Y ++ R)).set i v = X ++ (Y.set (i - X.length) v ++ R) := by
  rw [List.set_append_right _ _ h1, List.set_append_left _ _ h2]
set_option maxHeartbeats 4000000 in
theorem open1_ok (d : Nat) (h : Heap) (p k : Nat) (hpk : p ≠ k) (e : Nat) (w : Bool) (hp : h.get p = some (.cells [.ptr k 0] e w)) (s o : List Nat) (hs : s.length = 256) (ho : o.length = 256) (R : List AV) (hk : h.get k = some (.cells (B s ++ (B o ++ R)) 0 false)) :
    callD env (d + 1) 30 [.ptr p 0] h = some (.tup [], h.put k (some (.cells (B s ++ (B (invN s 256 0 o) ++ R)) 0 false))) := by
  suffices G (callD env (d + 1) 30 [.ptr p 0] h) (fun v h' => v = .tup [] ∧ h' = h.put k (some (.cells (B s ++ (B (invN s 256 0 o) ++ R)) 0 false))) by
    obtain ⟨v, h', e, rfl, rfl⟩ := this
    exact e
  generalize hX : (fun (v : AV) (h' : Heap) => v = .tup [] ∧ h' = h.put k (some (.cells (B s ++ (B (invN s 256 0 o) ++ R)) 0 false))) = Q
  have hc : cutE 0 256 (B s ++ (B o ++ R)) = some (B s) := by
    rw [cutE_of (by simp [B_len, hs]), List.drop_zero, List.take_append_of_le_length (by simp [B_len, hs]), List.take_of_length_le (by simp [B_len, hs])]
  rw [callD_run (E := env) [] (by kernel_rfl) Try.func30 rfl (by rw [Try.ntmps30]; simp) (by kernel_rfl)]; simp (maxSteps := 2000000) (implicitDefEqProofs := false) (disch := first | omega | (simp only [SD.down, uA, uL] <;> omega) | fail) only [Try.ntmps30, Try.results30, env_P, env_L, hp, hk, hc, TA.down, resE, oneV, ↓reduceIte, reduceCtorEq, uB, uE, uL, uA, uM, uS, uN, uX, uO, vR, vD, vL, vK, vE, vA, vM, vT]
  rw [run_loop]
  refine loop_ind (fun j σ hh => ∃ n o', n + j = 256 ∧ σ 0 = .ptr p 0 ∧ σ 6 = .agg (B s) ∧ σ 7 = .int .i64 ((n : Nat) : Int) ∧ hh = h.put k (some (.cells (B s ++ (B o' ++ R)) 0 false)) ∧ o'.length = 256 ∧ invN s j n o' = invN s 256 0 o) ?_ ?_ 256 _ _ _ (by simp) ?_
  · rintro m σ hh ⟨n, o', hn, h0, h6, h7, rfl, hol, hi⟩
    obtain rfl : n = 256 := by omega
    simp (maxSteps := 2000000) (implicitDefEqProofs := false) (disch := first | omega | (simp only [SD.down, uA, uL] <;> omega) | fail) only [run_it, h0, h6, h7, env_P, TA.down, resE, oneV, ↓reduceIte, reduceCtorEq, uB, uE, uL, uA, uM, uS, uN, uX, uO, vR, vD, vL, vK, vE, vA, vM, vT]
    subst hX
    exact G.ok ⟨rfl, by rw [← hi]; rfl⟩
  · rintro j m σ hh ⟨n, o', hn, h0, h6, h7, rfl, hol, hi⟩ ih
    have hset : ∀ x, (B s ++ (B o' ++ R)).set (256 + x % 256) (b8 n) = B s ++ (B (o'.set (x % 256) n) ++ R) := by
      intro x
      rw [set_mid (by rw [B_len]; omega) (by rw [B_len, B_len]; omega), B_len, hs, Nat.add_sub_cancel_left, B_set]
    have hlen : (B s ++ (B o' ++ R)).length = 512 + R.length := by simp only [List.length_append, B_len, hs, hol]; omega
    simp (maxSteps := 2000000) (implicitDefEqProofs := false) (disch := first | omega | (simp only [SD.down, uA, uL] <;> omega) | fail) only [run_it, h0, h6, h7, hp, env_P, hset, hlen, TA.down, resE, oneV, ↓reduceIte, reduceCtorEq, uB, uE, uL, uA, uM, uS, uN, uX, uO, vR, vD, vL, vK, vE, vA, vM, vT]
    refine ih _ _ ⟨n + 1, o'.set (s.getD n 0 % 256) n, by omega, ?_, ?_, ?_, ?_, by simp [hol], hi⟩
    · simp (maxSteps := 2000000) (implicitDefEqProofs := false) (disch := first | omega | (simp only [SD.down, uA, uL] <;> omega) | fail) only [h0, TA.down, resE, oneV, ↓reduceIte, reduceCtorEq, uB, uE, uL, uA, uM, uS, uN, uX, uO, vR, vD, vL, vK, vE, vA, vM, vT]
    · simp (maxSteps := 2000000) (implicitDefEqProofs := false) (disch := first | omega | (simp only [SD.down, uA, uL] <;> omega) | fail) only [h6, TA.down, resE, oneV, ↓reduceIte, reduceCtorEq, uB, uE, uL, uA, uM, uS, uN, uX, uO, vR, vD, vL, vK, vE, vA, vM, vT]
    · simp (maxSteps := 2000000) (implicitDefEqProofs := false) (disch := first | omega | (simp only [SD.down, uA, uL] <;> omega) | fail) only [TA.down, resE, oneV, ↓reduceIte, reduceCtorEq, uB, uE, uL, uA, uM, uS, uN, uX, uO, vR, vD, vL, vK, vE, vA, vM, vT]
    · rfl
  · refine ⟨0, o, by omega, ?_, ?_, ?_, (put_self hk).symm, ho, rfl⟩
    · simp (maxSteps := 2000000) (implicitDefEqProofs := false) (disch := first | omega | (simp only [SD.down, uA, uL] <;> omega) | fail) only [TA.down, resE, oneV, ↓reduceIte, reduceCtorEq, uB, uE, uL, uA, uM, uS, uN, uX, uO, vR, vD, vL, vK, vE, vA, vM, vT]
    · simp (maxSteps := 2000000) (implicitDefEqProofs := false) (disch := first | omega | (simp only [SD.down, uA, uL] <;> omega) | fail) only [TA.down, resE, oneV, ↓reduceIte, reduceCtorEq, uB, uE, uL, uA, uM, uS, uN, uX, uO, vR, vD, vL, vK, vE, vA, vM, vT]
    · simp (maxSteps := 2000000) (implicitDefEqProofs := false) (disch := first | omega | (simp only [SD.down, uA, uL] <;> omega) | fail) only [TA.down, resE, oneV, ↓reduceIte, reduceCtorEq, uB, uE, uL, uA, uM, uS, uN, uX, uO, vR, vD, vL, vK, vE, vA, vM, vT]
end Go.Proofs.Ythcbefolifpbpaa
