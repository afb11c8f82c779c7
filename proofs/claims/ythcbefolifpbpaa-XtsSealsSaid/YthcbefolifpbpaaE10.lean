/- Of this program, for all inputs: contracts. No condition but those in the theorems. -/
import Derived.Test.YthcbefolifpbpaaE9
namespace Go.Proofs.Ythcbefolifpbpaa.R.D
open Go Go.Ai Go.Aw Go.Proofs
open Nat renaming reduceBEq → uB, reduceEqDiff → uE, reduceLT → uL, reduceAdd → uA, reduceMul → uM, reduceSub → uS, reduceAnd → uN, reduceXor → uX, reduceOr → uO
open Int renaming reduceMod → vR, reduceDiv → vD, reduceLT → vL, reduceLE → vK, reduceEq → vE, reduceAdd → vA, reduceMul → vM, reduceToNat → vT
theorem env_P : c4.P = Try.prog := rfl
theorem env_L : c4.L = 100000 := rfl
def z16 : List Nat := [0, 0, 0, 0, 0, 0, 0, 0, 0, 0, 0, 0, 0, 0, 0, 0]
theorem z16_len : z16.length = 16 := rfl
theorem Z16 : List.replicate 16 (b8 0) = B z16 := rfl
end Go.Proofs.Ythcbefolifpbpaa.R.D
namespace Go.Proofs.Ythcbefolifpbpaa.R.D
open Go Go.Ai Go.Aw Go.Proofs
open Nat renaming reduceBEq → uB, reduceEqDiff → uE, reduceLT → uL, reduceAdd → uA, reduceMul → uM, reduceSub → uS, reduceAnd → uN, reduceXor → uX, reduceOr → uO
open Int renaming reduceMod → vR, reduceDiv → vD, reduceLT → vL, reduceLE → vK, reduceEq → vE, reduceAdd → vA, reduceMul → vM, reduceToNat → vT
set_option linter.unusedSimpArgs false
set_option linter.unusedVariables false
set_option maxRecDepth 10000
/-- truths, the first n of them known -/
def bl (f : Nat → Bool) (n : Nat) : List AV := (List.range 128).map fun j => AV.bool (decide (j < n) && f j)
theorem bl_len (f : Nat → Bool) (n : Nat) : (bl f n).length = 128 := by simp [bl]
theorem bl_zero (f : Nat → Bool) : List.replicate 128 (AV.bool false) = bl f 0 := by
  unfold bl
  refine List.ext_getElem (by simp only [List.length_replicate, List.length_map, List.length_range]) fun i h1 h2 => ?_
  simp only [List.getElem_replicate, List.getElem_map, List.getElem_range, Nat.not_lt_zero, decide_false, Bool.false_and]
theorem bl_set (f : Nat → Bool) (n : Nat) (hn : n < 128) : (bl f n).set n (AV.bool (f n)) = bl f (n + 1) := by
  refine List.ext_getElem (by simp [bl]) fun i h1 h2 => ?_
  rw [List.getElem_set]
  by_cases h : n = i
  · subst h; simp [bl]
  · rw [if_neg h]
    have : i < n + 1 ↔ i < n := by omega
    simp [bl, this]
theorem bl_sc (f : Nat → Bool) (n : Nat) : allSc (bl f n) = true := by
  unfold allSc bl
  rw [List.all_map, List.all_eq_true]
  intro x _
  rfl
theorem cut_bl (f : Nat → Bool) (n : Nat) : cutE 0 128 (bl f n) = some (bl f n) := cut_all (by simp [bl_len])
theorem over_bl (f g : Nat → Bool) (n m : Nat) : overE 0 (bl f n) (bl g m) = some (bl f n) := by
  rw [overE_n, bl_len, ovN_full (by simp [bl_len]), bl_sc, scE_true]
theorem over_bl1 (f : Nat → Bool) (n : Nat) (hn : n < 128) : overE n [AV.bool (f n)] (bl f n) = some (bl f (n + 1)) := by
  unfold overE
  rw [if_pos ⟨by simp only [bl_len, List.length_cons, List.length_nil]; omega, rfl⟩, ← bl_set f n hn, List.set_eq_take_append_cons_drop, if_pos (by rw [bl_len]; exact hn)]
  simp
def bitT (t : List Nat) (i : Nat) : Bool := decide ((t.getD (i / 8) 0 % 256 / 2 ^ (i % 8) &&& 1) % 256 = 1 % 256)
set_option maxHeartbeats 4000000 in
theorem bits_ok (d : Nat) (h : Heap) (t : List Nat) (ht : t.length = 16) : G (callD c4 (d + 1) 36 [.agg (B t)] h) fun v h' => v = .agg (bl (bitT t) 128) ∧ Keeps h h' := by
  generalize hX : (fun (v : AV) (h' : Heap) => v = .agg (bl (bitT t) 128) ∧ Keeps h h') = Q
  have hbl := bl_len
  rw [callD_run (E := c4) [] (by kernel_rfl) Try.func36 rfl (by rw [Try.ntmps36]; simp) (by kernel_rfl)]; simp (maxSteps := 2000000) (implicitDefEqProofs := false) (disch := first | omega | (simp only [SD.down, uA, uL] <;> omega) | fail) only [Try.ntmps36, Try.results36, env_P, env_L, TA.down, resE, oneV, ↓reduceIte, reduceCtorEq, uB, uE, uL, uA, uM, uS, uN, uX, uO, vR, vD, vL, vK, vE, vA, vM, vT]
  rw [run_loop]
  refine loop_ind (fun j σ hh => ∃ n, n + j = 128 ∧ σ 1 = .ptr h.next 0 ∧ σ 2 = .ptr (h.next + 1) 0 ∧ σ 3 = .ptr (h.next + 2) 0 ∧ σ 4 = .int .i64 ((n : Nat) : Int) ∧ hh.get h.next = some (.cells (B t) 0 false) ∧ hh.get (h.next + 1) = some (.cells (bl (bitT t) 0) 0 false) ∧ hh.get (h.next + 2) = some (.cells (bl (bitT t) n) 0 false) ∧ h.next + 2 < hh.next ∧ ∀ j, j < h.next → hh.get j = h.get j) ?_ ?_ 128 _ _ _ (by simp) ?_
  · rintro mm σ hh ⟨n, hn, s1, s2, s3, s4, g1, g2, g3, hnx, hkp⟩
    obtain rfl : n = 128 := by omega
    simp (maxSteps := 2000000) (implicitDefEqProofs := false) (disch := first | omega | (simp only [SD.down, uA, uL] <;> omega) | fail) only [run_it, s1, s2, s3, s4, ht, env_P, g1, g2, g3, hnx, hbl, cut_bl, over_bl, TA.down, resE, oneV, ↓reduceIte, reduceCtorEq, uB, uE, uL, uA, uM, uS, uN, uX, uO, vR, vD, vL, vK, vE, vA, vM, vT]
    subst hX
    refine G.ok ⟨rfl, by simp (maxSteps := 2000000) (implicitDefEqProofs := false) (disch := first | omega | (simp only [SD.down, uA, uL] <;> omega) | fail) only [TA.down, resE, oneV, ↓reduceIte, reduceCtorEq, uB, uE, uL, uA, uM, uS, uN, uX, uO, vR, vD, vL, vK, vE, vA, vM, vT]; omega, fun j hj => ?_⟩
    rw [get_put_ne (by omega)]
    exact hkp j hj
  · rintro j mm σ hh ⟨n, hn, s1, s2, s3, s4, g1, g2, g3, hnx, hkp⟩ ih
    have hv : overE n [AV.bool (decide ((t.getD (n / 8) 0 % 256 / 2 ^ (n % 8) &&& 1) % 256 = 1 % 256))] (bl (bitT t) n) = some (bl (bitT t) (n + 1)) := over_bl1 (bitT t) n (by omega)
    simp (maxSteps := 2000000) (implicitDefEqProofs := false) (disch := first | omega | (simp only [SD.down, uA, uL] <;> omega) | fail) only [run_it, s1, s2, s3, s4, ht, env_P, g1, g2, g3, hnx, hbl, hv, TA.down, resE, oneV, ↓reduceIte, reduceCtorEq, uB, uE, uL, uA, uM, uS, uN, uX, uO, vR, vD, vL, vK, vE, vA, vM, vT]
    refine ih _ _ ⟨n + 1, by omega, by simp (maxSteps := 2000000) (implicitDefEqProofs := false) (disch := first | omega | (simp only [SD.down, uA, uL] <;> omega) | fail) only [s1, TA.down, resE, oneV, ↓reduceIte, reduceCtorEq, uB, uE, uL, uA, uM, uS, uN, uX, uO, vR, vD, vL, vK, vE, vA, vM, vT], by simp (maxSteps := 2000000) (implicitDefEqProofs := false) (disch := first | omega | (simp only [SD.down, uA, uL] <;> omega) | fail) only [s2, TA.down, resE, oneV, ↓reduceIte, reduceCtorEq, uB, uE, uL, uA, uM, uS, uN, uX, uO, vR, vD, vL, vK, vE, vA, vM, vT], by simp (maxSteps := 2000000) (implicitDefEqProofs := false) (disch := first | omega | (simp only [SD.down, uA, uL] <;> omega) | fail) only [s3, TA.down, resE, oneV, ↓reduceIte, reduceCtorEq, uB, uE, uL, uA, uM, uS, uN, uX, uO, vR, vD, vL, vK, vE, vA, vM, vT], by simp (maxSteps := 2000000) (implicitDefEqProofs := false) (disch := first | omega | (simp only [SD.down, uA, uL] <;> omega) | fail) only [TA.down, resE, oneV, ↓reduceIte, reduceCtorEq, uB, uE, uL, uA, uM, uS, uN, uX, uO, vR, vD, vL, vK, vE, vA, vM, vT], ?_, ?_, ?_, by simp (maxSteps := 2000000) (implicitDefEqProofs := false) (disch := first | omega | (simp only [SD.down, uA, uL] <;> omega) | fail) only [TA.down, resE, oneV, ↓reduceIte, reduceCtorEq, uB, uE, uL, uA, uM, uS, uN, uX, uO, vR, vD, vL, vK, vE, vA, vM, vT]; omega, fun j hj => ?_⟩
    · rw [get_put_ne (by omega)]; exact g1
    · rw [get_put_ne (by omega)]; exact g2
    · simp (maxSteps := 2000000) (implicitDefEqProofs := false) (disch := first | omega | (simp only [SD.down, uA, uL] <;> omega) | fail) only [TA.down, resE, oneV, ↓reduceIte, reduceCtorEq, uB, uE, uL, uA, uM, uS, uN, uX, uO, vR, vD, vL, vK, vE, vA, vM, vT]
    · rw [get_put_ne (by omega)]; exact hkp j hj
  · refine ⟨0, by omega, ?_, ?_, ?_, ?_, ?_, ?_, ?_, ?_, ?_⟩
    · simp (maxSteps := 2000000) (implicitDefEqProofs := false) (disch := first | omega | (simp only [SD.down, uA, uL] <;> omega) | fail) only [TA.down, resE, oneV, ↓reduceIte, reduceCtorEq, uB, uE, uL, uA, uM, uS, uN, uX, uO, vR, vD, vL, vK, vE, vA, vM, vT]
    · simp (maxSteps := 2000000) (implicitDefEqProofs := false) (disch := first | omega | (simp only [SD.down, uA, uL] <;> omega) | fail) only [TA.down, resE, oneV, ↓reduceIte, reduceCtorEq, uB, uE, uL, uA, uM, uS, uN, uX, uO, vR, vD, vL, vK, vE, vA, vM, vT]
    · simp (maxSteps := 2000000) (implicitDefEqProofs := false) (disch := first | omega | (simp only [SD.down, uA, uL] <;> omega) | fail) only [TA.down, resE, oneV, ↓reduceIte, reduceCtorEq, uB, uE, uL, uA, uM, uS, uN, uX, uO, vR, vD, vL, vK, vE, vA, vM, vT]
    · simp (maxSteps := 2000000) (implicitDefEqProofs := false) (disch := first | omega | (simp only [SD.down, uA, uL] <;> omega) | fail) only [TA.down, resE, oneV, ↓reduceIte, reduceCtorEq, uB, uE, uL, uA, uM, uS, uN, uX, uO, vR, vD, vL, vK, vE, vA, vM, vT]
    · simp (maxSteps := 2000000) (implicitDefEqProofs := false) (disch := first | omega | (simp only [SD.down, uA, uL] <;> omega) | fail) only [TA.down, resE, oneV, ↓reduceIte, reduceCtorEq, uB, uE, uL, uA, uM, uS, uN, uX, uO, vR, vD, vL, vK, vE, vA, vM, vT]
    · simp (maxSteps := 2000000) (implicitDefEqProofs := false) (disch := first | omega | (simp only [SD.down, uA, uL] <;> omega) | fail) only [bl_zero, TA.down, resE, oneV, ↓reduceIte, reduceCtorEq, uB, uE, uL, uA, uM, uS, uN, uX, uO, vR, vD, vL, vK, vE, vA, vM, vT]
      rw [bl_zero]
    · simp (maxSteps := 2000000) (implicitDefEqProofs := false) (disch := first | omega | (simp only [SD.down, uA, uL] <;> omega) | fail) only [bl_zero, TA.down, resE, oneV, ↓reduceIte, reduceCtorEq, uB, uE, uL, uA, uM, uS, uN, uX, uO, vR, vD, vL, vK, vE, vA, vM, vT]
      rw [bl_zero]
    · simp (maxSteps := 2000000) (implicitDefEqProofs := false) (disch := first | omega | (simp only [SD.down, uA, uL] <;> omega) | fail) only [TA.down, resE, oneV, ↓reduceIte, reduceCtorEq, uB, uE, uL, uA, uM, uS, uN, uX, uO, vR, vD, vL, vK, vE, vA, vM, vT]
      omega
    · intro j hj
      simp (maxSteps := 2000000) (implicitDefEqProofs := false) (disch := first | omega | (simp only [SD.down, uA, uL] <;> omega) | fail) only [TA.down, resE, oneV, ↓reduceIte, reduceCtorEq, uB, uE, uL, uA, uM, uS, uN, uX, uO, vR, vD, vL, vK, vE, vA, vM, vT]
end Go.Proofs.Ythcbefolifpbpaa.R.D
namespace Go.Proofs.Ythcbefolifpbpaa.R.D
open Go Go.Ai Go.Aw Go.Proofs
open Nat renaming reduceBEq → uB, reduceEqDiff → uE, reduceLT → uL, reduceAdd → uA, reduceMul → uM, reduceSub → uS, reduceAnd → uN, reduceXor → uX, reduceOr → uO
open Int renaming reduceMod → vR, reduceDiv → vD, reduceLT → vL, reduceLE → vK, reduceEq → vE, reduceAdd → vA, reduceMul → vM, reduceToNat → vT
set_option linter.unusedSimpArgs false
set_option linter.unusedVariables false
set_option maxRecDepth 10000
theorem bl_zero' (f g : Nat → Bool) : bl f 0 = bl g 0 := by
  unfold bl
  simp only [Nat.not_lt_zero, decide_false, Bool.false_and]
def sh (f : Nat → Bool) (j : Nat) : Bool := !decide (j = 0) && f (j - 1)
theorem bl_sh (f g : Nat → Bool) : bl g 0 = bl (sh f) 1 := by
  refine List.ext_getElem (by simp only [bl_len]) fun i h1 h2 => ?_
  have : decide (i < 1) = decide (i = 0) := decide_eq_decide.2 (by omega)
  simp only [bl, List.getElem_map, List.getElem_range, sh, this, Nat.not_lt_zero, decide_false, Bool.false_and]
  cases decide (i = 0) <;> simp
theorem get_bl (f : Nat → Bool) (k : Nat) (hk : k < 128) : (bl f 128)[k]? = some (.bool (f k)) := by
  simp [bl, hk]
def fl (f : Nat → Bool) (k j : Nat) : Bool := if j = k then !f k else f j
theorem over_fl (f : Nat → Bool) (k : Nat) (hk : k < 128) : overE k [AV.bool (!f k)] (bl f 128) = some (bl (fl f k) 128) := by
  unfold overE
  rw [if_pos ⟨by simp only [bl_len, List.length_cons, List.length_nil]; omega, rfl⟩]
  congr 1
  refine List.ext_getElem (by simp [bl_len]; omega) fun i h1 h2 => ?_
  rw [bl_len] at h2
  have e : (bl f 128).take k ++ [AV.bool (!f k)] ++ (bl f 128).drop (k + 1) = (bl f 128).set k (AV.bool (!f k)) := by
    rw [List.set_eq_take_append_cons_drop, if_pos (by rw [bl_len]; exact hk)]; simp
  simp only [List.length_cons, List.length_nil, Nat.zero_add, e, List.getElem_set]
  by_cases h : k = i
  · subst h; simp [bl, fl, hk]
  · simp [bl, fl, h, Ne.symm h]
def ov (g : Nat → Bool) : Nat → List Nat
  | 0 => z16
  | n + 1 => if g n then (ov g n).set (n / 8) ((ov g n).getD (n / 8) 0 + 1 * 2 ^ (n % 8)) else ov g n
theorem ov_len (g : Nat → Bool) : ∀ n, (ov g n).length = 16
  | 0 => rfl
  | n + 1 => by rw [ov]; split <;> simp [ov_len g n]
def mvT (t : List Nat) : Nat → Bool := if bitT t 127 then fl (fl (fl (fl (sh (bitT t)) 0) 1) 2) 7 else sh (bitT t)
set_option maxHeartbeats 4000000 in
theorem rdouble_ok (d : Nat) (h : Heap) (t : List Nat) (ht : t.length = 16) : G (callD c4 (d + 2) 23 [.agg (B t)] h) fun v h' => v = .agg (B (ov (mvT t) 128)) ∧ Keeps h h' := by
  generalize hX : (fun (v : AV) (h' : Heap) => v = .agg (B (ov (mvT t) 128)) ∧ Keeps h h') = Q
  have hbl := bl_len
  have hz := z16_len
  rw [callD_run (E := c4) [] (by kernel_rfl) Try.func23 rfl (by rw [Try.ntmps23]; simp) (by kernel_rfl)]; simp (maxSteps := 2000000) (implicitDefEqProofs := false) (disch := first | omega | (simp only [SD.down, uA, uL] <;> omega) | fail) only [Try.ntmps23, Try.results23, env_P, env_L, cutB_all, ht, Z16, TA.down, resE, oneV, ↓reduceIte, reduceCtorEq, uB, uE, uL, uA, uM, uS, uN, uX, uO, vR, vD, vL, vK, vE, vA, vM, vT]
  refine G.call (bits_ok d _ t ht) ?_
  rintro v h1 ⟨rfl, k1⟩
  have hn1 := k1.1
  simp only [next_new, next_put] at hn1
  have r1 : h1.get (h.next + 1) = some (.cells (B z16) 0 false) := by rw [k1.2 _ (by simp (maxSteps := 2000000) (implicitDefEqProofs := false) (disch := first | omega | (simp only [SD.down, uA, uL] <;> omega) | fail) only [TA.down, resE, oneV, ↓reduceIte, reduceCtorEq, uB, uE, uL, uA, uM, uS, uN, uX, uO, vR, vD, vL, vK, vE, vA, vM, vT]; omega)]; simp (maxSteps := 2000000) (implicitDefEqProofs := false) (disch := first | omega | (simp only [SD.down, uA, uL] <;> omega) | fail) only [TA.down, resE, oneV, ↓reduceIte, reduceCtorEq, uB, uE, uL, uA, uM, uS, uN, uX, uO, vR, vD, vL, vK, vE, vA, vM, vT]
  have kk : ∀ j, j < h.next → h1.get j = h.get j := fun j hj => by rw [k1.2 j (by simp (maxSteps := 2000000) (implicitDefEqProofs := false) (disch := first | omega | (simp only [SD.down, uA, uL] <;> omega) | fail) only [TA.down, resE, oneV, ↓reduceIte, reduceCtorEq, uB, uE, uL, uA, uM, uS, uN, uX, uO, vR, vD, vL, vK, vE, vA, vM, vT]; omega)]; simp (maxSteps := 2000000) (implicitDefEqProofs := false) (disch := first | omega | (simp only [SD.down, uA, uL] <;> omega) | fail) only [TA.down, resE, oneV, ↓reduceIte, reduceCtorEq, uB, uE, uL, uA, uM, uS, uN, uX, uO, vR, vD, vL, vK, vE, vA, vM, vT]
  simp (maxSteps := 2000000) (implicitDefEqProofs := false) (disch := first | omega | (simp only [SD.down, uA, uL] <;> omega) | fail) only [hbl, bl_zero (bitT t), cut_bl, over_bl, TA.down, resE, oneV, ↓reduceIte, reduceCtorEq, uB, uE, uL, uA, uM, uS, uN, uX, uO, vR, vD, vL, vK, vE, vA, vM, vT]
  rw [run_loop]
  refine loop_ind (fun j σ hh => ∃ n, n + j = 128 ∧ 1 ≤ n ∧ σ 2 = .ptr (h.next + 1) 0 ∧ σ 3 = .ptr h1.next 0 ∧ σ 4 = .ptr (h1.next + 1) 0 ∧ σ 5 = .int .i64 ((n : Nat) : Int) ∧ hh.get (h.next + 1) = some (.cells (B z16) 0 false) ∧ hh.get h1.next = some (.cells (bl (bitT t) 128) 0 false) ∧ hh.get (h1.next + 1) = some (.cells (bl (sh (bitT t)) n) 0 false) ∧ h1.next + 1 < hh.next ∧ ∀ j, j < h.next → hh.get j = h.get j) ?_ ?_ 127 _ _ _ (by simp) ?_
  · rintro mm σ hh ⟨n, hn, hn1, s2, s3, s4, s5, g1, g2, g3, hnx, hkp⟩
    obtain rfl : n = 128 := by omega
    simp (maxSteps := 2000000) (implicitDefEqProofs := false) (disch := first | omega | (simp only [SD.down, uA, uL] <;> omega) | fail) only [run_it, s2, s3, s4, s5, env_P, g1, g2, g3, hnx, hbl, get_bl, TA.down, resE, oneV, ↓reduceIte, reduceCtorEq, uB, uE, uL, uA, uM, uS, uN, uX, uO, vR, vD, vL, vK, vE, vA, vM, vT]
    cases hc : bitT t 127
    · have hm : mvT t = sh (bitT t) := by rw [mvT, hc]; rfl
      simp (maxSteps := 2000000) (implicitDefEqProofs := false) (disch := first | omega | (simp only [SD.down, uA, uL] <;> omega) | fail) only [run_it, s2, s3, s4, s5, env_P, g1, g2, g3, hnx, hbl, get_bl, Z16, TA.down, resE, oneV, ↓reduceIte, reduceCtorEq, uB, uE, uL, uA, uM, uS, uN, uX, uO, vR, vD, vL, vK, vE, vA, vM, vT]
      rw [← hm] at g3
      rw [run_loop]
      refine loop_ind (fun j σ hx => ∃ n, n + j = 128 ∧ σ 2 = .ptr (h.next + 1) 0 ∧ σ 4 = .ptr (h1.next + 1) 0 ∧ σ 6 = .ptr hh.next 0 ∧ σ 7 = .int .i64 ((n : Nat) : Int) ∧ hx.get (h.next + 1) = some (.cells (B z16) 0 false) ∧ hx.get (h1.next + 1) = some (.cells (bl (mvT t) 128) 0 false) ∧ hx.get hh.next = some (.cells (B (ov (mvT t) n)) 0 false) ∧ hh.next < hx.next ∧ ∀ j, j < h.next → hx.get j = h.get j) ?_ ?_ 128 _ _ _ (by simp) ?_
      · rintro mm σ hx ⟨n, hn, s2, s4, s6, s7, g1, g3, g4, hnx, hkp⟩
        obtain rfl : n = 128 := by omega
        have hol := ov_len (mvT t) 128
        simp (maxSteps := 2000000) (implicitDefEqProofs := false) (disch := first | omega | (simp only [SD.down, uA, uL] <;> omega) | fail) only [run_it, s2, s4, s6, s7, env_P, g1, g3, g4, hnx, hbl, get_bl, over_B, cutB_all, hol, hz, TA.down, resE, oneV, ↓reduceIte, reduceCtorEq, uB, uE, uL, uA, uM, uS, uN, uX, uO, vR, vD, vL, vK, vE, vA, vM, vT]
        subst hX
        refine G.ok ⟨rfl, by simp (maxSteps := 2000000) (implicitDefEqProofs := false) (disch := first | omega | (simp only [SD.down, uA, uL] <;> omega) | fail) only [TA.down, resE, oneV, ↓reduceIte, reduceCtorEq, uB, uE, uL, uA, uM, uS, uN, uX, uO, vR, vD, vL, vK, vE, vA, vM, vT]; omega, fun j hj => ?_⟩
        rw [get_put_ne (by omega)]
        exact hkp j hj
      · rintro j mm σ hx ⟨n, hn, s2, s4, s6, s7, g1, g3, g4, hnx, hkp⟩ ih
        have hol := ov_len (mvT t) n
        simp (maxSteps := 2000000) (implicitDefEqProofs := false) (disch := first | omega | (simp only [SD.down, uA, uL] <;> omega) | fail) only [run_it, s2, s4, s6, s7, env_P, g1, g3, g4, hnx, hbl, get_bl, over_B, cutB_all, hol, hz, TA.down, resE, oneV, ↓reduceIte, reduceCtorEq, uB, uE, uL, uA, uM, uS, uN, uX, uO, vR, vD, vL, vK, vE, vA, vM, vT]
        cases hg : mvT t n
        · simp (maxSteps := 2000000) (implicitDefEqProofs := false) (disch := first | omega | (simp only [SD.down, uA, uL] <;> omega) | fail) only [run_it, s2, s4, s6, s7, env_P, g1, g3, g4, hnx, hbl, get_bl, over_B, cutB_all, hol, hz, TA.down, resE, oneV, ↓reduceIte, reduceCtorEq, uB, uE, uL, uA, uM, uS, uN, uX, uO, vR, vD, vL, vK, vE, vA, vM, vT]
          have e : ov (mvT t) (n + 1) = ov (mvT t) n := by rw [ov, hg]; rfl
          refine ih _ _ ⟨n + 1, by omega, by simp (maxSteps := 2000000) (implicitDefEqProofs := false) (disch := first | omega | (simp only [SD.down, uA, uL] <;> omega) | fail) only [s2, TA.down, resE, oneV, ↓reduceIte, reduceCtorEq, uB, uE, uL, uA, uM, uS, uN, uX, uO, vR, vD, vL, vK, vE, vA, vM, vT], by simp (maxSteps := 2000000) (implicitDefEqProofs := false) (disch := first | omega | (simp only [SD.down, uA, uL] <;> omega) | fail) only [s4, TA.down, resE, oneV, ↓reduceIte, reduceCtorEq, uB, uE, uL, uA, uM, uS, uN, uX, uO, vR, vD, vL, vK, vE, vA, vM, vT], by simp (maxSteps := 2000000) (implicitDefEqProofs := false) (disch := first | omega | (simp only [SD.down, uA, uL] <;> omega) | fail) only [s6, TA.down, resE, oneV, ↓reduceIte, reduceCtorEq, uB, uE, uL, uA, uM, uS, uN, uX, uO, vR, vD, vL, vK, vE, vA, vM, vT], by simp (maxSteps := 2000000) (implicitDefEqProofs := false) (disch := first | omega | (simp only [SD.down, uA, uL] <;> omega) | fail) only [TA.down, resE, oneV, ↓reduceIte, reduceCtorEq, uB, uE, uL, uA, uM, uS, uN, uX, uO, vR, vD, vL, vK, vE, vA, vM, vT], g1, g3, by rw [e]; exact g4, hnx, hkp⟩
        · simp (maxSteps := 2000000) (implicitDefEqProofs := false) (disch := first | omega | (simp only [SD.down, uA, uL] <;> omega) | fail) only [run_it, s2, s4, s6, s7, env_P, g1, g3, g4, hnx, hbl, get_bl, over_B, cutB_all, hol, hz, TA.down, resE, oneV, ↓reduceIte, reduceCtorEq, uB, uE, uL, uA, uM, uS, uN, uX, uO, vR, vD, vL, vK, vE, vA, vM, vT]
          have e : ov (mvT t) (n + 1) = (ov (mvT t) n).set (n / 8) ((ov (mvT t) n).getD (n / 8) 0 + 1 * 2 ^ (n % 8)) := by rw [ov, hg]; rfl
          refine ih _ _ ⟨n + 1, by omega, by simp (maxSteps := 2000000) (implicitDefEqProofs := false) (disch := first | omega | (simp only [SD.down, uA, uL] <;> omega) | fail) only [s2, TA.down, resE, oneV, ↓reduceIte, reduceCtorEq, uB, uE, uL, uA, uM, uS, uN, uX, uO, vR, vD, vL, vK, vE, vA, vM, vT], by simp (maxSteps := 2000000) (implicitDefEqProofs := false) (disch := first | omega | (simp only [SD.down, uA, uL] <;> omega) | fail) only [s4, TA.down, resE, oneV, ↓reduceIte, reduceCtorEq, uB, uE, uL, uA, uM, uS, uN, uX, uO, vR, vD, vL, vK, vE, vA, vM, vT], by simp (maxSteps := 2000000) (implicitDefEqProofs := false) (disch := first | omega | (simp only [SD.down, uA, uL] <;> omega) | fail) only [s6, TA.down, resE, oneV, ↓reduceIte, reduceCtorEq, uB, uE, uL, uA, uM, uS, uN, uX, uO, vR, vD, vL, vK, vE, vA, vM, vT], by simp (maxSteps := 2000000) (implicitDefEqProofs := false) (disch := first | omega | (simp only [SD.down, uA, uL] <;> omega) | fail) only [TA.down, resE, oneV, ↓reduceIte, reduceCtorEq, uB, uE, uL, uA, uM, uS, uN, uX, uO, vR, vD, vL, vK, vE, vA, vM, vT], ?_, ?_, ?_, by simp (maxSteps := 2000000) (implicitDefEqProofs := false) (disch := first | omega | (simp only [SD.down, uA, uL] <;> omega) | fail) only [TA.down, resE, oneV, ↓reduceIte, reduceCtorEq, uB, uE, uL, uA, uM, uS, uN, uX, uO, vR, vD, vL, vK, vE, vA, vM, vT]; exact hnx, fun j hj => ?_⟩
          · rw [get_put_ne (by omega)]; exact g1
          · rw [get_put_ne (by omega)]; exact g3
          · rw [e]; simp (maxSteps := 2000000) (implicitDefEqProofs := false) (disch := first | omega | (simp only [SD.down, uA, uL] <;> omega) | fail) only [TA.down, resE, oneV, ↓reduceIte, reduceCtorEq, uB, uE, uL, uA, uM, uS, uN, uX, uO, vR, vD, vL, vK, vE, vA, vM, vT]
          · rw [get_put_ne (by omega)]; exact hkp j hj
      · refine ⟨0, by omega, ?_, ?_, ?_, ?_, ?_, ?_, ?_, ?_, ?_⟩
        · simp (maxSteps := 2000000) (implicitDefEqProofs := false) (disch := first | omega | (simp only [SD.down, uA, uL] <;> omega) | fail) only [s2, TA.down, resE, oneV, ↓reduceIte, reduceCtorEq, uB, uE, uL, uA, uM, uS, uN, uX, uO, vR, vD, vL, vK, vE, vA, vM, vT]
        · simp (maxSteps := 2000000) (implicitDefEqProofs := false) (disch := first | omega | (simp only [SD.down, uA, uL] <;> omega) | fail) only [s4, TA.down, resE, oneV, ↓reduceIte, reduceCtorEq, uB, uE, uL, uA, uM, uS, uN, uX, uO, vR, vD, vL, vK, vE, vA, vM, vT]
        · simp (maxSteps := 2000000) (implicitDefEqProofs := false) (disch := first | omega | (simp only [SD.down, uA, uL] <;> omega) | fail) only [TA.down, resE, oneV, ↓reduceIte, reduceCtorEq, uB, uE, uL, uA, uM, uS, uN, uX, uO, vR, vD, vL, vK, vE, vA, vM, vT]
        · simp (maxSteps := 2000000) (implicitDefEqProofs := false) (disch := first | omega | (simp only [SD.down, uA, uL] <;> omega) | fail) only [TA.down, resE, oneV, ↓reduceIte, reduceCtorEq, uB, uE, uL, uA, uM, uS, uN, uX, uO, vR, vD, vL, vK, vE, vA, vM, vT]
        · simp (maxSteps := 2000000) (implicitDefEqProofs := false) (disch := first | omega | (simp only [SD.down, uA, uL] <;> omega) | fail) only [g1, TA.down, resE, oneV, ↓reduceIte, reduceCtorEq, uB, uE, uL, uA, uM, uS, uN, uX, uO, vR, vD, vL, vK, vE, vA, vM, vT]
        · simp (maxSteps := 2000000) (implicitDefEqProofs := false) (disch := first | omega | (simp only [SD.down, uA, uL] <;> omega) | fail) only [g3, TA.down, resE, oneV, ↓reduceIte, reduceCtorEq, uB, uE, uL, uA, uM, uS, uN, uX, uO, vR, vD, vL, vK, vE, vA, vM, vT]
        · simp (maxSteps := 2000000) (implicitDefEqProofs := false) (disch := first | omega | (simp only [SD.down, uA, uL] <;> omega) | fail) only [ov, TA.down, resE, oneV, ↓reduceIte, reduceCtorEq, uB, uE, uL, uA, uM, uS, uN, uX, uO, vR, vD, vL, vK, vE, vA, vM, vT]
        · simp (maxSteps := 2000000) (implicitDefEqProofs := false) (disch := first | omega | (simp only [SD.down, uA, uL] <;> omega) | fail) only [TA.down, resE, oneV, ↓reduceIte, reduceCtorEq, uB, uE, uL, uA, uM, uS, uN, uX, uO, vR, vD, vL, vK, vE, vA, vM, vT]
          omega
        · intro j hj
          simp (maxSteps := 2000000) (implicitDefEqProofs := false) (disch := first | omega | (simp only [SD.down, uA, uL] <;> omega) | fail) only [TA.down, resE, oneV, ↓reduceIte, reduceCtorEq, uB, uE, uL, uA, uM, uS, uN, uX, uO, vR, vD, vL, vK, vE, vA, vM, vT]
          exact hkp j hj
    · have hm : mvT t = fl (fl (fl (fl (sh (bitT t)) 0) 1) 2) 7 := by rw [mvT, hc]; rfl
      simp (maxSteps := 2000000) (implicitDefEqProofs := false) (disch := first | omega | (simp only [SD.down, uA, uL] <;> omega) | fail) only [run_it, s2, s3, s4, s5, env_P, g1, g2, g3, hnx, hbl, get_bl, over_fl, Z16, TA.down, resE, oneV, ↓reduceIte, reduceCtorEq, uB, uE, uL, uA, uM, uS, uN, uX, uO, vR, vD, vL, vK, vE, vA, vM, vT]
      rw [← hm]
      rw [run_loop]
      refine loop_ind (fun j σ hx => ∃ n, n + j = 128 ∧ σ 2 = .ptr (h.next + 1) 0 ∧ σ 4 = .ptr (h1.next + 1) 0 ∧ σ 6 = .ptr hh.next 0 ∧ σ 7 = .int .i64 ((n : Nat) : Int) ∧ hx.get (h.next + 1) = some (.cells (B z16) 0 false) ∧ hx.get (h1.next + 1) = some (.cells (bl (mvT t) 128) 0 false) ∧ hx.get hh.next = some (.cells (B (ov (mvT t) n)) 0 false) ∧ hh.next < hx.next ∧ ∀ j, j < h.next → hx.get j = h.get j) ?_ ?_ 128 _ _ _ (by simp) ?_
      · rintro mm σ hx ⟨n, hn, s2, s4, s6, s7, g1, g3, g4, hnx, hkp⟩
        obtain rfl : n = 128 := by omega
        have hol := ov_len (mvT t) 128
        simp (maxSteps := 2000000) (implicitDefEqProofs := false) (disch := first | omega | (simp only [SD.down, uA, uL] <;> omega) | fail) only [run_it, s2, s4, s6, s7, env_P, g1, g3, g4, hnx, hbl, get_bl, over_B, cutB_all, hol, hz, TA.down, resE, oneV, ↓reduceIte, reduceCtorEq, uB, uE, uL, uA, uM, uS, uN, uX, uO, vR, vD, vL, vK, vE, vA, vM, vT]
        subst hX
        refine G.ok ⟨rfl, by simp (maxSteps := 2000000) (implicitDefEqProofs := false) (disch := first | omega | (simp only [SD.down, uA, uL] <;> omega) | fail) only [TA.down, resE, oneV, ↓reduceIte, reduceCtorEq, uB, uE, uL, uA, uM, uS, uN, uX, uO, vR, vD, vL, vK, vE, vA, vM, vT]; omega, fun j hj => ?_⟩
        rw [get_put_ne (by omega)]
        exact hkp j hj
      · rintro j mm σ hx ⟨n, hn, s2, s4, s6, s7, g1, g3, g4, hnx, hkp⟩ ih
        have hol := ov_len (mvT t) n
        simp (maxSteps := 2000000) (implicitDefEqProofs := false) (disch := first | omega | (simp only [SD.down, uA, uL] <;> omega) | fail) only [run_it, s2, s4, s6, s7, env_P, g1, g3, g4, hnx, hbl, get_bl, over_B, cutB_all, hol, hz, TA.down, resE, oneV, ↓reduceIte, reduceCtorEq, uB, uE, uL, uA, uM, uS, uN, uX, uO, vR, vD, vL, vK, vE, vA, vM, vT]
        cases hg : mvT t n
        · simp (maxSteps := 2000000) (implicitDefEqProofs := false) (disch := first | omega | (simp only [SD.down, uA, uL] <;> omega) | fail) only [run_it, s2, s4, s6, s7, env_P, g1, g3, g4, hnx, hbl, get_bl, over_B, cutB_all, hol, hz, TA.down, resE, oneV, ↓reduceIte, reduceCtorEq, uB, uE, uL, uA, uM, uS, uN, uX, uO, vR, vD, vL, vK, vE, vA, vM, vT]
          have e : ov (mvT t) (n + 1) = ov (mvT t) n := by rw [ov, hg]; rfl
          refine ih _ _ ⟨n + 1, by omega, by simp (maxSteps := 2000000) (implicitDefEqProofs := false) (disch := first | omega | (simp only [SD.down, uA, uL] <;> omega) | fail) only [s2, TA.down, resE, oneV, ↓reduceIte, reduceCtorEq, uB, uE, uL, uA, uM, uS, uN, uX, uO, vR, vD, vL, vK, vE, vA, vM, vT], by simp (maxSteps := 2000000) (implicitDefEqProofs := false) (disch := first | omega | (simp only [SD.down, uA, uL] <;> omega) | fail) only [s4, TA.down, resE, oneV, ↓reduceIte, reduceCtorEq, uB, uE, uL, uA, uM, uS, uN, uX, uO, vR, vD, vL, vK, vE, vA, vM, vT], by simp (maxSteps := 2000000) (implicitDefEqProofs := false) (disch := first | omega | (simp only [SD.down, uA, uL] <;> omega) | fail) only [s6, TA.down, resE, oneV, ↓reduceIte, reduceCtorEq, uB, uE, uL, uA, uM, uS, uN, uX, uO, vR, vD, vL, vK, vE, vA, vM, vT], by simp (maxSteps := 2000000) (implicitDefEqProofs := false) (disch := first | omega | (simp only [SD.down, uA, uL] <;> omega) | fail) only [TA.down, resE, oneV, ↓reduceIte, reduceCtorEq, uB, uE, uL, uA, uM, uS, uN, uX, uO, vR, vD, vL, vK, vE, vA, vM, vT], g1, g3, by rw [e]; exact g4, hnx, hkp⟩
        · simp (maxSteps := 2000000) (implicitDefEqProofs := false) (disch := first | omega | (simp only [SD.down, uA, uL] <;> omega) | fail) only [run_it, s2, s4, s6, s7, env_P, g1, g3, g4, hnx, hbl, get_bl, over_B, cutB_all, hol, hz, TA.down, resE, oneV, ↓reduceIte, reduceCtorEq, uB, uE, uL, uA, uM, uS, uN, uX, uO, vR, vD, vL, vK, vE, vA, vM, vT]
          have e : ov (mvT t) (n + 1) = (ov (mvT t) n).set (n / 8) ((ov (mvT t) n).getD (n / 8) 0 + 1 * 2 ^ (n % 8)) := by rw [ov, hg]; rfl
          refine ih _ _ ⟨n + 1, by omega, by simp (maxSteps := 2000000) (implicitDefEqProofs := false) (disch := first | omega | (simp only [SD.down, uA, uL] <;> omega) | fail) only [s2, TA.down, resE, oneV, ↓reduceIte, reduceCtorEq, uB, uE, uL, uA, uM, uS, uN, uX, uO, vR, vD, vL, vK, vE, vA, vM, vT], by simp (maxSteps := 2000000) (implicitDefEqProofs := false) (disch := first | omega | (simp only [SD.down, uA, uL] <;> omega) | fail) only [s4, TA.down, resE, oneV, ↓reduceIte, reduceCtorEq, uB, uE, uL, uA, uM, uS, uN, uX, uO, vR, vD, vL, vK, vE, vA, vM, vT], by simp (maxSteps := 2000000) (implicitDefEqProofs := false) (disch := first | omega | (simp only [SD.down, uA, uL] <;> omega) | fail) only [s6, TA.down, resE, oneV, ↓reduceIte, reduceCtorEq, uB, uE, uL, uA, uM, uS, uN, uX, uO, vR, vD, vL, vK, vE, vA, vM, vT], by simp (maxSteps := 2000000) (implicitDefEqProofs := false) (disch := first | omega | (simp only [SD.down, uA, uL] <;> omega) | fail) only [TA.down, resE, oneV, ↓reduceIte, reduceCtorEq, uB, uE, uL, uA, uM, uS, uN, uX, uO, vR, vD, vL, vK, vE, vA, vM, vT], ?_, ?_, ?_, by simp (maxSteps := 2000000) (implicitDefEqProofs := false) (disch := first | omega | (simp only [SD.down, uA, uL] <;> omega) | fail) only [TA.down, resE, oneV, ↓reduceIte, reduceCtorEq, uB, uE, uL, uA, uM, uS, uN, uX, uO, vR, vD, vL, vK, vE, vA, vM, vT]; exact hnx, fun j hj => ?_⟩
          · rw [get_put_ne (by omega)]; exact g1
          · rw [get_put_ne (by omega)]; exact g3
          · rw [e]; simp (maxSteps := 2000000) (implicitDefEqProofs := false) (disch := first | omega | (simp only [SD.down, uA, uL] <;> omega) | fail) only [TA.down, resE, oneV, ↓reduceIte, reduceCtorEq, uB, uE, uL, uA, uM, uS, uN, uX, uO, vR, vD, vL, vK, vE, vA, vM, vT]
          · rw [get_put_ne (by omega)]; exact hkp j hj
      · refine ⟨0, by omega, ?_, ?_, ?_, ?_, ?_, ?_, ?_, ?_, ?_⟩
        · simp (maxSteps := 2000000) (implicitDefEqProofs := false) (disch := first | omega | (simp only [SD.down, uA, uL] <;> omega) | fail) only [s2, TA.down, resE, oneV, ↓reduceIte, reduceCtorEq, uB, uE, uL, uA, uM, uS, uN, uX, uO, vR, vD, vL, vK, vE, vA, vM, vT]
        · simp (maxSteps := 2000000) (implicitDefEqProofs := false) (disch := first | omega | (simp only [SD.down, uA, uL] <;> omega) | fail) only [s4, TA.down, resE, oneV, ↓reduceIte, reduceCtorEq, uB, uE, uL, uA, uM, uS, uN, uX, uO, vR, vD, vL, vK, vE, vA, vM, vT]
        · simp (maxSteps := 2000000) (implicitDefEqProofs := false) (disch := first | omega | (simp only [SD.down, uA, uL] <;> omega) | fail) only [TA.down, resE, oneV, ↓reduceIte, reduceCtorEq, uB, uE, uL, uA, uM, uS, uN, uX, uO, vR, vD, vL, vK, vE, vA, vM, vT]
        · simp (maxSteps := 2000000) (implicitDefEqProofs := false) (disch := first | omega | (simp only [SD.down, uA, uL] <;> omega) | fail) only [TA.down, resE, oneV, ↓reduceIte, reduceCtorEq, uB, uE, uL, uA, uM, uS, uN, uX, uO, vR, vD, vL, vK, vE, vA, vM, vT]
        · simp (maxSteps := 2000000) (implicitDefEqProofs := false) (disch := first | omega | (simp only [SD.down, uA, uL] <;> omega) | fail) only [g1, TA.down, resE, oneV, ↓reduceIte, reduceCtorEq, uB, uE, uL, uA, uM, uS, uN, uX, uO, vR, vD, vL, vK, vE, vA, vM, vT]
        · simp (maxSteps := 2000000) (implicitDefEqProofs := false) (disch := first | omega | (simp only [SD.down, uA, uL] <;> omega) | fail) only [g3, TA.down, resE, oneV, ↓reduceIte, reduceCtorEq, uB, uE, uL, uA, uM, uS, uN, uX, uO, vR, vD, vL, vK, vE, vA, vM, vT]
        · simp (maxSteps := 2000000) (implicitDefEqProofs := false) (disch := first | omega | (simp only [SD.down, uA, uL] <;> omega) | fail) only [ov, TA.down, resE, oneV, ↓reduceIte, reduceCtorEq, uB, uE, uL, uA, uM, uS, uN, uX, uO, vR, vD, vL, vK, vE, vA, vM, vT]
        · simp (maxSteps := 2000000) (implicitDefEqProofs := false) (disch := first | omega | (simp only [SD.down, uA, uL] <;> omega) | fail) only [TA.down, resE, oneV, ↓reduceIte, reduceCtorEq, uB, uE, uL, uA, uM, uS, uN, uX, uO, vR, vD, vL, vK, vE, vA, vM, vT]
          omega
        · intro j hj
          simp (maxSteps := 2000000) (implicitDefEqProofs := false) (disch := first | omega | (simp only [SD.down, uA, uL] <;> omega) | fail) only [TA.down, resE, oneV, ↓reduceIte, reduceCtorEq, uB, uE, uL, uA, uM, uS, uN, uX, uO, vR, vD, vL, vK, vE, vA, vM, vT]
          exact hkp j hj
  · rintro j mm σ hh ⟨n, hn, hn1, s2, s3, s4, s5, g1, g2, g3, hnx, hkp⟩ ih
    have hv : overE n [AV.bool (bitT t (n - 1))] (bl (sh (bitT t)) n) = some (bl (sh (bitT t)) (n + 1)) := by
      rw [← over_bl1 _ n (by omega)]
      congr 3
      have : decide (n = 0) = false := decide_eq_false (by omega)
      simp [sh, this]
    simp (maxSteps := 2000000) (implicitDefEqProofs := false) (disch := first | omega | (simp only [SD.down, uA, uL] <;> omega) | fail) only [run_it, s2, s3, s4, s5, env_P, g1, g2, g3, hnx, hbl, get_bl, hv, TA.down, resE, oneV, ↓reduceIte, reduceCtorEq, uB, uE, uL, uA, uM, uS, uN, uX, uO, vR, vD, vL, vK, vE, vA, vM, vT]
    refine ih _ _ ⟨n + 1, by omega, by omega, by simp (maxSteps := 2000000) (implicitDefEqProofs := false) (disch := first | omega | (simp only [SD.down, uA, uL] <;> omega) | fail) only [s2, TA.down, resE, oneV, ↓reduceIte, reduceCtorEq, uB, uE, uL, uA, uM, uS, uN, uX, uO, vR, vD, vL, vK, vE, vA, vM, vT], by simp (maxSteps := 2000000) (implicitDefEqProofs := false) (disch := first | omega | (simp only [SD.down, uA, uL] <;> omega) | fail) only [s3, TA.down, resE, oneV, ↓reduceIte, reduceCtorEq, uB, uE, uL, uA, uM, uS, uN, uX, uO, vR, vD, vL, vK, vE, vA, vM, vT], by simp (maxSteps := 2000000) (implicitDefEqProofs := false) (disch := first | omega | (simp only [SD.down, uA, uL] <;> omega) | fail) only [s4, TA.down, resE, oneV, ↓reduceIte, reduceCtorEq, uB, uE, uL, uA, uM, uS, uN, uX, uO, vR, vD, vL, vK, vE, vA, vM, vT], by simp (maxSteps := 2000000) (implicitDefEqProofs := false) (disch := first | omega | (simp only [SD.down, uA, uL] <;> omega) | fail) only [TA.down, resE, oneV, ↓reduceIte, reduceCtorEq, uB, uE, uL, uA, uM, uS, uN, uX, uO, vR, vD, vL, vK, vE, vA, vM, vT], ?_, ?_, ?_, by simp (maxSteps := 2000000) (implicitDefEqProofs := false) (disch := first | omega | (simp only [SD.down, uA, uL] <;> omega) | fail) only [TA.down, resE, oneV, ↓reduceIte, reduceCtorEq, uB, uE, uL, uA, uM, uS, uN, uX, uO, vR, vD, vL, vK, vE, vA, vM, vT]; omega, fun j hj => ?_⟩
    · rw [get_put_ne (by omega)]; exact g1
    · rw [get_put_ne (by omega)]; exact g2
    · simp (maxSteps := 2000000) (implicitDefEqProofs := false) (disch := first | omega | (simp only [SD.down, uA, uL] <;> omega) | fail) only [TA.down, resE, oneV, ↓reduceIte, reduceCtorEq, uB, uE, uL, uA, uM, uS, uN, uX, uO, vR, vD, vL, vK, vE, vA, vM, vT]
    · rw [get_put_ne (by omega)]; exact hkp j hj
  · refine ⟨1, by omega, by omega, ?_, ?_, ?_, ?_, ?_, ?_, ?_, ?_, ?_⟩
    · simp (maxSteps := 2000000) (implicitDefEqProofs := false) (disch := first | omega | (simp only [SD.down, uA, uL] <;> omega) | fail) only [TA.down, resE, oneV, ↓reduceIte, reduceCtorEq, uB, uE, uL, uA, uM, uS, uN, uX, uO, vR, vD, vL, vK, vE, vA, vM, vT]
    · simp (maxSteps := 2000000) (implicitDefEqProofs := false) (disch := first | omega | (simp only [SD.down, uA, uL] <;> omega) | fail) only [TA.down, resE, oneV, ↓reduceIte, reduceCtorEq, uB, uE, uL, uA, uM, uS, uN, uX, uO, vR, vD, vL, vK, vE, vA, vM, vT]
    · simp (maxSteps := 2000000) (implicitDefEqProofs := false) (disch := first | omega | (simp only [SD.down, uA, uL] <;> omega) | fail) only [TA.down, resE, oneV, ↓reduceIte, reduceCtorEq, uB, uE, uL, uA, uM, uS, uN, uX, uO, vR, vD, vL, vK, vE, vA, vM, vT]
    · simp (maxSteps := 2000000) (implicitDefEqProofs := false) (disch := first | omega | (simp only [SD.down, uA, uL] <;> omega) | fail) only [TA.down, resE, oneV, ↓reduceIte, reduceCtorEq, uB, uE, uL, uA, uM, uS, uN, uX, uO, vR, vD, vL, vK, vE, vA, vM, vT]
    · simp (maxSteps := 2000000) (implicitDefEqProofs := false) (disch := first | omega | (simp only [SD.down, uA, uL] <;> omega) | fail) only [r1, TA.down, resE, oneV, ↓reduceIte, reduceCtorEq, uB, uE, uL, uA, uM, uS, uN, uX, uO, vR, vD, vL, vK, vE, vA, vM, vT]
    · simp (maxSteps := 2000000) (implicitDefEqProofs := false) (disch := first | omega | (simp only [SD.down, uA, uL] <;> omega) | fail) only [TA.down, resE, oneV, ↓reduceIte, reduceCtorEq, uB, uE, uL, uA, uM, uS, uN, uX, uO, vR, vD, vL, vK, vE, vA, vM, vT]
    · simp (maxSteps := 2000000) (implicitDefEqProofs := false) (disch := first | omega | (simp only [SD.down, uA, uL] <;> omega) | fail) only [bl_zero (bitT t), ← bl_sh (bitT t) (bitT t), TA.down, resE, oneV, ↓reduceIte, reduceCtorEq, uB, uE, uL, uA, uM, uS, uN, uX, uO, vR, vD, vL, vK, vE, vA, vM, vT]
    · simp (maxSteps := 2000000) (implicitDefEqProofs := false) (disch := first | omega | (simp only [SD.down, uA, uL] <;> omega) | fail) only [TA.down, resE, oneV, ↓reduceIte, reduceCtorEq, uB, uE, uL, uA, uM, uS, uN, uX, uO, vR, vD, vL, vK, vE, vA, vM, vT]
      omega
    · intro j hj
      simp (maxSteps := 2000000) (implicitDefEqProofs := false) (disch := first | omega | (simp only [SD.down, uA, uL] <;> omega) | fail) only [TA.down, resE, oneV, ↓reduceIte, reduceCtorEq, uB, uE, uL, uA, uM, uS, uN, uX, uO, vR, vD, vL, vK, vE, vA, vM, vT]
      exact kk j hj
end Go.Proofs.Ythcbefolifpbpaa.R.D