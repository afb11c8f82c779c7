/- Of this program, for all inputs: contracts. No condition but those in the theorems. -/
import Derived.Test.YthcbefolifpbpaaE10
namespace Go.Proofs.Ythcbefolifpbpaa.R
open Go Go.Ai Go.Aw Go.Proofs
open Nat renaming reduceBEq → uB, reduceEqDiff → uE, reduceLT → uL, reduceAdd → uA, reduceMul → uM, reduceSub → uS, reduceAnd → uN, reduceXor → uX, reduceOr → uO
open Int renaming reduceMod → vR, reduceDiv → vD, reduceLT → vL, reduceLE → vK, reduceEq → vE, reduceAdd → vA, reduceMul → vM, reduceToNat → vT
set_option linter.unusedSimpArgs false
set_option linter.unusedVariables false
set_option maxRecDepth 10000
def dblR (t : List Nat) : List Nat := D.ov (D.mvT t) 128
theorem dblR_len (t : List Nat) : (dblR t).length = 16 := D.ov_len ..
/-- a table over a block -/
def tB1 (f : List Nat → List Nat) (args : List AV) : Option AV := match args with
  | [.agg b] => match natsOf b with
    | some bl => if bl.length = 16 then some (.agg (B (f bl))) else none
    | none => none
  | _ => none
theorem tB1_B (f : List Nat → List Nat) (b : List Nat) (hb : b.length = 16) : tB1 f [.agg (B b)] = some (.agg (B (f (M b)))) := by
  simp only [tB1, natsOf_B]
  rw [if_pos (by simp [M, hb])]
theorem tB1_ok {E : Env} {d n : Nat} {f : List Nat → List Nat} (hc : ∀ h b, b.length = 16 → G (callD E d n [.agg (B b)] h) fun v h' => v = .agg (B (f b)) ∧ ∀ j, j < h.next → h'.get j = h.get j) :
    ∀ args v, tB1 f args = some v → plainW v = true ∧ ∀ h : Heap, ∃ h', callD E d n args h = some (v, h') ∧ ∀ j, j < h.next → h'.get j = h.get j := by
  intro args v h
  unfold tB1 at h
  split at h
  · split at h
    · rename_i bl h1
      split at h
      · rename_i hl
        cases h
        rw [natsOf_eq h1]
        refine ⟨plainB _, fun h => ?_⟩
        obtain ⟨v, h', e, rfl, k⟩ := hc h bl hl
        exact ⟨h', e, k⟩
      · cases h
    · cases h
  · cases h
noncomputable def c5 : Env := c4.memo1 23 (tB1 dblR)
theorem c5_ok : c5.Ok := Env.memo1_ok c4_ok (d1 := 2) (tB1_ok fun h b hb => (D.rdouble_ok 0 h b hb).mono fun v h' ⟨e, k⟩ => ⟨e, k.2⟩)
theorem q23 (d : Nat) (t : List Nat) (h : Heap) (ht : t.length = 16) : callD c5 (d + 1) 23 [.agg (B t)] h = some (.agg (B (dblR (M t))), h) := memo_call (t := tB1 dblR) rfl (tB1_B _ t ht) d h
theorem q33' (d : Nat) (k b : List Nat) (h : Heap) (hk : k.length = 32) (hb : b.length = 16) : callD c5 (d + 1) 33 [.agg (B k), .agg (B b)] h = some (.agg (B (rseal (M k) (M b))), h) := memo_call (t := tKB rseal) rfl (tKB_B _ k b hk hb) d h
theorem q35' (d : Nat) (k b : List Nat) (h : Heap) (hk : k.length = 32) (hb : b.length = 16) : callD c5 (d + 1) 35 [.agg (B k), .agg (B b)] h = some (.agg (B (ropen (M k) (M b))), h) := memo_call (t := tKB ropen) rfl (tKB_B _ k b hk hb) d h
end Go.Proofs.Ythcbefolifpbpaa.R
namespace Go.Proofs.Ythcbefolifpbpaa.R.X
open Go Go.Ai Go.Aw Go.Proofs
open Nat renaming reduceBEq → uB, reduceEqDiff → uE, reduceLT → uL, reduceAdd → uA, reduceMul → uM, reduceSub → uS, reduceAnd → uN, reduceXor → uX, reduceOr → uO
open Int renaming reduceMod → vR, reduceDiv → vD, reduceLT → vL, reduceLE → vK, reduceEq → vE, reduceAdd → vA, reduceMul → vM, reduceToNat → vT
set_option linter.unusedSimpArgs false
set_option linter.unusedVariables false
set_option maxRecDepth 10000
theorem env_P : c5.P = Try.prog := rfl
theorem env_L : c5.L = 100000 := rfl
def twR (T : List Nat) : Nat → List Nat
  | 0 => T
  | k + 1 => dblR (M (twR T k))
theorem twR_len {T : List Nat} (hT : T.length = 16) : ∀ k, (twR T k).length = 16
  | 0 => hT
  | _ + 1 => dblR_len _
def nums (n : Nat) : Nat → List Nat
  | 0 => List.replicate 16 0
  | i + 1 => (nums n i).set i (n / 256 ^ i % 256)
theorem nums_len (n : Nat) : ∀ i, (nums n i).length = 16
  | 0 => by simp [nums]
  | i + 1 => by simp [nums, nums_len n i]
def tweakR (kt : List Nat) (n k : Nat) : List Nat := twR (rseal (M kt) (M (nums n 8))) k
theorem tweakR_len (kt : List Nat) (n k : Nat) : (tweakR kt n k).length = 16 := twR_len (rseal_len ..) k
set_option maxHeartbeats 16000000 in
theorem tweak_ok (d : Nat) (h : Heap) (kt : List Nat) (hkt : kt.length = 32) (n : Nat) (hn : n < 18446744073709551616) (k : Nat) (hk : k < 4) : G (callD c5 (d + 2) 32 [.agg (B kt), .int .u64 (n : Int), .int .i64 (k : Int)] h) fun v h' => v = .agg (B (tweakR kt n k)) ∧ Keeps h h' := by
  generalize hX : (fun (v : AV) (h' : Heap) => v = .agg (B (tweakR kt n k)) ∧ Keeps h h') = Q
  have hz : (List.replicate 16 0).length = 16 := rfl
  rw [callD_run (E := c5) [] (by kernel_rfl) Try.func32 rfl (by rw [Try.ntmps32]; simp) (by kernel_rfl)]; simp (maxSteps := 2000000) (implicitDefEqProofs := false) (disch := first | omega | (simp only [SD.down, uA, uL] <;> omega) | fail) only [Try.ntmps32, Try.results32, env_P, env_L, B_rep, TA.down, resE, oneV, ↓reduceIte, reduceCtorEq, uB, uE, uL, uA, uM, uS, uN, uX, uO, vR, vD, vL, vK, vE, vA, vM, vT]
  rw [run_loop]
  refine loop_ind (fun j σ hh => ∃ i m, i + j = 8 ∧ m < 18446744073709551616 ∧ m = n / 256 ^ i ∧ σ 1 = .int .u64 (m : Int) ∧ σ 2 = .int .i64 (k : Int) ∧ σ 3 = .ptr h.next 0 ∧ σ 6 = .ptr (h.next + 1) 0 ∧ σ 7 = .ptr (h.next + 2) 0 ∧ σ 8 = .int .i64 (i : Int) ∧ hh.get h.next = some (.cells (B kt) 0 false) ∧ hh.get (h.next + 1) = some (.cells (B (List.replicate 16 0)) 0 false) ∧ hh.get (h.next + 2) = some (.cells (B (nums n i)) 0 false) ∧ h.next + 3 ≤ hh.next ∧ ∀ j, j < h.next → hh.get j = h.get j) ?_ ?_ 8 _ _ _ (by simp) ?_
  · rintro mm σ hh ⟨i, m, hi, hm, hme, s1, s2, s3, s6, s7, s8, g0, g1, g2, hnx, hf⟩
    obtain rfl : i = 8 := by omega
    have ln := nums_len n 8
    have lt := rseal_len (M kt) (M (nums n 8))
    simp (maxSteps := 2000000) (implicitDefEqProofs := false) (disch := first | omega | (simp only [SD.down, uA, uL] <;> omega) | fail) only [run_it, s1, s2, s3, s6, s7, s8, g0, g1, g2, cutB_all, hkt, ln, q33', over_B, lt, env_P, TA.down, resE, oneV, ↓reduceIte, reduceCtorEq, uB, uE, uL, uA, uM, uS, uN, uX, uO, vR, vD, vL, vK, vE, vA, vM, vT]
    rw [run_loop]
    refine loop_ind (fun j σ hh => ∃ i, i + j = k ∧ σ 2 = .int .i64 (k : Int) ∧ σ 6 = .ptr (h.next + 1) 0 ∧ σ 7 = .ptr (h.next + 2) 0 ∧ σ 9 = .int .i64 (i : Int) ∧ hh.get (h.next + 1) = some (.cells (B (List.replicate 16 0)) 0 false) ∧ hh.get (h.next + 2) = some (.cells (B (tweakR kt n i)) 0 false) ∧ h.next + 3 ≤ hh.next ∧ ∀ j, j < h.next → hh.get j = h.get j) ?_ ?_ k _ _ _ (by simp; omega) ?_
    · rintro mm σ hh ⟨i, hi, s2, s6, s7, s9, g1, g2, hnx, hf⟩
      obtain rfl : i = k := by omega
      have lw := tweakR_len kt n i
      simp (maxSteps := 2000000) (implicitDefEqProofs := false) (disch := first | omega | (simp only [SD.down, uA, uL] <;> omega) | fail) only [run_it, s2, s6, s7, s9, g1, g2, cutB_all, over_B, lw, hz, env_P, TA.down, resE, oneV, ↓reduceIte, reduceCtorEq, uB, uE, uL, uA, uM, uS, uN, uX, uO, vR, vD, vL, vK, vE, vA, vM, vT]
      subst hX
      refine G.ok ⟨rfl, ?_, fun j hj => ?_⟩
      · simp (maxSteps := 2000000) (implicitDefEqProofs := false) (disch := first | omega | (simp only [SD.down, uA, uL] <;> omega) | fail) only [TA.down, resE, oneV, ↓reduceIte, reduceCtorEq, uB, uE, uL, uA, uM, uS, uN, uX, uO, vR, vD, vL, vK, vE, vA, vM, vT]
        omega
      · simp (maxSteps := 2000000) (implicitDefEqProofs := false) (disch := first | omega | (simp only [SD.down, uA, uL] <;> omega) | fail) only [hf j hj, TA.down, resE, oneV, ↓reduceIte, reduceCtorEq, uB, uE, uL, uA, uM, uS, uN, uX, uO, vR, vD, vL, vK, vE, vA, vM, vT]
    · rintro j mm σ hh ⟨i, hi, s2, s6, s7, s9, g1, g2, hnx, hf⟩ ih
      have lw := tweakR_len kt n i
      have ld := dblR_len (M (tweakR kt n i))
      have hik : i < k := by omega
      simp (maxSteps := 2000000) (implicitDefEqProofs := false) (disch := first | omega | (simp only [SD.down, uA, uL] <;> omega) | fail) only [run_it, s2, s6, s7, s9, g1, g2, cutB_all, over_B, lw, ld, q23, env_P, TA.down, resE, oneV, ↓reduceIte, reduceCtorEq, uB, uE, uL, uA, uM, uS, uN, uX, uO, vR, vD, vL, vK, vE, vA, vM, vT]
      refine ih _ _ ⟨i + 1, by omega, by simp (maxSteps := 2000000) (implicitDefEqProofs := false) (disch := first | omega | (simp only [SD.down, uA, uL] <;> omega) | fail) only [s2, TA.down, resE, oneV, ↓reduceIte, reduceCtorEq, uB, uE, uL, uA, uM, uS, uN, uX, uO, vR, vD, vL, vK, vE, vA, vM, vT], by simp (maxSteps := 2000000) (implicitDefEqProofs := false) (disch := first | omega | (simp only [SD.down, uA, uL] <;> omega) | fail) only [s6, TA.down, resE, oneV, ↓reduceIte, reduceCtorEq, uB, uE, uL, uA, uM, uS, uN, uX, uO, vR, vD, vL, vK, vE, vA, vM, vT], by simp (maxSteps := 2000000) (implicitDefEqProofs := false) (disch := first | omega | (simp only [SD.down, uA, uL] <;> omega) | fail) only [s7, TA.down, resE, oneV, ↓reduceIte, reduceCtorEq, uB, uE, uL, uA, uM, uS, uN, uX, uO, vR, vD, vL, vK, vE, vA, vM, vT], by simp (maxSteps := 2000000) (implicitDefEqProofs := false) (disch := first | omega | (simp only [SD.down, uA, uL] <;> omega) | fail) only [TA.down, resE, oneV, ↓reduceIte, reduceCtorEq, uB, uE, uL, uA, uM, uS, uN, uX, uO, vR, vD, vL, vK, vE, vA, vM, vT], by simp (maxSteps := 2000000) (implicitDefEqProofs := false) (disch := first | omega | (simp only [SD.down, uA, uL] <;> omega) | fail) only [g1, TA.down, resE, oneV, ↓reduceIte, reduceCtorEq, uB, uE, uL, uA, uM, uS, uN, uX, uO, vR, vD, vL, vK, vE, vA, vM, vT], by simp (maxSteps := 2000000) (implicitDefEqProofs := false) (disch := first | omega | (simp only [SD.down, uA, uL] <;> omega) | fail) only [TA.down, resE, oneV, ↓reduceIte, reduceCtorEq, uB, uE, uL, uA, uM, uS, uN, uX, uO, vR, vD, vL, vK, vE, vA, vM, vT]; rfl, by simp (maxSteps := 2000000) (implicitDefEqProofs := false) (disch := first | omega | (simp only [SD.down, uA, uL] <;> omega) | fail) only [TA.down, resE, oneV, ↓reduceIte, reduceCtorEq, uB, uE, uL, uA, uM, uS, uN, uX, uO, vR, vD, vL, vK, vE, vA, vM, vT]; omega, fun j hj => by simp (maxSteps := 2000000) (implicitDefEqProofs := false) (disch := first | omega | (simp only [SD.down, uA, uL] <;> omega) | fail) only [hf j hj, TA.down, resE, oneV, ↓reduceIte, reduceCtorEq, uB, uE, uL, uA, uM, uS, uN, uX, uO, vR, vD, vL, vK, vE, vA, vM, vT]⟩
    · refine ⟨0, by omega, by simp (maxSteps := 2000000) (implicitDefEqProofs := false) (disch := first | omega | (simp only [SD.down, uA, uL] <;> omega) | fail) only [s2, TA.down, resE, oneV, ↓reduceIte, reduceCtorEq, uB, uE, uL, uA, uM, uS, uN, uX, uO, vR, vD, vL, vK, vE, vA, vM, vT], by simp (maxSteps := 2000000) (implicitDefEqProofs := false) (disch := first | omega | (simp only [SD.down, uA, uL] <;> omega) | fail) only [s6, TA.down, resE, oneV, ↓reduceIte, reduceCtorEq, uB, uE, uL, uA, uM, uS, uN, uX, uO, vR, vD, vL, vK, vE, vA, vM, vT], by simp (maxSteps := 2000000) (implicitDefEqProofs := false) (disch := first | omega | (simp only [SD.down, uA, uL] <;> omega) | fail) only [s7, TA.down, resE, oneV, ↓reduceIte, reduceCtorEq, uB, uE, uL, uA, uM, uS, uN, uX, uO, vR, vD, vL, vK, vE, vA, vM, vT], by simp (maxSteps := 2000000) (implicitDefEqProofs := false) (disch := first | omega | (simp only [SD.down, uA, uL] <;> omega) | fail) only [TA.down, resE, oneV, ↓reduceIte, reduceCtorEq, uB, uE, uL, uA, uM, uS, uN, uX, uO, vR, vD, vL, vK, vE, vA, vM, vT], by simp (maxSteps := 2000000) (implicitDefEqProofs := false) (disch := first | omega | (simp only [SD.down, uA, uL] <;> omega) | fail) only [g1, TA.down, resE, oneV, ↓reduceIte, reduceCtorEq, uB, uE, uL, uA, uM, uS, uN, uX, uO, vR, vD, vL, vK, vE, vA, vM, vT], by simp (maxSteps := 2000000) (implicitDefEqProofs := false) (disch := first | omega | (simp only [SD.down, uA, uL] <;> omega) | fail) only [TA.down, resE, oneV, ↓reduceIte, reduceCtorEq, uB, uE, uL, uA, uM, uS, uN, uX, uO, vR, vD, vL, vK, vE, vA, vM, vT]; rfl, by simp (maxSteps := 2000000) (implicitDefEqProofs := false) (disch := first | omega | (simp only [SD.down, uA, uL] <;> omega) | fail) only [TA.down, resE, oneV, ↓reduceIte, reduceCtorEq, uB, uE, uL, uA, uM, uS, uN, uX, uO, vR, vD, vL, vK, vE, vA, vM, vT]; omega, fun j hj => by simp (maxSteps := 2000000) (implicitDefEqProofs := false) (disch := first | omega | (simp only [SD.down, uA, uL] <;> omega) | fail) only [hf j hj, TA.down, resE, oneV, ↓reduceIte, reduceCtorEq, uB, uE, uL, uA, uM, uS, uN, uX, uO, vR, vD, vL, vK, vE, vA, vM, vT]⟩
  · rintro j mm σ hh ⟨i, m, hi, hm, hme, s1, s2, s3, s6, s7, s8, g0, g1, g2, hnx, hf⟩ ih
    have ln := nums_len n i
    have hi8 : i < 8 := by omega
    simp (maxSteps := 2000000) (implicitDefEqProofs := false) (disch := first | omega | (simp only [SD.down, uA, uL] <;> omega) | fail) only [run_it, s1, s2, s3, s6, s7, s8, g0, g1, g2, env_P, TA.down, resE, oneV, ↓reduceIte, reduceCtorEq, uB, uE, uL, uA, uM, uS, uN, uX, uO, vR, vD, vL, vK, vE, vA, vM, vT]
    refine ih _ _ ⟨i + 1, m / 256, by omega, by omega, by rw [hme, Nat.div_div_eq_div_mul, ← Nat.pow_succ], by simp (maxSteps := 2000000) (implicitDefEqProofs := false) (disch := first | omega | (simp only [SD.down, uA, uL] <;> omega) | fail) only [TA.down, resE, oneV, ↓reduceIte, reduceCtorEq, uB, uE, uL, uA, uM, uS, uN, uX, uO, vR, vD, vL, vK, vE, vA, vM, vT], by simp (maxSteps := 2000000) (implicitDefEqProofs := false) (disch := first | omega | (simp only [SD.down, uA, uL] <;> omega) | fail) only [s2, TA.down, resE, oneV, ↓reduceIte, reduceCtorEq, uB, uE, uL, uA, uM, uS, uN, uX, uO, vR, vD, vL, vK, vE, vA, vM, vT], by simp (maxSteps := 2000000) (implicitDefEqProofs := false) (disch := first | omega | (simp only [SD.down, uA, uL] <;> omega) | fail) only [s3, TA.down, resE, oneV, ↓reduceIte, reduceCtorEq, uB, uE, uL, uA, uM, uS, uN, uX, uO, vR, vD, vL, vK, vE, vA, vM, vT], by simp (maxSteps := 2000000) (implicitDefEqProofs := false) (disch := first | omega | (simp only [SD.down, uA, uL] <;> omega) | fail) only [s6, TA.down, resE, oneV, ↓reduceIte, reduceCtorEq, uB, uE, uL, uA, uM, uS, uN, uX, uO, vR, vD, vL, vK, vE, vA, vM, vT], by simp (maxSteps := 2000000) (implicitDefEqProofs := false) (disch := first | omega | (simp only [SD.down, uA, uL] <;> omega) | fail) only [s7, TA.down, resE, oneV, ↓reduceIte, reduceCtorEq, uB, uE, uL, uA, uM, uS, uN, uX, uO, vR, vD, vL, vK, vE, vA, vM, vT], by simp (maxSteps := 2000000) (implicitDefEqProofs := false) (disch := first | omega | (simp only [SD.down, uA, uL] <;> omega) | fail) only [TA.down, resE, oneV, ↓reduceIte, reduceCtorEq, uB, uE, uL, uA, uM, uS, uN, uX, uO, vR, vD, vL, vK, vE, vA, vM, vT], by simp (maxSteps := 2000000) (implicitDefEqProofs := false) (disch := first | omega | (simp only [SD.down, uA, uL] <;> omega) | fail) only [g0, TA.down, resE, oneV, ↓reduceIte, reduceCtorEq, uB, uE, uL, uA, uM, uS, uN, uX, uO, vR, vD, vL, vK, vE, vA, vM, vT], by simp (maxSteps := 2000000) (implicitDefEqProofs := false) (disch := first | omega | (simp only [SD.down, uA, uL] <;> omega) | fail) only [g1, TA.down, resE, oneV, ↓reduceIte, reduceCtorEq, uB, uE, uL, uA, uM, uS, uN, uX, uO, vR, vD, vL, vK, vE, vA, vM, vT], ?_, by simp (maxSteps := 2000000) (implicitDefEqProofs := false) (disch := first | omega | (simp only [SD.down, uA, uL] <;> omega) | fail) only [TA.down, resE, oneV, ↓reduceIte, reduceCtorEq, uB, uE, uL, uA, uM, uS, uN, uX, uO, vR, vD, vL, vK, vE, vA, vM, vT]; omega, fun j hj => by simp (maxSteps := 2000000) (implicitDefEqProofs := false) (disch := first | omega | (simp only [SD.down, uA, uL] <;> omega) | fail) only [hf j hj, TA.down, resE, oneV, ↓reduceIte, reduceCtorEq, uB, uE, uL, uA, uM, uS, uN, uX, uO, vR, vD, vL, vK, vE, vA, vM, vT]⟩
    rw [nums, ← hme]
    simp (maxSteps := 2000000) (implicitDefEqProofs := false) (disch := first | omega | (simp only [SD.down, uA, uL] <;> omega) | fail) only [TA.down, resE, oneV, ↓reduceIte, reduceCtorEq, uB, uE, uL, uA, uM, uS, uN, uX, uO, vR, vD, vL, vK, vE, vA, vM, vT]
  · refine ⟨0, n, by omega, hn, by simp, by simp (maxSteps := 2000000) (implicitDefEqProofs := false) (disch := first | omega | (simp only [SD.down, uA, uL] <;> omega) | fail) only [TA.down, resE, oneV, ↓reduceIte, reduceCtorEq, uB, uE, uL, uA, uM, uS, uN, uX, uO, vR, vD, vL, vK, vE, vA, vM, vT], by simp (maxSteps := 2000000) (implicitDefEqProofs := false) (disch := first | omega | (simp only [SD.down, uA, uL] <;> omega) | fail) only [TA.down, resE, oneV, ↓reduceIte, reduceCtorEq, uB, uE, uL, uA, uM, uS, uN, uX, uO, vR, vD, vL, vK, vE, vA, vM, vT], by simp (maxSteps := 2000000) (implicitDefEqProofs := false) (disch := first | omega | (simp only [SD.down, uA, uL] <;> omega) | fail) only [TA.down, resE, oneV, ↓reduceIte, reduceCtorEq, uB, uE, uL, uA, uM, uS, uN, uX, uO, vR, vD, vL, vK, vE, vA, vM, vT], by simp (maxSteps := 2000000) (implicitDefEqProofs := false) (disch := first | omega | (simp only [SD.down, uA, uL] <;> omega) | fail) only [TA.down, resE, oneV, ↓reduceIte, reduceCtorEq, uB, uE, uL, uA, uM, uS, uN, uX, uO, vR, vD, vL, vK, vE, vA, vM, vT], by simp (maxSteps := 2000000) (implicitDefEqProofs := false) (disch := first | omega | (simp only [SD.down, uA, uL] <;> omega) | fail) only [TA.down, resE, oneV, ↓reduceIte, reduceCtorEq, uB, uE, uL, uA, uM, uS, uN, uX, uO, vR, vD, vL, vK, vE, vA, vM, vT], by simp (maxSteps := 2000000) (implicitDefEqProofs := false) (disch := first | omega | (simp only [SD.down, uA, uL] <;> omega) | fail) only [TA.down, resE, oneV, ↓reduceIte, reduceCtorEq, uB, uE, uL, uA, uM, uS, uN, uX, uO, vR, vD, vL, vK, vE, vA, vM, vT], by simp (maxSteps := 2000000) (implicitDefEqProofs := false) (disch := first | omega | (simp only [SD.down, uA, uL] <;> omega) | fail) only [TA.down, resE, oneV, ↓reduceIte, reduceCtorEq, uB, uE, uL, uA, uM, uS, uN, uX, uO, vR, vD, vL, vK, vE, vA, vM, vT], by simp (maxSteps := 2000000) (implicitDefEqProofs := false) (disch := first | omega | (simp only [SD.down, uA, uL] <;> omega) | fail) only [TA.down, resE, oneV, ↓reduceIte, reduceCtorEq, uB, uE, uL, uA, uM, uS, uN, uX, uO, vR, vD, vL, vK, vE, vA, vM, vT], by simp (maxSteps := 2000000) (implicitDefEqProofs := false) (disch := first | omega | (simp only [SD.down, uA, uL] <;> omega) | fail) only [TA.down, resE, oneV, ↓reduceIte, reduceCtorEq, uB, uE, uL, uA, uM, uS, uN, uX, uO, vR, vD, vL, vK, vE, vA, vM, vT]; rfl, by simp (maxSteps := 2000000) (implicitDefEqProofs := false) (disch := first | omega | (simp only [SD.down, uA, uL] <;> omega) | fail) only [TA.down, resE, oneV, ↓reduceIte, reduceCtorEq, uB, uE, uL, uA, uM, uS, uN, uX, uO, vR, vD, vL, vK, vE, vA, vM, vT]; omega, fun j hj => by simp (maxSteps := 2000000) (implicitDefEqProofs := false) (disch := first | omega | (simp only [SD.down, uA, uL] <;> omega) | fail) only [TA.down, resE, oneV, ↓reduceIte, reduceCtorEq, uB, uE, uL, uA, uM, uS, uN, uX, uO, vR, vD, vL, vK, vE, vA, vM, vT]⟩
end Go.Proofs.Ythcbefolifpbpaa.R.X
