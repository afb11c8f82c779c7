/- Of this program, for all inputs: contracts. No condition but those in the theorems. -/
import Derived.Test.YthcbefolifpbpaaA8
import Derived.Test.YthcbefolifpbpaaA10
namespace Go.Proofs.Ythcbefolifpbpaa
open Go Go.Ai Go.Aw Go.Proofs
open Nat renaming reduceBEq → uB, reduceEqDiff → uE, reduceLT → uL, reduceAdd → uA, reduceMul → uM, reduceSub → uS, reduceAnd → uN, reduceXor → uX, reduceOr → uO
open Int renaming reduceMod → vR, reduceDiv → vD, reduceLT → vL, reduceLE → vK, reduceEq → vE, reduceAdd → vA, reduceMul → vM, reduceToNat → vT
set_option linter.unusedSimpArgs false
set_option linter.unusedVariables false
set_option maxRecDepth 10000
def addX (a b : List Nat) : List Nat := [a.getD 0 0 ^^^ b.getD 0 0, a.getD 1 0 ^^^ b.getD 1 0, a.getD 2 0 ^^^ b.getD 2 0, a.getD 3 0 ^^^ b.getD 3 0, a.getD 4 0 ^^^ b.getD 4 0, a.getD 5 0 ^^^ b.getD 5 0, a.getD 6 0 ^^^ b.getD 6 0, a.getD 7 0 ^^^ b.getD 7 0, a.getD 8 0 ^^^ b.getD 8 0, a.getD 9 0 ^^^ b.getD 9 0, a.getD 10 0 ^^^ b.getD 10 0, a.getD 11 0 ^^^ b.getD 11 0, a.getD 12 0 ^^^ b.getD 12 0, a.getD 13 0 ^^^ b.getD 13 0, a.getD 14 0 ^^^ b.getD 14 0, a.getD 15 0 ^^^ b.getD 15 0]
theorem addX_len (a b : List Nat) : (addX a b).length = 16 := rfl
set_option maxHeartbeats 4000000 in
theorem added_ok (d : Nat) (h : Heap) (a b : List Nat) (ha : a.length = 16) (hb : b.length = 16) : G (callD env (d + 1) 42 [.agg (B a), .agg (B b)] h) fun v h' => v = .agg (B (addX a b)) ∧ Keeps h h' := by
  generalize hX : (fun (v : AV) (h' : Heap) => v = .agg (B (addX a b)) ∧ Keeps h h') = Q
  rw [B16 ha, B16 hb]
  simp only [lit16]
  rw [callD_run (E := env) [] (by kernel_rfl) Try.func42 rfl (by rw [Try.ntmps42]; simp) (by kernel_rfl)]; simp (maxSteps := 2000000) (implicitDefEqProofs := false) (disch := first | omega | (simp only [SD.down, uA, uL] <;> omega) | fail) only [Try.ntmps42, Try.results42, env_P, env_L, List.replicate_succ, List.replicate_zero, TA.down, resE, oneV, ↓reduceIte, reduceCtorEq, uB, uE, uL, uA, uM, uS, uN, uX, uO, vR, vD, vL, vK, vE, vA, vM, vT, run_loop, run_it]
  subst hX
  refine G.ok ⟨rfl, ?_, fun j hj => ?_⟩
  · simp (maxSteps := 2000000) (implicitDefEqProofs := false) (disch := first | omega | (simp only [SD.down, uA, uL] <;> omega) | fail) only [TA.down, resE, oneV, ↓reduceIte, reduceCtorEq, uB, uE, uL, uA, uM, uS, uN, uX, uO, vR, vD, vL, vK, vE, vA, vM, vT]
    try omega
  · simp (maxSteps := 2000000) (implicitDefEqProofs := false) (disch := first | omega | (simp only [SD.down, uA, uL] <;> omega) | fail) only [TA.down, resE, oneV, ↓reduceIte, reduceCtorEq, uB, uE, uL, uA, uM, uS, uN, uX, uO, vR, vD, vL, vK, vE, vA, vM, vT]
def dbl0 (t : List Nat) : List Nat := [t.getD 0 0 * 2 ^ 1 ||| 0, t.getD 1 0 * 2 ^ 1 ||| t.getD 0 0 % 256 / 2 ^ 7, t.getD 2 0 * 2 ^ 1 ||| t.getD 1 0 % 256 / 2 ^ 7, t.getD 3 0 * 2 ^ 1 ||| t.getD 2 0 % 256 / 2 ^ 7, t.getD 4 0 * 2 ^ 1 ||| t.getD 3 0 % 256 / 2 ^ 7, t.getD 5 0 * 2 ^ 1 ||| t.getD 4 0 % 256 / 2 ^ 7, t.getD 6 0 * 2 ^ 1 ||| t.getD 5 0 % 256 / 2 ^ 7, t.getD 7 0 * 2 ^ 1 ||| t.getD 6 0 % 256 / 2 ^ 7, t.getD 8 0 * 2 ^ 1 ||| t.getD 7 0 % 256 / 2 ^ 7, t.getD 9 0 * 2 ^ 1 ||| t.getD 8 0 % 256 / 2 ^ 7, t.getD 10 0 * 2 ^ 1 ||| t.getD 9 0 % 256 / 2 ^ 7, t.getD 11 0 * 2 ^ 1 ||| t.getD 10 0 % 256 / 2 ^ 7, t.getD 12 0 * 2 ^ 1 ||| t.getD 11 0 % 256 / 2 ^ 7, t.getD 13 0 * 2 ^ 1 ||| t.getD 12 0 % 256 / 2 ^ 7, t.getD 14 0 * 2 ^ 1 ||| t.getD 13 0 % 256 / 2 ^ 7, t.getD 15 0 * 2 ^ 1 ||| t.getD 14 0 % 256 / 2 ^ 7]
def dbl1 (t : List Nat) : List Nat := [(t.getD 0 0 * 2 ^ 1 ||| 0) ^^^ 135, t.getD 1 0 * 2 ^ 1 ||| t.getD 0 0 % 256 / 2 ^ 7, t.getD 2 0 * 2 ^ 1 ||| t.getD 1 0 % 256 / 2 ^ 7, t.getD 3 0 * 2 ^ 1 ||| t.getD 2 0 % 256 / 2 ^ 7, t.getD 4 0 * 2 ^ 1 ||| t.getD 3 0 % 256 / 2 ^ 7, t.getD 5 0 * 2 ^ 1 ||| t.getD 4 0 % 256 / 2 ^ 7, t.getD 6 0 * 2 ^ 1 ||| t.getD 5 0 % 256 / 2 ^ 7, t.getD 7 0 * 2 ^ 1 ||| t.getD 6 0 % 256 / 2 ^ 7, t.getD 8 0 * 2 ^ 1 ||| t.getD 7 0 % 256 / 2 ^ 7, t.getD 9 0 * 2 ^ 1 ||| t.getD 8 0 % 256 / 2 ^ 7, t.getD 10 0 * 2 ^ 1 ||| t.getD 9 0 % 256 / 2 ^ 7, t.getD 11 0 * 2 ^ 1 ||| t.getD 10 0 % 256 / 2 ^ 7, t.getD 12 0 * 2 ^ 1 ||| t.getD 11 0 % 256 / 2 ^ 7, t.getD 13 0 * 2 ^ 1 ||| t.getD 12 0 % 256 / 2 ^ 7, t.getD 14 0 * 2 ^ 1 ||| t.getD 13 0 % 256 / 2 ^ 7, t.getD 15 0 * 2 ^ 1 ||| t.getD 14 0 % 256 / 2 ^ 7]
def dblX (t : List Nat) : List Nat := if t.getD 15 0 % 256 / 2 ^ 7 % 256 = 0 % 256 then dbl0 t else dbl1 t
theorem dblX_len (t : List Nat) : (dblX t).length = 16 := by unfold dblX; split <;> rfl
set_option maxHeartbeats 4000000 in
theorem xdouble_ok (d : Nat) (h : Heap) (t : List Nat) (ht : t.length = 16) : G (callD env (d + 1) 22 [.agg (B t)] h) fun v h' => v = .agg (B (dblX t)) ∧ Keeps h h' := by
  generalize hX : (fun (v : AV) (h' : Heap) => v = .agg (B (dblX t)) ∧ Keeps h h') = Q
  rw [B16 ht]
  simp only [lit16]
  by_cases hc : t.getD 15 0 % 256 / 2 ^ 7 % 256 = 0 % 256
  · rw [callD_run (E := env) [] (by kernel_rfl) Try.func22 rfl (by rw [Try.ntmps22]; simp) (by kernel_rfl)]; simp (maxSteps := 2000000) (implicitDefEqProofs := false) (disch := first | omega | (simp only [SD.down, uA, uL] <;> omega) | fail) only [Try.ntmps22, Try.results22, env_P, env_L, List.replicate_succ, List.replicate_zero, decide_eq_true hc, TA.down, resE, oneV, ↓reduceIte, reduceCtorEq, uB, uE, uL, uA, uM, uS, uN, uX, uO, vR, vD, vL, vK, vE, vA, vM, vT, run_loop, run_it]

    subst hX
    refine G.ok ⟨?_, ?_, fun j hj => ?_⟩
    · rw [dblX, if_pos hc]; rfl
    · simp (maxSteps := 2000000) (implicitDefEqProofs := false) (disch := first | omega | (simp only [SD.down, uA, uL] <;> omega) | fail) only [TA.down, resE, oneV, ↓reduceIte, reduceCtorEq, uB, uE, uL, uA, uM, uS, uN, uX, uO, vR, vD, vL, vK, vE, vA, vM, vT]
      try omega
    · simp (maxSteps := 2000000) (implicitDefEqProofs := false) (disch := first | omega | (simp only [SD.down, uA, uL] <;> omega) | fail) only [TA.down, resE, oneV, ↓reduceIte, reduceCtorEq, uB, uE, uL, uA, uM, uS, uN, uX, uO, vR, vD, vL, vK, vE, vA, vM, vT]
  · rw [callD_run (E := env) [] (by kernel_rfl) Try.func22 rfl (by rw [Try.ntmps22]; simp) (by kernel_rfl)]; simp (maxSteps := 2000000) (implicitDefEqProofs := false) (disch := first | omega | (simp only [SD.down, uA, uL] <;> omega) | fail) only [Try.ntmps22, Try.results22, env_P, env_L, List.replicate_succ, List.replicate_zero, decide_eq_false hc, TA.down, resE, oneV, ↓reduceIte, reduceCtorEq, uB, uE, uL, uA, uM, uS, uN, uX, uO, vR, vD, vL, vK, vE, vA, vM, vT, run_loop, run_it]
    subst hX
    refine G.ok ⟨?_, ?_, fun j hj => ?_⟩
    · rw [dblX, if_neg hc]; rfl
    · simp (maxSteps := 2000000) (implicitDefEqProofs := false) (disch := first | omega | (simp only [SD.down, uA, uL] <;> omega) | fail) only [TA.down, resE, oneV, ↓reduceIte, reduceCtorEq, uB, uE, uL, uA, uM, uS, uN, uX, uO, vR, vD, vL, vK, vE, vA, vM, vT]
      try omega
    · simp (maxSteps := 2000000) (implicitDefEqProofs := false) (disch := first | omega | (simp only [SD.down, uA, uL] <;> omega) | fail) only [TA.down, resE, oneV, ↓reduceIte, reduceCtorEq, uB, uE, uL, uA, uM, uS, uN, uX, uO, vR, vD, vL, vK, vE, vA, vM, vT]
end Go.Proofs.Ythcbefolifpbpaa
namespace Go.Proofs.Ythcbefolifpbpaa
open Go Go.Ai Go.Aw Go.Proofs
open Nat renaming reduceBEq → uB, reduceEqDiff → uE, reduceLT → uL, reduceAdd → uA, reduceMul → uM, reduceSub → uS, reduceAnd → uN, reduceXor → uX, reduceOr → uO
open Int renaming reduceMod → vR, reduceDiv → vD, reduceLT → vL, reduceLE → vK, reduceEq → vE, reduceAdd → vA, reduceMul → vM, reduceToNat → vT
set_option linter.unusedSimpArgs false
set_option linter.unusedVariables false
set_option maxRecDepth 10000
theorem Keeps.but {h h' : Heap} (k : Nat) (x : Keeps h h') : KeepsBut k h h' := ⟨x.1, fun j hj _ => x.2 j hj⟩
theorem KeepsBut.trans {k : Nat} {a b c : Heap} (x : KeepsBut k a b) (y : KeepsBut k b c) : KeepsBut k a c := ⟨Nat.le_trans x.1 y.1, fun j hj hk => (y.2 j (Nat.lt_of_lt_of_le hj x.1) hk).trans (x.2 j hj hk)⟩
theorem Is.keepBut {h h' : Heap} {k q : Nat} {K : List Nat} (i : Is h k K) (hk : KeepsBut q h h') (hq : k ≠ q) : Is h' k K := by
  obtain ⟨h1, h2, O, o, h3, h4, h5⟩ := i
  exact ⟨h1, Nat.lt_of_lt_of_le h2 hk.1, O, o, h3, h4, (hk.2 k h2 hq).trans h5⟩
/-- a mode of these keys -/
structure MIs (h : Heap) (m kd kt : Nat) (Kd Kt : List Nat) : Prop where
  at_ : h.get m = some (.cells [.ptr kd 0, .ptr kt 0] 0 false)
  lt : m < h.next
  d : Is h kd Kd
  t : Is h kt Kt
  ne1 : m ≠ kd
  ne2 : kt ≠ kd
  ne3 : m ≠ kt
theorem MIs.keepBut {h h' : Heap} {m kd kt : Nat} {Kd Kt : List Nat} (i : MIs h m kd kt Kd Kt) (k : KeepsBut kd h h') (hd : Is h' kd Kd) : MIs h' m kd kt Kd Kt :=
  ⟨(k.2 m i.lt i.ne1).trans i.at_, Nat.lt_of_lt_of_le i.lt k.1, hd, i.t.keepBut k i.ne2, i.ne1, i.ne2, i.ne3⟩
theorem MIs.keep {h h' : Heap} {m kd kt : Nat} {Kd Kt : List Nat} (i : MIs h m kd kt Kd Kt) (k : Keeps h h') : MIs h' m kd kt Kd Kt := i.keepBut (k.but _) (i.d.keep k)
def numL (n : Nat) : List Nat := [n / 2 ^ 0, n / 2 ^ 8, n / 2 ^ 16, n / 2 ^ 24, n / 2 ^ 32, n / 2 ^ 40, n / 2 ^ 48, n / 2 ^ 56, 0, 0, 0, 0, 0, 0, 0, 0]
theorem qn (n a : Nat) : ((n : Int) / 2 ^ a).toNat = n / 2 ^ a := by
  have : (2 : Int) ^ a = ((2 ^ a : Nat) : Int) := by simp
  rw [this, ← Int.natCast_ediv, Int.toNat_natCast]
set_option maxHeartbeats 4000000 in
theorem first_ok (d : Nat) (h : Heap) (m kd kt : Nat) (Kd Kt : List Nat) (i : MIs h m kd kt Kd Kt) (n : Nat) (hn : n < 18446744073709551616) : G (callD env (d + 4) 41 [.ptr m 0, .int .u64 n] h) fun v h' => v = .agg (B (sealK Kt (numL n))) ∧ Keeps h h' := by
  generalize hX : (fun (v : AV) (h' : Heap) => v = .agg (B (sealK Kt (numL n))) ∧ Keeps h h') = Q
  have hm := i.at_
  have hml := i.lt
  rw [callD_run (E := env) [] (by kernel_rfl) Try.func41 rfl (by rw [Try.ntmps41]; simp) (by kernel_rfl)]; simp (maxSteps := 2000000) (implicitDefEqProofs := false) (disch := first | omega | (simp only [SD.down, uA, uL] <;> omega) | fail) only [Try.ntmps41, Try.results41, env_P, env_L, hm, List.replicate_succ, List.replicate_zero, TA.down, resE, oneV, ↓reduceIte, reduceCtorEq, uB, uE, uL, uA, uM, uS, uN, uX, uO, vR, vD, vL, vK, vE, vA, vM, vT, run_loop, run_it]
  simp only [qn]
  refine G.call (seal_is d _ kt Kt (numL n) rfl (i.t.keep ⟨by simp (maxSteps := 2000000) (implicitDefEqProofs := false) (disch := first | omega | (simp only [SD.down, uA, uL] <;> omega) | fail) only [TA.down, resE, oneV, ↓reduceIte, reduceCtorEq, uB, uE, uL, uA, uM, uS, uN, uX, uO, vR, vD, vL, vK, vE, vA, vM, vT]; omega, fun j hj => by simp (maxSteps := 2000000) (implicitDefEqProofs := false) (disch := first | omega | (simp only [SD.down, uA, uL] <;> omega) | fail) only [TA.down, resE, oneV, ↓reduceIte, reduceCtorEq, uB, uE, uL, uA, uM, uS, uN, uX, uO, vR, vD, vL, vK, vE, vA, vM, vT]⟩)) ?_
  rintro v h1 ⟨rfl, k1⟩
  have hs := sealK_len Kt (numL n)
  have g1 : h1.get h.next = some (.cells (B z16) 0 false) := by rw [k1.2 _ (by simp (maxSteps := 2000000) (implicitDefEqProofs := false) (disch := first | omega | (simp only [SD.down, uA, uL] <;> omega) | fail) only [TA.down, resE, oneV, ↓reduceIte, reduceCtorEq, uB, uE, uL, uA, uM, uS, uN, uX, uO, vR, vD, vL, vK, vE, vA, vM, vT]; omega)]; simp (maxSteps := 2000000) (implicitDefEqProofs := false) (disch := first | omega | (simp only [SD.down, uA, uL] <;> omega) | fail) only [TA.down, resE, oneV, ↓reduceIte, reduceCtorEq, uB, uE, uL, uA, uM, uS, uN, uX, uO, vR, vD, vL, vK, vE, vA, vM, vT]; rfl
  have hz := z16_len
  have hn1 := k1.1
  simp only [next_new, next_put] at hn1
  simp (maxSteps := 2000000) (implicitDefEqProofs := false) (disch := first | omega | (simp only [SD.down, uA, uL] <;> omega) | fail) only [over_B, cutB_all, hs, hz, g1, TA.down, resE, oneV, ↓reduceIte, reduceCtorEq, uB, uE, uL, uA, uM, uS, uN, uX, uO, vR, vD, vL, vK, vE, vA, vM, vT]
  subst hX
  refine G.ok ⟨rfl, ?_, fun j hj => ?_⟩
  · simp (maxSteps := 2000000) (implicitDefEqProofs := false) (disch := first | omega | (simp only [SD.down, uA, uL] <;> omega) | fail) only [TA.down, resE, oneV, ↓reduceIte, reduceCtorEq, uB, uE, uL, uA, uM, uS, uN, uX, uO, vR, vD, vL, vK, vE, vA, vM, vT]
    omega
  · simp (maxSteps := 2000000) (implicitDefEqProofs := false) (disch := first | omega | (simp only [SD.down, uA, uL] <;> omega) | fail) only [TA.down, resE, oneV, ↓reduceIte, reduceCtorEq, uB, uE, uL, uA, uM, uS, uN, uX, uO, vR, vD, vL, vK, vE, vA, vM, vT]
    rw [k1.2 j (by simp (maxSteps := 2000000) (implicitDefEqProofs := false) (disch := first | omega | (simp only [SD.down, uA, uL] <;> omega) | fail) only [TA.down, resE, oneV, ↓reduceIte, reduceCtorEq, uB, uE, uL, uA, uM, uS, uN, uX, uO, vR, vD, vL, vK, vE, vA, vM, vT]; omega)]
    simp (maxSteps := 2000000) (implicitDefEqProofs := false) (disch := first | omega | (simp only [SD.down, uA, uL] <;> omega) | fail) only [TA.down, resE, oneV, ↓reduceIte, reduceCtorEq, uB, uE, uL, uA, uM, uS, uN, uX, uO, vR, vD, vL, vK, vE, vA, vM, vT]
end Go.Proofs.Ythcbefolifpbpaa
