/- Of this program, for all inputs: contracts. No condition but those in the theorems. -/
import Derived.Test.YthcbefolifpbpaaA1
namespace Go.Proofs.Ythcbefolifpbpaa
open Go Go.Ai Go.Aw Go.Proofs
open Nat renaming reduceBEq → uB, reduceEqDiff → uE, reduceLT → uL, reduceAdd → uA, reduceMul → uM, reduceSub → uS, reduceAnd → uN, reduceXor → uX, reduceOr → uO
open Int renaming reduceMod → vR, reduceDiv → vD, reduceLT → vL, reduceLE → vK, reduceEq → vE, reduceAdd → vA, reduceMul → vM, reduceToNat → vT
set_option linter.unusedSimpArgs false
set_option linter.unusedVariables false
set_option maxRecDepth 10000
theorem in38 (d : Nat) (h : Heap) (a0 a1 : AV) : callD env (d + 1) 38 [a0, a1] h = run ⟨env.P, callD env d, env.L, Try.f38.ntmps, [], Try.f38.results.toList⟩ [.code (match Try.f38.body with | some c => c | none => .skip)] (argS [a0, a1]) h :=
  callD_run (E := env) [] (by kernel_rfl) Try.func38 rfl (by rw [Try.ntmps38]; simp) (by kernel_rfl)
theorem in24 (d : Nat) (h : Heap) (a0 : AV) : callD env (d + 1) 24 [a0] h = run ⟨env.P, callD env d, env.L, Try.f24.ntmps, [], Try.f24.results.toList⟩ [.code (match Try.f24.body with | some c => c | none => .skip)] (argS [a0]) h :=
  callD_run (E := env) [] (by kernel_rfl) Try.func24 rfl (by rw [Try.ntmps24]; simp) (by kernel_rfl)
/-- one step of the box: the two that go round, and what is laid -/
def gA (a : Nat) : Nat := a ^^^ dbl a
def gB (b : Nat) : Nat :=
  let b := b ^^^ b * 2 ^ 1
  let b := b ^^^ b * 2 ^ 2
  let b := b ^^^ b * 2 ^ 4
  b ^^^ b % 256 / 2 ^ 7 * 9
def rot (b n : Nat) : Nat := b * 2 ^ n ||| b % 256 / 2 ^ (8 - n)
def aff (b : Nat) : Nat := 99 ^^^ b ^^^ rot b 1 ^^^ rot b 2 ^^^ rot b 3 ^^^ rot b 4
/-- the cells behind so many steps -/
def boxC : Nat → Nat → Nat → List AV → List AV
  | 0, _, _, cs => cs.set 0 (b8 99)
  | n + 1, a, b, cs => boxC n (gA a) (gB b) (cs.set (gA a % 256) (b8 (aff (gB b))))
set_option maxHeartbeats 4000000 in
theorem boxes_ok (d : Nat) (h : Heap) (k : Nat) (cs : List AV) (hl : 256 ≤ cs.length) (e : Nat) (hk : h.get k = some (.cells cs e false)) :
    G (callD env (d + 2) 24 [.ptr k 0] h) fun v h' => v = .tup [] ∧ h' = h.put k (some (.cells (boxC 255 1 1 cs) e false)) := by
  generalize hX : (fun (v : AV) (h' : Heap) => v = .tup [] ∧ h' = h.put k (some (.cells (boxC 255 1 1 cs) e false))) = Q
  rw [callD_run (E := env) [] (by kernel_rfl) Try.func24 rfl (by rw [Try.ntmps24]; simp) (by kernel_rfl)]; simp (maxSteps := 2000000) (implicitDefEqProofs := false) (disch := first | omega | (simp only [SD.down, uA, uL] <;> omega) | fail) only [Try.ntmps24, Try.results24, env_P, env_L, hk, TA.down, resE, oneV, ↓reduceIte, reduceCtorEq, uB, uE, uL, uA, uM, uS, uN, uX, uO, vR, vD, vL, vK, vE, vA, vM, vT]
  rw [run_loop]
  refine loop_ind (fun j σ hh => ∃ a b cs', j ≤ 255 ∧ σ 0 = .ptr k 0 ∧ σ 2 = b8 a ∧ σ 3 = b8 b ∧ σ 4 = .int .i64 ((255 - j : Nat) : Int) ∧ hh = h.put k (some (.cells cs' e false)) ∧ cs'.length = cs.length ∧ boxC j a b cs' = boxC 255 1 1 cs) ?_ ?_ 255 _ _ _ (by simp) ?_
  · rintro m σ hh ⟨a, b, cs', hj, h0, h2, h3, h4, rfl, hl', hs⟩
    simp only [Nat.sub_zero] at h4
    simp (maxSteps := 2000000) (implicitDefEqProofs := false) (disch := first | omega | (simp only [SD.down, uA, uL] <;> omega) | fail) only [run_it, h0, h2, h3, h4, env_P, TA.down, resE, oneV, ↓reduceIte, reduceCtorEq, uB, uE, uL, uA, uM, uS, uN, uX, uO, vR, vD, vL, vK, vE, vA, vM, vT]
    subst hX
    exact G.ok ⟨rfl, by rw [← hs]; rfl⟩
  · rintro j m σ hh ⟨a, b, cs', hj, h0, h2, h3, h4, rfl, hl', hs⟩ ih
    simp (maxSteps := 2000000) (implicitDefEqProofs := false) (disch := first | omega | (simp only [SD.down, uA, uL] <;> omega) | fail) only [run_it, h0, h2, h3, h4, env_P, env_L, double_ok, in38, Try.f38, TA.down, resE, oneV, ↓reduceIte, reduceCtorEq, uB, uE, uL, uA, uM, uS, uN, uX, uO, vR, vD, vL, vK, vE, vA, vM, vT]
    refine ih _ _ ⟨gA a, gB b, cs'.set (gA a % 256) (b8 (aff (gB b))), by omega, ?_, ?_, ?_, ?_, rfl, by simp [hl'], hs⟩
    · simp (maxSteps := 2000000) (implicitDefEqProofs := false) (disch := first | omega | (simp only [SD.down, uA, uL] <;> omega) | fail) only [h0, TA.down, resE, oneV, ↓reduceIte, reduceCtorEq, uB, uE, uL, uA, uM, uS, uN, uX, uO, vR, vD, vL, vK, vE, vA, vM, vT]
    · simp (maxSteps := 2000000) (implicitDefEqProofs := false) (disch := first | omega | (simp only [SD.down, uA, uL] <;> omega) | fail) only [TA.down, resE, oneV, ↓reduceIte, reduceCtorEq, uB, uE, uL, uA, uM, uS, uN, uX, uO, vR, vD, vL, vK, vE, vA, vM, vT]
      rfl
    · simp (maxSteps := 2000000) (implicitDefEqProofs := false) (disch := first | omega | (simp only [SD.down, uA, uL] <;> omega) | fail) only [TA.down, resE, oneV, ↓reduceIte, reduceCtorEq, uB, uE, uL, uA, uM, uS, uN, uX, uO, vR, vD, vL, vK, vE, vA, vM, vT]
      rfl
    · simp (maxSteps := 2000000) (implicitDefEqProofs := false) (disch := first | omega | (simp only [SD.down, uA, uL] <;> omega) | fail) only [TA.down, resE, oneV, ↓reduceIte, reduceCtorEq, uB, uE, uL, uA, uM, uS, uN, uX, uO, vR, vD, vL, vK, vE, vA, vM, vT]
      try simp only [AV.int.injEq, true_and]
      try omega
  · refine ⟨1, 1, cs, by omega, ?_, ?_, ?_, ?_, ?_, rfl, rfl⟩
    · simp (maxSteps := 2000000) (implicitDefEqProofs := false) (disch := first | omega | (simp only [SD.down, uA, uL] <;> omega) | fail) only [TA.down, resE, oneV, ↓reduceIte, reduceCtorEq, uB, uE, uL, uA, uM, uS, uN, uX, uO, vR, vD, vL, vK, vE, vA, vM, vT]
    · simp (maxSteps := 2000000) (implicitDefEqProofs := false) (disch := first | omega | (simp only [SD.down, uA, uL] <;> omega) | fail) only [TA.down, resE, oneV, ↓reduceIte, reduceCtorEq, uB, uE, uL, uA, uM, uS, uN, uX, uO, vR, vD, vL, vK, vE, vA, vM, vT]
    · simp (maxSteps := 2000000) (implicitDefEqProofs := false) (disch := first | omega | (simp only [SD.down, uA, uL] <;> omega) | fail) only [TA.down, resE, oneV, ↓reduceIte, reduceCtorEq, uB, uE, uL, uA, uM, uS, uN, uX, uO, vR, vD, vL, vK, vE, vA, vM, vT]
    · simp (maxSteps := 2000000) (implicitDefEqProofs := false) (disch := first | omega | (simp only [SD.down, uA, uL] <;> omega) | fail) only [TA.down, resE, oneV, ↓reduceIte, reduceCtorEq, uB, uE, uL, uA, uM, uS, uN, uX, uO, vR, vD, vL, vK, vE, vA, vM, vT]
    · exact (put_self hk).symm
end Go.Proofs.Ythcbefolifpbpaa
