/- Of this program, for all inputs: contracts. No condition but those in the theorems. -/
import Derived.Test.YthcbefolifpbpaaAwM3
import Derived.Test.YthcbefolifpbpaaTy
import Derived.Test.YthcbefolifpbpaaAiEnv
import Derived.Test.YthcbefolifpbpaaE13
namespace Go.Proofs.Ythcbefolifpbpaa
open Go Go.Ai Go.Aw Go.Proofs
open Nat renaming reduceBEq → uB, reduceEqDiff → uE, reduceLT → uL, reduceAdd → uA, reduceMul → uM, reduceSub → uS, reduceAnd → uN, reduceXor → uX, reduceOr → uO
open Int renaming reduceMod → vR, reduceDiv → vD, reduceLT → vL, reduceLE → vK, reduceEq → vE, reduceAdd → vA, reduceMul → vM, reduceToNat → vT
set_option linter.unusedSimpArgs false
set_option linter.unusedVariables false
theorem env_P : env.P = Try.prog := rfl
theorem env_L : env.L = 100000 := rfl
set_option maxRecDepth 4000
def dbl (x : Nat) : Nat := (x * 2 ^ 1) ^^^ (x % 256 / 2 ^ 7 * 27)
theorem double_ok (d : Nat) (h : Heap) (x : Nat) : callD env (d + 1) 37 [b8 x] h = some (b8 (dbl x), h) := by
  rw [callD_run (E := env) [] (by kernel_rfl) Try.func37 rfl (by rw [Try.ntmps37]; simp) (by kernel_rfl)]; simp (maxSteps := 2000000) (implicitDefEqProofs := false) (disch := first | omega | (simp only [SD.down, uA, uL] <;> omega) | fail) only [Try.ntmps37, Try.results37, env_P, env_L, TA.down, resE, oneV, ↓reduceIte, reduceCtorEq, uB, uE, uL, uA, uM, uS, uN, uX, uO, vR, vD, vL, vK, vE, vA, vM, vT]
  rfl
theorem is_ok (d : Nat) (h : Heap) (k e : Nat) (cs : List AV) (r : Bool) (hk : h.get k = some (.cells cs e r)) (hm : cs[752]? = some (.bool true)) : callD env (d + 1) 26 [.ptr k 0] h = some (.bool true, h) := by
  rw [callD_run (E := env) [] (by kernel_rfl) Try.func26 rfl (by rw [Try.ntmps26]; simp) (by kernel_rfl)]; simp (maxSteps := 2000000) (implicitDefEqProofs := false) (disch := first | omega | (simp only [SD.down, uA, uL] <;> omega) | fail) only [Try.ntmps26, Try.results26, env_P, env_L, hk, hm, TA.down, resE, oneV, ↓reduceIte, reduceCtorEq, uB, uE, uL, uA, uM, uS, uN, uX, uO, vR, vD, vL, vK, vE, vA, vM, vT]
theorem in26 (d : Nat) (h : Heap) (a0 : AV) : callD env (d + 1) 26 [a0] h = run ⟨env.P, callD env d, env.L, Try.f26.ntmps, [], Try.f26.results.toList⟩ [.code (match Try.f26.body with | some c => c | none => .skip)] (argS [a0]) h :=
  callD_run (E := env) [] (by kernel_rfl) Try.func26 rfl (by rw [Try.ntmps26]; simp) (by kernel_rfl)
theorem in27 (d : Nat) (h : Heap) (a0 a1 a2 : AV) : callD env (d + 1) 27 [a0, a1, a2] h = run ⟨env.P, callD env d, env.L, Try.f27.ntmps, [], Try.f27.results.toList⟩ [.code (match Try.f27.body with | some c => c | none => .skip)] (argS [a0, a1, a2]) h :=
  callD_run (E := env) [] (by kernel_rfl) Try.func27 rfl (by rw [Try.ntmps27]; simp) (by kernel_rfl)
theorem in28 (d : Nat) (h : Heap) (a0 : AV) : callD env (d + 1) 28 [a0] h = run ⟨env.P, callD env d, env.L, Try.f28.ntmps, [(4, .fl [(3, 0, 1)]), (6, .fl [(2, 0, 1)])], Try.f28.results.toList⟩ [.code (match Try.f28.body with | some c => c | none => .skip)] (argS [a0]) h :=
  callD_run (E := env) [(4, .fl [(3, 0, 1)]), (6, .fl [(2, 0, 1)])] (by kernel_rfl) Try.func28 rfl (by rw [Try.ntmps28]; simp) (by kernel_rfl)
theorem in37 (d : Nat) (h : Heap) (a0 : AV) : callD env (d + 1) 37 [a0] h = run ⟨env.P, callD env d, env.L, Try.f37.ntmps, [], Try.f37.results.toList⟩ [.code (match Try.f37.body with | some c => c | none => .skip)] (argS [a0]) h :=
  callD_run (E := env) [] (by kernel_rfl) Try.func37 rfl (by rw [Try.ntmps37]; simp) (by kernel_rfl)
def sub (S : List Nat) (x : Nat) : Nat := S.getD (x % 256) 0
def addL (K : List Nat) (r : Nat) (x : List Nat) : List Nat := [x.getD 0 0 ^^^ K.getD (r * 16 + 0) 0, x.getD 1 0 ^^^ K.getD (r * 16 + 1) 0, x.getD 2 0 ^^^ K.getD (r * 16 + 2) 0, x.getD 3 0 ^^^ K.getD (r * 16 + 3) 0, x.getD 4 0 ^^^ K.getD (r * 16 + 4) 0, x.getD 5 0 ^^^ K.getD (r * 16 + 5) 0, x.getD 6 0 ^^^ K.getD (r * 16 + 6) 0, x.getD 7 0 ^^^ K.getD (r * 16 + 7) 0, x.getD 8 0 ^^^ K.getD (r * 16 + 8) 0, x.getD 9 0 ^^^ K.getD (r * 16 + 9) 0, x.getD 10 0 ^^^ K.getD (r * 16 + 10) 0, x.getD 11 0 ^^^ K.getD (r * 16 + 11) 0, x.getD 12 0 ^^^ K.getD (r * 16 + 12) 0, x.getD 13 0 ^^^ K.getD (r * 16 + 13) 0, x.getD 14 0 ^^^ K.getD (r * 16 + 14) 0, x.getD 15 0 ^^^ K.getD (r * 16 + 15) 0]
def subL (S : List Nat) (x : List Nat) : List Nat := [sub S (x.getD 0 0), sub S (x.getD 5 0), sub S (x.getD 10 0), sub S (x.getD 15 0), sub S (x.getD 4 0), sub S (x.getD 9 0), sub S (x.getD 14 0), sub S (x.getD 3 0), sub S (x.getD 8 0), sub S (x.getD 13 0), sub S (x.getD 2 0), sub S (x.getD 7 0), sub S (x.getD 12 0), sub S (x.getD 1 0), sub S (x.getD 6 0), sub S (x.getD 11 0)]
def mix0 (a0 a1 a2 a3 : Nat) : Nat := a0 ^^^ (a0 ^^^ a1 ^^^ a2 ^^^ a3 ^^^ dbl (a0 ^^^ a1))
def mix1 (a0 a1 a2 a3 : Nat) : Nat := a1 ^^^ (a0 ^^^ a1 ^^^ a2 ^^^ a3 ^^^ dbl (a1 ^^^ a2))
def mix2 (a0 a1 a2 a3 : Nat) : Nat := a2 ^^^ (a0 ^^^ a1 ^^^ a2 ^^^ a3 ^^^ dbl (a2 ^^^ a3))
def mix3 (a0 a1 a2 a3 : Nat) : Nat := a3 ^^^ (a0 ^^^ a1 ^^^ a2 ^^^ a3 ^^^ dbl (a3 ^^^ a0))
def mixL (x : List Nat) : List Nat := [mix0 (x.getD 0 0) (x.getD 1 0) (x.getD 2 0) (x.getD 3 0), mix1 (x.getD 0 0) (x.getD 1 0) (x.getD 2 0) (x.getD 3 0), mix2 (x.getD 0 0) (x.getD 1 0) (x.getD 2 0) (x.getD 3 0), mix3 (x.getD 0 0) (x.getD 1 0) (x.getD 2 0) (x.getD 3 0), mix0 (x.getD 4 0) (x.getD 5 0) (x.getD 6 0) (x.getD 7 0), mix1 (x.getD 4 0) (x.getD 5 0) (x.getD 6 0) (x.getD 7 0), mix2 (x.getD 4 0) (x.getD 5 0) (x.getD 6 0) (x.getD 7 0), mix3 (x.getD 4 0) (x.getD 5 0) (x.getD 6 0) (x.getD 7 0), mix0 (x.getD 8 0) (x.getD 9 0) (x.getD 10 0) (x.getD 11 0), mix1 (x.getD 8 0) (x.getD 9 0) (x.getD 10 0) (x.getD 11 0), mix2 (x.getD 8 0) (x.getD 9 0) (x.getD 10 0) (x.getD 11 0), mix3 (x.getD 8 0) (x.getD 9 0) (x.getD 10 0) (x.getD 11 0), mix0 (x.getD 12 0) (x.getD 13 0) (x.getD 14 0) (x.getD 15 0), mix1 (x.getD 12 0) (x.getD 13 0) (x.getD 14 0) (x.getD 15 0), mix2 (x.getD 12 0) (x.getD 13 0) (x.getD 14 0) (x.getD 15 0), mix3 (x.getD 12 0) (x.getD 13 0) (x.getD 14 0) (x.getD 15 0)]
def rnds (S K : List Nat) (b : List Nat) : Nat → List Nat
  | 0 => addL K 0 b
  | r + 1 => addL K (r + 1) (cond (decide (r + 1 < 14)) (mixL (subL S (rnds S K b r))) (subL S (rnds S K b r)))
structure Ciph (h : Heap) (k : Nat) (S K : List Nat) (cs : List AV) (e : Nat) (w : Bool) : Prop where
  at_ : h.get k = some (.cells cs e w)
  box : ∀ j, j < 256 → cs[j]? = some (b8 (S.getD j 0))
  keys : ∀ j, 512 ≤ j → j < 752 → cs[j]? = some (b8 (K.getD (j - 512) 0))
  made : cs[752]? = some (.bool true)
def lit16 (x : List Nat) : List AV := [b8 (x.getD 0 0), b8 (x.getD 1 0), b8 (x.getD 2 0), b8 (x.getD 3 0), b8 (x.getD 4 0), b8 (x.getD 5 0), b8 (x.getD 6 0), b8 (x.getD 7 0), b8 (x.getD 8 0), b8 (x.getD 9 0), b8 (x.getD 10 0), b8 (x.getD 11 0), b8 (x.getD 12 0), b8 (x.getD 13 0), b8 (x.getD 14 0), b8 (x.getD 15 0)]
theorem B16 {x : List Nat} (h : x.length = 16) : B x = lit16 x := by
  obtain _ | ⟨x0, _ | ⟨x1, _ | ⟨x2, _ | ⟨x3, _ | ⟨x4, _ | ⟨x5, _ | ⟨x6, _ | ⟨x7, _ | ⟨x8, _ | ⟨x9, _ | ⟨x10, _ | ⟨x11, _ | ⟨x12, _ | ⟨x13, _ | ⟨x14, _ | ⟨x15, x⟩⟩⟩⟩⟩⟩⟩⟩⟩⟩⟩⟩⟩⟩⟩⟩ := x
  all_goals simp only [List.length_cons, List.length_nil] at h
  all_goals first | omega | skip
  cases x with
  | nil => rfl
  | cons _ _ => simp at h
theorem addL_len (K : List Nat) (r : Nat) (x : List Nat) : (addL K r x).length = 16 := rfl
theorem rnds_len (S K b : List Nat) (r : Nat) : (rnds S K b r).length = 16 := by cases r <;> rfl
theorem add_ok (d : Nat) (h : Heap) (k s r : Nat) (r' : Int) (hr : r < 15) (hr' : r' = r) (x : List Nat) (hx : x.length = 16) (cs : List AV) (e : Nat) (w : Bool) (hk : h.get k = some (.cells cs e w)) (K : List Nat) (hK : ∀ j, 512 ≤ j → j < 752 → cs[j]? = some (b8 (K.getD (j - 512) 0))) (hks : k ≠ s) (f : Nat)
    (hs : h.get s = some (.cells (B x) f false)) :
    callD env (d + 1) 27 [.ptr k 0, .ptr s 0, .int .i64 r'] h = some (.tup [], h.put s (some (.cells (B (addL K r x)) f false))) := by
  subst hr'
  rw [B16 hx] at hs
  simp only [lit16] at hs
  rw [callD_run (E := env) [] (by kernel_rfl) Try.func27 rfl (by rw [Try.ntmps27]; simp) (by kernel_rfl)]; simp (maxSteps := 2000000) (implicitDefEqProofs := false) (disch := first | omega | (simp only [SD.down, uA, uL] <;> omega) | fail) only [Try.ntmps27, Try.results27, env_P, env_L, hk, hs, hK, TA.down, resE, oneV, ↓reduceIte, reduceCtorEq, uB, uE, uL, uA, uM, uS, uN, uX, uO, vR, vD, vL, vK, vE, vA, vM, vT, run_loop, run_it]
  simp only [Nat.add_assoc, Nat.add_sub_cancel_left, B, addL, List.map_cons, List.map_nil]
  rfl
end Go.Proofs.Ythcbefolifpbpaa
