/- Of this program, for all inputs: contracts. No condition but those in the theorems. -/
import Derived.Test.YthcbefolifpbpaaE1a
import Derived.Test.YthcbefolifpbpaaE1b
import Derived.Test.YthcbefolifpbpaaE1c
import Derived.Test.YthcbefolifpbpaaE1d
import Derived.Test.YthcbefolifpbpaaEL
namespace Go.Proofs.Ythcbefolifpbpaa.R
open Go Go.Ai Go.Aw Go.Proofs
open Nat renaming reduceBEq → uB, reduceEqDiff → uE, reduceLT → uL, reduceAdd → uA, reduceMul → uM, reduceSub → uS, reduceAnd → uN, reduceXor → uX, reduceOr → uO
open Int renaming reduceMod → vR, reduceDiv → vD, reduceLT → vL, reduceLE → vK, reduceEq → vE, reduceAdd → vA, reduceMul → vM, reduceToNat → vT
set_option linter.unusedSimpArgs false
set_option linter.unusedVariables false
set_option maxRecDepth 10000
theorem callC0 (d f : Nat) (args : List AV) (h : Heap) : Go.Ac.callC c0 d f args h = callD c0 d f args h := by rw [Go.Ac.callC_eq]
theorem box_all (a : Nat) (ha : a < 256) (h : Heap) : callD c0 12 53 [AV.int .u8 (a : Nat)] h = some (AV.int .u8 ((sbT.getD a 0 : Nat) : Int), h) := by
  rw [← callC0]
  by_cases h0 : a < 32
  · exact range_at (bx0 h) (by omega) (by omega)
  by_cases h1 : a < 64
  · exact range_at (bx1 h) (by omega) (by omega)
  by_cases h2 : a < 96
  · exact range_at (bx2 h) (by omega) (by omega)
  by_cases h3 : a < 128
  · exact range_at (bx3 h) (by omega) (by omega)
  by_cases h4 : a < 160
  · exact range_at (bx4 h) (by omega) (by omega)
  by_cases h5 : a < 192
  · exact range_at (bx5 h) (by omega) (by omega)
  by_cases h6 : a < 224
  · exact range_at (bx6 h) (by omega) (by omega)
  · exact range_at (bx7 h) (by omega) (by omega)
def isB7 (b : Nat) : Bool := [1, 2, 3, 9, 11, 13, 14].contains b
theorem mul_all (b : Nat) (hb : isB7 b = true) (a : Nat) (ha : a < 256) (h : Heap) : callD c0 5 54 [AV.int .u8 (a : Nat), AV.int .u8 (b : Nat)] h = some (AV.int .u8 ((mulT b a : Nat) : Int), h) := by
  rw [← callC0]
  simp only [isB7, List.contains_cons, List.contains_nil, Bool.or_false, Bool.or_eq_true, beq_iff_eq] at hb
  rcases hb with rfl | rfl | rfl | rfl | rfl | rfl | rfl
  · exact range_at (mu1 h) (by omega) (by omega)
  · exact range_at (mu2 h) (by omega) (by omega)
  · exact range_at (mu3 h) (by omega) (by omega)
  · exact range_at (mu9 h) (by omega) (by omega)
  · exact range_at (mu11 h) (by omega) (by omega)
  · exact range_at (mu13 h) (by omega) (by omega)
  · exact range_at (mu14 h) (by omega) (by omega)
def tBox (args : List AV) : Option AV := match args with
  | [.int .u8 (.ofNat a)] => if a < 256 then some (.int .u8 ((sbT.getD a 0 : Nat) : Int)) else none
  | _ => none
def tMul (args : List AV) : Option AV := match args with
  | [.int .u8 (.ofNat a), .int .u8 (.ofNat b)] => if a < 256 then (if isB7 b = true then some (.int .u8 ((mulT b a : Nat) : Int)) else none) else none
  | _ => none
noncomputable def c1 : Env := c0.memo1 53 tBox
theorem c1_ok : c1.Ok := Env.memo1_ok c0_ok (d1 := 12) fun args v h => by
  unfold tBox at h
  split at h
  · rename_i a
    split at h
    · rename_i ha
      cases h
      exact ⟨rfl, fun h => ⟨h, box_all a ha h, fun _ _ => rfl⟩⟩
    · cases h
  · cases h
noncomputable def c2 : Env := c1.memo1 54 tMul
theorem c2_ok : c2.Ok := Env.memoOf_ok c1_ok c0_ok rfl (d1 := 5) fun args v h => by
  unfold tMul at h
  split at h
  · rename_i a b
    split at h
    · rename_i ha
      split at h
      · rename_i hb
        cases h
        exact ⟨rfl, fun h => ⟨h, mul_all b hb a ha h, fun _ _ => rfl⟩⟩
      · cases h
    · cases h
  · cases h
theorem c2_P : c2.P = Try.prog := rfl
theorem c2_L : c2.L = 100000 := rfl
def sb (x : Nat) : Nat := sbT.getD (x % 256) 0
theorem tBox_b8 (x : Nat) : tBox [b8 x] = some (b8 (sb x)) := by
  have h : x % 256 < 256 := Nat.mod_lt _ (by omega)
  have e : sbT.getD (x % 256) 0 % 256 = sbT.getD (x % 256) 0 := by
    have : ∀ a, a < 256 → sbT.getD a 0 % 256 = sbT.getD a 0 := by decide +kernel
    exact this _ h
  show (if x % 256 < 256 then some (AV.int .u8 ((sbT.getD (x % 256) 0 : Nat) : Int)) else none) = _
  rw [if_pos h]
  show _ = some (AV.int .u8 ((sbT.getD (x % 256) 0 % 256 : Nat) : Int))
  rw [e]
theorem mulT_lt : ∀ b, isB7 b = true → ∀ a, a < 256 → mulT b a < 256 := by
  intro b hb
  simp only [isB7, List.contains_cons, List.contains_nil, Bool.or_false, Bool.or_eq_true, beq_iff_eq] at hb
  rcases hb with rfl | rfl | rfl | rfl | rfl | rfl | rfl <;> decide +kernel
theorem tMul_b8 (b : Nat) (hb : isB7 b = true) (x : Nat) : tMul [b8 x, b8 b] = some (b8 (mulT b (x % 256))) := by
  have h : x % 256 < 256 := Nat.mod_lt _ (by omega)
  have hb2 : b % 256 = b := by
    simp only [isB7, List.contains_cons, List.contains_nil, Bool.or_false, Bool.or_eq_true, beq_iff_eq] at hb
    omega
  show (if x % 256 < 256 then (if isB7 (b % 256) = true then some (AV.int .u8 ((mulT (b % 256) (x % 256) : Nat) : Int)) else none) else none) = _
  rw [if_pos h, hb2, if_pos hb]
  show _ = some (AV.int .u8 ((mulT b (x % 256) % 256 : Nat) : Int))
  rw [Nat.mod_eq_of_lt (mulT_lt b hb _ h)]
theorem qBox (d : Nat) (x : Nat) (h : Heap) : callD c2 (d + 1) 53 [b8 x] h = some (b8 (sb x), h) := memo_call (t := tBox) rfl (tBox_b8 x) d h
theorem qMul (d b : Nat) (hb : isB7 b = true) (x : Nat) (h : Heap) : callD c2 (d + 1) 54 [b8 x, b8 b] h = some (b8 (mulT b (x % 256)), h) := memo_call (t := tMul) rfl (tMul_b8 b hb x) d h
theorem qM1 (d x : Nat) (h : Heap) : callD c2 (d + 1) 54 [b8 x, b8 1] h = some (b8 (mulT 1 (x % 256)), h) := qMul d 1 rfl x h
theorem qM2 (d x : Nat) (h : Heap) : callD c2 (d + 1) 54 [b8 x, b8 2] h = some (b8 (mulT 2 (x % 256)), h) := qMul d 2 rfl x h
theorem qM3 (d x : Nat) (h : Heap) : callD c2 (d + 1) 54 [b8 x, b8 3] h = some (b8 (mulT 3 (x % 256)), h) := qMul d 3 rfl x h
theorem qM9 (d x : Nat) (h : Heap) : callD c2 (d + 1) 54 [b8 x, b8 9] h = some (b8 (mulT 9 (x % 256)), h) := qMul d 9 rfl x h
theorem qM11 (d x : Nat) (h : Heap) : callD c2 (d + 1) 54 [b8 x, b8 11] h = some (b8 (mulT 11 (x % 256)), h) := qMul d 11 rfl x h
theorem qM13 (d x : Nat) (h : Heap) : callD c2 (d + 1) 54 [b8 x, b8 13] h = some (b8 (mulT 13 (x % 256)), h) := qMul d 13 rfl x h
theorem qM14 (d x : Nat) (h : Heap) : callD c2 (d + 1) 54 [b8 x, b8 14] h = some (b8 (mulT 14 (x % 256)), h) := qMul d 14 rfl x h
end Go.Proofs.Ythcbefolifpbpaa.R
