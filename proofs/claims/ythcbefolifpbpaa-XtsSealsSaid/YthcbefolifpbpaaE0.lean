/- Of this program, for all inputs: contracts. No condition but those in the theorems. -/
import Derived.Test.YthcbefolifpbpaaAwM3
import Derived.Test.YthcbefolifpbpaaAcM2
import Derived.Test.YthcbefolifpbpaaAiMemo
import Derived.Test.YthcbefolifpbpaaAwStr
import Derived.Test.YthcbefolifpbpaaTy
import Derived.KernelRfl
namespace Go.Proofs.Ythcbefolifpbpaa.R
open Go Go.Ai Go.Aw Go.Proofs
open Nat renaming reduceBEq → uB, reduceEqDiff → uE, reduceLT → uL, reduceAdd → uA, reduceMul → uM, reduceSub → uS, reduceAnd → uN, reduceXor → uX, reduceOr → uO
open Int renaming reduceMod → vR, reduceDiv → vD, reduceLT → vL, reduceLE → vK, reduceEq → vE, reduceAdd → vA, reduceMul → vM, reduceToNat → vT
set_option linter.unusedSimpArgs false
set_option linter.unusedVariables false
set_option maxRecDepth 10000
noncomputable def c0 : Env := Env.of Try.prog 100000
theorem c0_ok : c0.Ok := Env.of_ok (by kernel_rfl) (by kernel_rfl) (by kernel_rfl)
theorem c0_P : c0.P = Try.prog := rfl
theorem c0_L : c0.L = 100000 := rfl
/-- the S-box -/
def sbT : List Nat := [99, 124, 119, 123, 242, 107, 111, 197, 48, 1, 103, 43, 254, 215, 171, 118, 202, 130, 201, 125, 250, 89, 71, 240, 173, 212, 162, 175, 156, 164, 114, 192, 183, 253, 147, 38, 54, 63, 247, 204, 52, 165, 229, 241, 113, 216, 49, 21, 4, 199, 35, 195, 24, 150, 5, 154, 7, 18, 128, 226, 235, 39, 178, 117, 9, 131, 44, 26, 27, 110, 90, 160, 82, 59, 214, 179, 41, 227, 47, 132, 83, 209, 0, 237, 32, 252, 177, 91, 106, 203, 190, 57, 74, 76, 88, 207, 208, 239, 170, 251, 67, 77, 51, 133, 69, 249, 2, 127, 80, 60, 159, 168, 81, 163, 64, 143, 146, 157, 56, 245, 188, 182, 218, 33, 16, 255, 243, 210, 205, 12, 19, 236, 95, 151, 68, 23, 196, 167, 126, 61, 100, 93, 25, 115, 96, 129, 79, 220, 34, 42, 144, 136, 70, 238, 184, 20, 222, 94, 11, 219, 224, 50, 58, 10, 73, 6, 36, 92, 194, 211, 172, 98, 145, 149, 228, 121, 231, 200, 55, 109, 141, 213, 78, 169, 108, 86, 244, 234, 101, 122, 174, 8, 186, 120, 37, 46, 28, 166, 180, 198, 232, 221, 116, 31, 75, 189, 139, 138, 112, 62, 181, 102, 72, 3, 246, 14, 97, 53, 87, 185, 134, 193, 29, 158, 225, 248, 152, 17, 105, 217, 142, 148, 155, 30, 135, 233, 206, 85, 40, 223, 140, 161, 137, 13, 191, 230, 66, 104, 65, 153, 45, 15, 176, 84, 187, 22]
/-- twice a byte -/
def x2 (a : Nat) : Nat := ((a * 2) % 256) ^^^ (if a < 128 then 0 else 27)
/-- a byte by a constant -/
def mulT (b a : Nat) : Nat := match b with
  | 1 => a
  | 2 => x2 a
  | 3 => x2 a ^^^ a
  | 9 => x2 (x2 (x2 a)) ^^^ a
  | 11 => x2 (x2 (x2 a)) ^^^ (x2 a ^^^ a)
  | 13 => x2 (x2 (x2 a)) ^^^ (x2 (x2 a) ^^^ a)
  | 14 => x2 (x2 (x2 a)) ^^^ (x2 (x2 a) ^^^ x2 a)
  | _ => 0
theorem range_at {β : Type} {f g : Nat → β} {s n : Nat} (h : (List.range' s n).map f = (List.range' s n).map g) {i : Nat} (h1 : s ≤ i) (h2 : i < s + n) : f i = g i := by
  rw [List.map_inj_left] at h
  exact h i (by rw [List.mem_range'_1]; exact ⟨h1, h2⟩)
theorem mu1 (h : Heap) : (List.range' 0 256).map (fun a => Go.Ac.callC c0 5 54 [AV.int .u8 (a : Nat), AV.int .u8 1] h) = (List.range' 0 256).map (fun a => some (AV.int .u8 ((mulT 1 a : Nat) : Int), h)) := by kernel_rfl
theorem mu2 (h : Heap) : (List.range' 0 256).map (fun a => Go.Ac.callC c0 5 54 [AV.int .u8 (a : Nat), AV.int .u8 2] h) = (List.range' 0 256).map (fun a => some (AV.int .u8 ((mulT 2 a : Nat) : Int), h)) := by kernel_rfl
theorem mu3 (h : Heap) : (List.range' 0 256).map (fun a => Go.Ac.callC c0 5 54 [AV.int .u8 (a : Nat), AV.int .u8 3] h) = (List.range' 0 256).map (fun a => some (AV.int .u8 ((mulT 3 a : Nat) : Int), h)) := by kernel_rfl
theorem mu9 (h : Heap) : (List.range' 0 256).map (fun a => Go.Ac.callC c0 5 54 [AV.int .u8 (a : Nat), AV.int .u8 9] h) = (List.range' 0 256).map (fun a => some (AV.int .u8 ((mulT 9 a : Nat) : Int), h)) := by kernel_rfl
theorem mu11 (h : Heap) : (List.range' 0 256).map (fun a => Go.Ac.callC c0 5 54 [AV.int .u8 (a : Nat), AV.int .u8 11] h) = (List.range' 0 256).map (fun a => some (AV.int .u8 ((mulT 11 a : Nat) : Int), h)) := by kernel_rfl
theorem mu13 (h : Heap) : (List.range' 0 256).map (fun a => Go.Ac.callC c0 5 54 [AV.int .u8 (a : Nat), AV.int .u8 13] h) = (List.range' 0 256).map (fun a => some (AV.int .u8 ((mulT 13 a : Nat) : Int), h)) := by kernel_rfl
theorem mu14 (h : Heap) : (List.range' 0 256).map (fun a => Go.Ac.callC c0 5 54 [AV.int .u8 (a : Nat), AV.int .u8 14] h) = (List.range' 0 256).map (fun a => some (AV.int .u8 ((mulT 14 a : Nat) : Int), h)) := by kernel_rfl
end Go.Proofs.Ythcbefolifpbpaa.R
