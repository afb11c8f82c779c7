/- Of this program, for all inputs: contracts. No condition but those in the theorems. -/
import Derived.Test.YthcbefolifpbpaaA8
namespace Go.Proofs.Ythcbefolifpbpaa
open Go Go.Ai Go.Aw Go.Proofs
open Nat renaming reduceBEq → uB, reduceEqDiff → uE, reduceLT → uL, reduceAdd → uA, reduceMul → uM, reduceSub → uS, reduceAnd → uN, reduceXor → uX, reduceOr → uO
open Int renaming reduceMod → vR, reduceDiv → vD, reduceLT → vL, reduceLE → vK, reduceEq → vE, reduceAdd → vA, reduceMul → vM, reduceToNat → vT
set_option linter.unusedSimpArgs false
set_option linter.unusedVariables false
set_option maxRecDepth 100000
def sbL : List Nat := [99, 124, 119, 123, 242, 107, 111, 197, 48, 1, 103, 43, 254, 215, 171, 118, 202, 130, 201, 125, 250, 89, 71, 240, 173, 212, 162, 175, 156, 164, 114, 192, 183, 253, 147, 38, 54, 63, 247, 204, 52, 165, 229, 241, 113, 216, 49, 21, 4, 199, 35, 195, 24, 150, 5, 154, 7, 18, 128, 226, 235, 39, 178, 117, 9, 131, 44, 26, 27, 110, 90, 160, 82, 59, 214, 179, 41, 227, 47, 132, 83, 209, 0, 237, 32, 252, 177, 91, 106, 203, 190, 57, 74, 76, 88, 207, 208, 239, 170, 251, 67, 77, 51, 133, 69, 249, 2, 127, 80, 60, 159, 168, 81, 163, 64, 143, 146, 157, 56, 245, 188, 182, 218, 33, 16, 255, 243, 210, 205, 12, 19, 236, 95, 151, 68, 23, 196, 167, 126, 61, 100, 93, 25, 115, 96, 129, 79, 220, 34, 42, 144, 136, 70, 238, 184, 20, 222, 94, 11, 219, 224, 50, 58, 10, 73, 6, 36, 92, 194, 211, 172, 98, 145, 149, 228, 121, 231, 200, 55, 109, 141, 213, 78, 169, 108, 86, 244, 234, 101, 122, 174, 8, 186, 120, 37, 46, 28, 166, 180, 198, 232, 221, 116, 31, 75, 189, 139, 138, 112, 62, 181, 102, 72, 3, 246, 14, 97, 53, 87, 185, 134, 193, 29, 158, 225, 248, 152, 17, 105, 217, 142, 148, 155, 30, 135, 233, 206, 85, 40, 223, 140, 161, 137, 13, 191, 230, 66, 104, 65, 153, 45, 15, 176, 84, 187, 22]
def ibL : List Nat := [82, 9, 106, 213, 48, 54, 165, 56, 191, 64, 163, 158, 129, 243, 215, 251, 124, 227, 57, 130, 155, 47, 255, 135, 52, 142, 67, 68, 196, 222, 233, 203, 84, 123, 148, 50, 166, 194, 35, 61, 238, 76, 149, 11, 66, 250, 195, 78, 8, 46, 161, 102, 40, 217, 36, 178, 118, 91, 162, 73, 109, 139, 209, 37, 114, 248, 246, 100, 134, 104, 152, 22, 212, 164, 92, 204, 93, 101, 182, 146, 108, 112, 72, 80, 253, 237, 185, 218, 94, 21, 70, 87, 167, 141, 157, 132, 144, 216, 171, 0, 140, 188, 211, 10, 247, 228, 88, 5, 184, 179, 69, 6, 208, 44, 30, 143, 202, 63, 15, 2, 193, 175, 189, 3, 1, 19, 138, 107, 58, 145, 17, 65, 79, 103, 220, 234, 151, 242, 207, 206, 240, 180, 230, 115, 150, 172, 116, 34, 231, 173, 53, 133, 226, 249, 55, 232, 28, 117, 223, 110, 71, 241, 26, 113, 29, 41, 197, 137, 111, 183, 98, 14, 170, 24, 190, 27, 252, 86, 62, 75, 198, 210, 121, 32, 154, 219, 192, 254, 120, 205, 90, 244, 31, 221, 168, 51, 136, 7, 199, 49, 177, 18, 16, 89, 39, 128, 236, 95, 96, 81, 127, 169, 25, 181, 74, 13, 45, 229, 122, 159, 147, 201, 156, 239, 160, 224, 59, 77, 174, 42, 245, 176, 200, 235, 187, 60, 131, 83, 153, 97, 23, 43, 4, 126, 186, 119, 214, 38, 225, 105, 20, 99, 85, 33, 12, 125]
theorem sb_eq : M S0 = sbL := by kernel_rfl
theorem ib_eq : M Inv0 = ibL := by kernel_rfl
theorem tabS : ∀ a, a < 256 → ibL.getD (sbL.getD a 0) 0 = a := by decide +kernel
theorem tabI : ∀ a, a < 256 → sbL.getD (ibL.getD a 0) 0 = a := by decide +kernel
theorem sbB : ∀ a, a < 256 → sbL.getD a 0 < 256 := by decide +kernel
theorem ibB : ∀ a, a < 256 → ibL.getD a 0 < 256 := by decide +kernel
theorem getD_M (l : List Nat) (i : Nat) : (M l).getD i 0 = l.getD i 0 % 256 := by
  simp only [M, List.getD_eq_getElem?_getD, List.getElem?_map]
  cases l[i]? <;> simp
theorem sub_S (x : Nat) : sub S0 x % 256 = sbL.getD (x % 256) 0 := by rw [sub, ← getD_M, sb_eq]
theorem sub_I (x : Nat) : sub Inv0 x % 256 = ibL.getD (x % 256) 0 := by rw [sub, ← getD_M, ib_eq]
theorem sub_IS (x y : Nat) (h : y % 256 = sub S0 x % 256) : sub Inv0 y % 256 = x % 256 := by
  rw [sub_I, h, sub_S, tabS _ (Nat.mod_lt _ (by omega))]
theorem sub_SI (x y : Nat) (h : y % 256 = sub Inv0 x % 256) : sub S0 y % 256 = x % 256 := by
  rw [sub_S, h, sub_I, tabI _ (Nat.mod_lt _ (by omega))]
/-- the doubling of a byte, as a byte -/
def dd (x : Nat) : Nat := dbl (x % 256) % 256
theorem dd_tab : ∀ a, a < 256 → ∀ b, b < 256 → dd (a ^^^ b) = dd a ^^^ dd b := by decide +kernel
end Go.Proofs.Ythcbefolifpbpaa
namespace Go.Proofs.Ythcbefolifpbpaa
open Go Go.Ai Go.Aw Go.Proofs
open Nat renaming reduceBEq → uB, reduceEqDiff → uE, reduceLT → uL, reduceAdd → uA, reduceMul → uM, reduceSub → uS, reduceAnd → uN, reduceXor → uX, reduceOr → uO
open Int renaming reduceMod → vR, reduceDiv → vD, reduceLT → vL, reduceLE → vK, reduceEq → vE, reduceAdd → vA, reduceMul → vM, reduceToNat → vT
set_option linter.unusedSimpArgs false
set_option linter.unusedVariables false
set_option maxRecDepth 10000
theorem xm (a b : Nat) : (a ^^^ b) % 256 = a % 256 ^^^ b % 256 := Nat.xor_mod_two_pow (n := 8)
theorem xx (a b : Nat) : a ^^^ (a ^^^ b) = b := by rw [← Nat.xor_assoc, Nat.xor_self, Nat.zero_xor]
theorem ddm (x : Nat) : dd (x % 256) = dd x := by rw [dd, Nat.mod_mod]; rfl
theorem dd_xor (x y : Nat) : dd (x ^^^ y) = dd x ^^^ dd y := by
  rw [← ddm, xm, dd_tab _ (Nat.mod_lt _ (by omega)) _ (Nat.mod_lt _ (by omega)), ddm, ddm]
theorem dbl_mod (x : Nat) : dbl x % 256 = dd x := by
  unfold dd dbl
  rw [xm, xm, Nat.mod_mod]
  congr 1
  omega
theorem dd_dbl (x : Nat) : dd (dbl x) = dd (dd x) := by rw [← ddm, dbl_mod]
theorem dd_lt (x : Nat) : dd x % 256 = dd x := by rw [dd, Nat.mod_mod]
theorem mixt0 (a0 a1 a2 a3 : Nat) : mix0 (mix0 a0 a1 a2 a3) (mix1 a0 a1 a2 a3) (mix2 a0 a1 a2 a3) (mix3 a0 a1 a2 a3) % 256 = a0 % 256 ^^^ (dd (dd a0) ^^^ dd (dd a2)) := by
  simp only [mix0, mix1, mix2, mix3, xm, dbl_mod, dd_xor, dd_dbl, dd_lt]
  refine Nat.eq_of_testBit_eq fun i => ?_
  simp only [Nat.testBit_xor]
  generalize (dd (dd a0)).testBit i = z0
  generalize (dd (dd a1)).testBit i = z1
  generalize (dd (dd a2)).testBit i = z2
  generalize (dd (dd a3)).testBit i = z3
  generalize (dd a0).testBit i = z4
  generalize (dd a1).testBit i = z5
  generalize (dd a2).testBit i = z6
  generalize (dd a3).testBit i = z7
  generalize (a0 % 256).testBit i = z8
  generalize (a1 % 256).testBit i = z9
  generalize (a2 % 256).testBit i = z10
  generalize (a3 % 256).testBit i = z11
  revert z0 z1 z2 z3 z4 z5 z6 z7 z8 z9 z10 z11
  decide +kernel
theorem mixt1 (a0 a1 a2 a3 : Nat) : mix1 (mix0 a0 a1 a2 a3) (mix1 a0 a1 a2 a3) (mix2 a0 a1 a2 a3) (mix3 a0 a1 a2 a3) % 256 = a1 % 256 ^^^ (dd (dd a1) ^^^ dd (dd a3)) := by
  simp only [mix0, mix1, mix2, mix3, xm, dbl_mod, dd_xor, dd_dbl, dd_lt]
  refine Nat.eq_of_testBit_eq fun i => ?_
  simp only [Nat.testBit_xor]
  generalize (dd (dd a0)).testBit i = z0
  generalize (dd (dd a1)).testBit i = z1
  generalize (dd (dd a2)).testBit i = z2
  generalize (dd (dd a3)).testBit i = z3
  generalize (dd a0).testBit i = z4
  generalize (dd a1).testBit i = z5
  generalize (dd a2).testBit i = z6
  generalize (dd a3).testBit i = z7
  generalize (a0 % 256).testBit i = z8
  generalize (a1 % 256).testBit i = z9
  generalize (a2 % 256).testBit i = z10
  generalize (a3 % 256).testBit i = z11
  revert z0 z1 z2 z3 z4 z5 z6 z7 z8 z9 z10 z11
  decide +kernel
theorem mixt2 (a0 a1 a2 a3 : Nat) : mix2 (mix0 a0 a1 a2 a3) (mix1 a0 a1 a2 a3) (mix2 a0 a1 a2 a3) (mix3 a0 a1 a2 a3) % 256 = a2 % 256 ^^^ (dd (dd a2) ^^^ dd (dd a0)) := by
  simp only [mix0, mix1, mix2, mix3, xm, dbl_mod, dd_xor, dd_dbl, dd_lt]
  refine Nat.eq_of_testBit_eq fun i => ?_
  simp only [Nat.testBit_xor]
  generalize (dd (dd a0)).testBit i = z0
  generalize (dd (dd a1)).testBit i = z1
  generalize (dd (dd a2)).testBit i = z2
  generalize (dd (dd a3)).testBit i = z3
  generalize (dd a0).testBit i = z4
  generalize (dd a1).testBit i = z5
  generalize (dd a2).testBit i = z6
  generalize (dd a3).testBit i = z7
  generalize (a0 % 256).testBit i = z8
  generalize (a1 % 256).testBit i = z9
  generalize (a2 % 256).testBit i = z10
  generalize (a3 % 256).testBit i = z11
  revert z0 z1 z2 z3 z4 z5 z6 z7 z8 z9 z10 z11
  decide +kernel
theorem mixt3 (a0 a1 a2 a3 : Nat) : mix3 (mix0 a0 a1 a2 a3) (mix1 a0 a1 a2 a3) (mix2 a0 a1 a2 a3) (mix3 a0 a1 a2 a3) % 256 = a3 % 256 ^^^ (dd (dd a3) ^^^ dd (dd a1)) := by
  simp only [mix0, mix1, mix2, mix3, xm, dbl_mod, dd_xor, dd_dbl, dd_lt]
  refine Nat.eq_of_testBit_eq fun i => ?_
  simp only [Nat.testBit_xor]
  generalize (dd (dd a0)).testBit i = z0
  generalize (dd (dd a1)).testBit i = z1
  generalize (dd (dd a2)).testBit i = z2
  generalize (dd (dd a3)).testBit i = z3
  generalize (dd a0).testBit i = z4
  generalize (dd a1).testBit i = z5
  generalize (dd a2).testBit i = z6
  generalize (dd a3).testBit i = z7
  generalize (a0 % 256).testBit i = z8
  generalize (a1 % 256).testBit i = z9
  generalize (a2 % 256).testBit i = z10
  generalize (a3 % 256).testBit i = z11
  revert z0 z1 z2 z3 z4 z5 z6 z7 z8 z9 z10 z11
  decide +kernel
theorem fin4 (A B p q : Nat) (hp : p % 256 = A % 256 ^^^ (dd (dd A) ^^^ dd (dd B))) (hq : q % 256 = B % 256 ^^^ (dd (dd B) ^^^ dd (dd A))) : p % 256 ^^^ (dd (dd p) ^^^ dd (dd q)) = A % 256 := by
  rw [← ddm p, ← ddm q, hp, hq]
  simp only [dd_xor, ddm]
  refine Nat.eq_of_testBit_eq fun i => ?_
  simp only [Nat.testBit_xor]
  generalize (dd (dd (dd (dd A)))).testBit i = z0
  generalize (dd (dd (dd (dd B)))).testBit i = z1
  generalize (dd (dd A)).testBit i = z2
  generalize (dd (dd B)).testBit i = z3
  generalize (A % 256).testBit i = z4
  revert z0 z1 z2 z3 z4
  decide +kernel
theorem mm0 (x : List Nat) : (mixL (mixL x)).getD 0 0 % 256 = x.getD 0 0 % 256 ^^^ (dd (dd (x.getD 0 0)) ^^^ dd (dd (x.getD 2 0))) := mixt0 (x.getD 0 0) (x.getD 1 0) (x.getD 2 0) (x.getD 3 0)
theorem mm1 (x : List Nat) : (mixL (mixL x)).getD 1 0 % 256 = x.getD 1 0 % 256 ^^^ (dd (dd (x.getD 1 0)) ^^^ dd (dd (x.getD 3 0))) := mixt1 (x.getD 0 0) (x.getD 1 0) (x.getD 2 0) (x.getD 3 0)
theorem mm2 (x : List Nat) : (mixL (mixL x)).getD 2 0 % 256 = x.getD 2 0 % 256 ^^^ (dd (dd (x.getD 2 0)) ^^^ dd (dd (x.getD 0 0))) := mixt2 (x.getD 0 0) (x.getD 1 0) (x.getD 2 0) (x.getD 3 0)
theorem mm3 (x : List Nat) : (mixL (mixL x)).getD 3 0 % 256 = x.getD 3 0 % 256 ^^^ (dd (dd (x.getD 3 0)) ^^^ dd (dd (x.getD 1 0))) := mixt3 (x.getD 0 0) (x.getD 1 0) (x.getD 2 0) (x.getD 3 0)
theorem mm4 (x : List Nat) : (mixL (mixL x)).getD 4 0 % 256 = x.getD 4 0 % 256 ^^^ (dd (dd (x.getD 4 0)) ^^^ dd (dd (x.getD 6 0))) := mixt0 (x.getD 4 0) (x.getD 5 0) (x.getD 6 0) (x.getD 7 0)
theorem mm5 (x : List Nat) : (mixL (mixL x)).getD 5 0 % 256 = x.getD 5 0 % 256 ^^^ (dd (dd (x.getD 5 0)) ^^^ dd (dd (x.getD 7 0))) := mixt1 (x.getD 4 0) (x.getD 5 0) (x.getD 6 0) (x.getD 7 0)
theorem mm6 (x : List Nat) : (mixL (mixL x)).getD 6 0 % 256 = x.getD 6 0 % 256 ^^^ (dd (dd (x.getD 6 0)) ^^^ dd (dd (x.getD 4 0))) := mixt2 (x.getD 4 0) (x.getD 5 0) (x.getD 6 0) (x.getD 7 0)
theorem mm7 (x : List Nat) : (mixL (mixL x)).getD 7 0 % 256 = x.getD 7 0 % 256 ^^^ (dd (dd (x.getD 7 0)) ^^^ dd (dd (x.getD 5 0))) := mixt3 (x.getD 4 0) (x.getD 5 0) (x.getD 6 0) (x.getD 7 0)
theorem mm8 (x : List Nat) : (mixL (mixL x)).getD 8 0 % 256 = x.getD 8 0 % 256 ^^^ (dd (dd (x.getD 8 0)) ^^^ dd (dd (x.getD 10 0))) := mixt0 (x.getD 8 0) (x.getD 9 0) (x.getD 10 0) (x.getD 11 0)
theorem mm9 (x : List Nat) : (mixL (mixL x)).getD 9 0 % 256 = x.getD 9 0 % 256 ^^^ (dd (dd (x.getD 9 0)) ^^^ dd (dd (x.getD 11 0))) := mixt1 (x.getD 8 0) (x.getD 9 0) (x.getD 10 0) (x.getD 11 0)
theorem mm10 (x : List Nat) : (mixL (mixL x)).getD 10 0 % 256 = x.getD 10 0 % 256 ^^^ (dd (dd (x.getD 10 0)) ^^^ dd (dd (x.getD 8 0))) := mixt2 (x.getD 8 0) (x.getD 9 0) (x.getD 10 0) (x.getD 11 0)
theorem mm11 (x : List Nat) : (mixL (mixL x)).getD 11 0 % 256 = x.getD 11 0 % 256 ^^^ (dd (dd (x.getD 11 0)) ^^^ dd (dd (x.getD 9 0))) := mixt3 (x.getD 8 0) (x.getD 9 0) (x.getD 10 0) (x.getD 11 0)
theorem mm12 (x : List Nat) : (mixL (mixL x)).getD 12 0 % 256 = x.getD 12 0 % 256 ^^^ (dd (dd (x.getD 12 0)) ^^^ dd (dd (x.getD 14 0))) := mixt0 (x.getD 12 0) (x.getD 13 0) (x.getD 14 0) (x.getD 15 0)
theorem mm13 (x : List Nat) : (mixL (mixL x)).getD 13 0 % 256 = x.getD 13 0 % 256 ^^^ (dd (dd (x.getD 13 0)) ^^^ dd (dd (x.getD 15 0))) := mixt1 (x.getD 12 0) (x.getD 13 0) (x.getD 14 0) (x.getD 15 0)
theorem mm14 (x : List Nat) : (mixL (mixL x)).getD 14 0 % 256 = x.getD 14 0 % 256 ^^^ (dd (dd (x.getD 14 0)) ^^^ dd (dd (x.getD 12 0))) := mixt2 (x.getD 12 0) (x.getD 13 0) (x.getD 14 0) (x.getD 15 0)
theorem mm15 (x : List Nat) : (mixL (mixL x)).getD 15 0 % 256 = x.getD 15 0 % 256 ^^^ (dd (dd (x.getD 15 0)) ^^^ dd (dd (x.getD 13 0))) := mixt3 (x.getD 12 0) (x.getD 13 0) (x.getD 14 0) (x.getD 15 0)
theorem mq0 (x : List Nat) : (mixL (mixL (mixL (mixL x)))).getD 0 0 % 256 = x.getD 0 0 % 256 := (mm0 (mixL (mixL x))).trans (fin4 _ _ _ _ (mm0 x) (mm2 x))
theorem mq1 (x : List Nat) : (mixL (mixL (mixL (mixL x)))).getD 1 0 % 256 = x.getD 1 0 % 256 := (mm1 (mixL (mixL x))).trans (fin4 _ _ _ _ (mm1 x) (mm3 x))
theorem mq2 (x : List Nat) : (mixL (mixL (mixL (mixL x)))).getD 2 0 % 256 = x.getD 2 0 % 256 := (mm2 (mixL (mixL x))).trans (fin4 _ _ _ _ (mm2 x) (mm0 x))
theorem mq3 (x : List Nat) : (mixL (mixL (mixL (mixL x)))).getD 3 0 % 256 = x.getD 3 0 % 256 := (mm3 (mixL (mixL x))).trans (fin4 _ _ _ _ (mm3 x) (mm1 x))
theorem mq4 (x : List Nat) : (mixL (mixL (mixL (mixL x)))).getD 4 0 % 256 = x.getD 4 0 % 256 := (mm4 (mixL (mixL x))).trans (fin4 _ _ _ _ (mm4 x) (mm6 x))
theorem mq5 (x : List Nat) : (mixL (mixL (mixL (mixL x)))).getD 5 0 % 256 = x.getD 5 0 % 256 := (mm5 (mixL (mixL x))).trans (fin4 _ _ _ _ (mm5 x) (mm7 x))
theorem mq6 (x : List Nat) : (mixL (mixL (mixL (mixL x)))).getD 6 0 % 256 = x.getD 6 0 % 256 := (mm6 (mixL (mixL x))).trans (fin4 _ _ _ _ (mm6 x) (mm4 x))
theorem mq7 (x : List Nat) : (mixL (mixL (mixL (mixL x)))).getD 7 0 % 256 = x.getD 7 0 % 256 := (mm7 (mixL (mixL x))).trans (fin4 _ _ _ _ (mm7 x) (mm5 x))
theorem mq8 (x : List Nat) : (mixL (mixL (mixL (mixL x)))).getD 8 0 % 256 = x.getD 8 0 % 256 := (mm8 (mixL (mixL x))).trans (fin4 _ _ _ _ (mm8 x) (mm10 x))
theorem mq9 (x : List Nat) : (mixL (mixL (mixL (mixL x)))).getD 9 0 % 256 = x.getD 9 0 % 256 := (mm9 (mixL (mixL x))).trans (fin4 _ _ _ _ (mm9 x) (mm11 x))
theorem mq10 (x : List Nat) : (mixL (mixL (mixL (mixL x)))).getD 10 0 % 256 = x.getD 10 0 % 256 := (mm10 (mixL (mixL x))).trans (fin4 _ _ _ _ (mm10 x) (mm8 x))
theorem mq11 (x : List Nat) : (mixL (mixL (mixL (mixL x)))).getD 11 0 % 256 = x.getD 11 0 % 256 := (mm11 (mixL (mixL x))).trans (fin4 _ _ _ _ (mm11 x) (mm9 x))
theorem mq12 (x : List Nat) : (mixL (mixL (mixL (mixL x)))).getD 12 0 % 256 = x.getD 12 0 % 256 := (mm12 (mixL (mixL x))).trans (fin4 _ _ _ _ (mm12 x) (mm14 x))
theorem mq13 (x : List Nat) : (mixL (mixL (mixL (mixL x)))).getD 13 0 % 256 = x.getD 13 0 % 256 := (mm13 (mixL (mixL x))).trans (fin4 _ _ _ _ (mm13 x) (mm15 x))
theorem mq14 (x : List Nat) : (mixL (mixL (mixL (mixL x)))).getD 14 0 % 256 = x.getD 14 0 % 256 := (mm14 (mixL (mixL x))).trans (fin4 _ _ _ _ (mm14 x) (mm12 x))
theorem mq15 (x : List Nat) : (mixL (mixL (mixL (mixL x)))).getD 15 0 % 256 = x.getD 15 0 % 256 := (mm15 (mixL (mixL x))).trans (fin4 _ _ _ _ (mm15 x) (mm13 x))
theorem M16 {x : List Nat} (h : x.length = 16) : M x = [x.getD 0 0 % 256, x.getD 1 0 % 256, x.getD 2 0 % 256, x.getD 3 0 % 256, x.getD 4 0 % 256, x.getD 5 0 % 256, x.getD 6 0 % 256, x.getD 7 0 % 256, x.getD 8 0 % 256, x.getD 9 0 % 256, x.getD 10 0 % 256, x.getD 11 0 % 256, x.getD 12 0 % 256, x.getD 13 0 % 256, x.getD 14 0 % 256, x.getD 15 0 % 256] := by
  match x, h with
  | [a, b, c, d, e, f, g, h, i, j, k, l, m, n, o, p], _ => rfl
theorem mixL_len (x : List Nat) : (mixL x).length = 16 := rfl
theorem mix4 (x : List Nat) (h : x.length = 16) : M (mixL (mixL (mixL (mixL x)))) = M x := by
  rw [M16 (mixL_len _), M16 h, mq0, mq1, mq2, mq3, mq4, mq5, mq6, mq7, mq8, mq9, mq10, mq11, mq12, mq13, mq14, mq15]
theorem M_at {x y : List Nat} (h : M x = M y) (i : Nat) : x.getD i 0 % 256 = y.getD i 0 % 256 := by rw [← getD_M, h, getD_M]
theorem addL_c {K x y : List Nat} {r : Nat} (h : M x = M y) : M (addL K r x) = M (addL K r y) := by
  simp only [addL, M, List.map_cons, List.map_nil, xm, M_at h]
theorem sub_c {S : List Nat} {x y : Nat} (h : x % 256 = y % 256) : sub S x = sub S y := by rw [sub, sub, h]
theorem subL_c {S x y : List Nat} (h : M x = M y) : M (subL S x) = M (subL S y) := by
  simp only [subL, M, List.map_cons, List.map_nil, sub_c (M_at h _)]
theorem isubL_c {S x y : List Nat} (h : M x = M y) : M (isubL S x) = M (isubL S y) := by
  simp only [isubL, M, List.map_cons, List.map_nil, sub_c (M_at h _)]
theorem dd_c {x y : Nat} (h : x % 256 = y % 256) : dd x = dd y := by rw [← ddm, h, ddm]
theorem mixL_c {x y : List Nat} (h : M x = M y) : M (mixL x) = M (mixL y) := by
  simp only [mixL, mix0, mix1, mix2, mix3, M, List.map_cons, List.map_nil, xm, dbl_mod, dd_xor, M_at h, dd_c (M_at h _)]
theorem add_add {K x : List Nat} {r : Nat} (h : x.length = 16) : M (addL K r (addL K r x)) = M x := by
  rw [M16 h]
  simp only [addL, M, List.map_cons, List.map_nil, List.getD_cons_zero, List.getD_cons_succ, Nat.xor_assoc, Nat.xor_self, Nat.xor_zero]
theorem isub_sub {x y : List Nat} (hx : x.length = 16) (h : M y = M (subL S0 x)) : M (isubL Inv0 y) = M x := by
  have e := M_at h
  rw [M16 hx]
  simp only [isubL, M, List.map_cons, List.map_nil]
  rw [sub_IS (x.getD 0 0) _ (e 0), sub_IS (x.getD 1 0) _ (e 13), sub_IS (x.getD 2 0) _ (e 10), sub_IS (x.getD 3 0) _ (e 7), sub_IS (x.getD 4 0) _ (e 4), sub_IS (x.getD 5 0) _ (e 1), sub_IS (x.getD 6 0) _ (e 14), sub_IS (x.getD 7 0) _ (e 11), sub_IS (x.getD 8 0) _ (e 8), sub_IS (x.getD 9 0) _ (e 5), sub_IS (x.getD 10 0) _ (e 2), sub_IS (x.getD 11 0) _ (e 15), sub_IS (x.getD 12 0) _ (e 12), sub_IS (x.getD 13 0) _ (e 9), sub_IS (x.getD 14 0) _ (e 6), sub_IS (x.getD 15 0) _ (e 3)]
theorem sub_isub {x y : List Nat} (hx : x.length = 16) (h : M y = M (isubL Inv0 x)) : M (subL S0 y) = M x := by
  have e := M_at h
  rw [M16 hx]
  simp only [subL, M, List.map_cons, List.map_nil]
  rw [sub_SI (x.getD 0 0) _ (e 0), sub_SI (x.getD 1 0) _ (e 5), sub_SI (x.getD 2 0) _ (e 10), sub_SI (x.getD 3 0) _ (e 15), sub_SI (x.getD 4 0) _ (e 4), sub_SI (x.getD 5 0) _ (e 9), sub_SI (x.getD 6 0) _ (e 14), sub_SI (x.getD 7 0) _ (e 3), sub_SI (x.getD 8 0) _ (e 8), sub_SI (x.getD 9 0) _ (e 13), sub_SI (x.getD 10 0) _ (e 2), sub_SI (x.getD 11 0) _ (e 7), sub_SI (x.getD 12 0) _ (e 12), sub_SI (x.getD 13 0) _ (e 1), sub_SI (x.getD 14 0) _ (e 6), sub_SI (x.getD 15 0) _ (e 11)]
end Go.Proofs.Ythcbefolifpbpaa
namespace Go.Proofs.Ythcbefolifpbpaa
open Go Go.Ai Go.Aw Go.Proofs
open Nat renaming reduceBEq → uB, reduceEqDiff → uE, reduceLT → uL, reduceAdd → uA, reduceMul → uM, reduceSub → uS, reduceAnd → uN, reduceXor → uX, reduceOr → uO
open Int renaming reduceMod → vR, reduceDiv → vD, reduceLT → vL, reduceLE → vK, reduceEq → vE, reduceAdd → vA, reduceMul → vM, reduceToNat → vT
set_option linter.unusedSimpArgs false
set_option linter.unusedVariables false
set_option maxRecDepth 10000
theorem rnds16 (S K b : List Nat) : ∀ r, (rnds S K b r).length = 16
  | 0 => rfl
  | _ + 1 => rfl
theorem mix3_c {x y : List Nat} (h : M x = M y) : M (mixL (mixL (mixL x))) = M (mixL (mixL (mixL y))) := mixL_c (mixL_c (mixL_c h))
theorem unrnd (K b : List Nat) : ∀ j, j ≤ 14 → M (ornds Inv0 K (rnds S0 K b 14) j) = M (rnds S0 K b (14 - j))
  | 0, _ => rfl
  | j + 1, hj => by
    have ih := unrnd K b j (by omega)
    obtain ⟨r, hr⟩ : ∃ r, 14 - j = r + 1 := ⟨13 - j, by omega⟩
    have hr' : 14 - (j + 1) = r := by omega
    rw [hr] at ih
    rw [hr', ornds, hr]
    have hs : (subL S0 (rnds S0 K b r)).length = 16 := rfl
    refine isub_sub (rnds16 ..) ?_
    have ha : M (addL K (r + 1) (ornds Inv0 K (rnds S0 K b 14) j)) = M (cond (decide (r + 1 < 14)) (mixL (subL S0 (rnds S0 K b r))) (subL S0 (rnds S0 K b r))) := by
      rw [addL_c ih, rnds]
      refine add_add ?_
      cases decide (r + 1 < 14) <;> rfl
    cases hc : decide (r + 1 < 14) with
    | true => rw [hc] at ha; exact (mix3_c ha).trans (mix4 _ hs)
    | false => rw [hc] at ha; exact ha
theorem open_seal (K b : List Nat) (hb : b.length = 16) : M (openK K (sealK K b)) = M b := by
  rw [openK, openL, sealK, addL_c (unrnd K b 14 (by omega))]
  exact add_add hb
theorem rernd (K b : List Nat) (hb : b.length = 16) : ∀ r, r ≤ 14 → M (rnds S0 K (addL K 0 (ornds Inv0 K b 14)) r) = M (ornds Inv0 K b (14 - r))
  | 0, _ => add_add (ornds_len _ _ _ hb _)
  | r + 1, hr => by
    have ih := rernd K b hb r (by omega)
    obtain ⟨j, hj⟩ : ∃ j, 14 - r = j + 1 := ⟨13 - r, by omega⟩
    have hj' : 14 - (r + 1) = j := by omega
    have hk : 14 - j = r + 1 := by omega
    generalize addL K 0 (ornds Inv0 K b 14) = X at ih ⊢
    rw [hj, ornds, hk] at ih
    rw [hj', rnds]
    have ho := ornds_len Inv0 K b hb j
    have ha : (addL K (r + 1) (ornds Inv0 K b j)).length = 16 := rfl
    cases hc : decide (r + 1 < 14) with
    | true =>
      rw [hc] at ih
      have h1 := sub_isub (x := mixL (mixL (mixL (addL K (r + 1) (ornds Inv0 K b j))))) rfl ih
      exact (addL_c ((mixL_c h1).trans (mix4 _ ha))).trans (add_add ho)
    | false =>
      rw [hc] at ih
      have h1 := sub_isub (x := addL K (r + 1) (ornds Inv0 K b j)) rfl ih
      exact (addL_c h1).trans (add_add ho)
theorem seal_open (K b : List Nat) (hb : b.length = 16) : M (sealK K (openK K b)) = M b := by
  rw [openK, openL, sealK]
  exact rernd K b hb 14 (by omega)
end Go.Proofs.Ythcbefolifpbpaa
