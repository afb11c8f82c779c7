/- Of this program, for all inputs: contracts. No condition but those in the theorems. -/
import Derived.Test.YthcbefolifpbpaaCA
import Derived.Test.YthcbefolifpbpaaE12
namespace Go.Proofs.Ythcbefolifpbpaa
open Go Go.Ai Go.Aw Go.Proofs
open Nat renaming reduceBEq → uB, reduceEqDiff → uE, reduceLT → uL, reduceAdd → uA, reduceMul → uM, reduceSub → uS, reduceAnd → uN, reduceXor → uX, reduceOr → uO
open Int renaming reduceMod → vR, reduceDiv → vD, reduceLT → vL, reduceLE → vK, reduceEq → vE, reduceAdd → vA, reduceMul → vM, reduceToNat → vT
set_option linter.unusedSimpArgs false
set_option linter.unusedVariables false
set_option maxRecDepth 10000
theorem gM {x y : List Nat} (h : M x = M y) (i : Nat) : x.getD i 0 % 256 = y.getD i 0 % 256 := by
  have := congrArg (fun l => l.getD i 0) h
  simp only [M, List.getD_eq_getElem?_getD, List.getElem?_map] at this ⊢
  cases e1 : x[i]? <;> cases e2 : y[i]? <;> simp [e1, e2] at this ⊢ <;> omega
theorem mg {x y : List Nat} (hx : x.length = y.length) (h : ∀ i, i < x.length → x.getD i 0 % 256 = y.getD i 0 % 256) : M x = M y := by
  apply List.ext_getElem?
  intro i
  simp only [M, List.getElem?_map]
  by_cases hi : i < x.length
  · have := h i hi
    rw [List.getD_eq_getElem?_getD, List.getD_eq_getElem?_getD, List.getElem?_eq_getElem hi, List.getElem?_eq_getElem (by omega)] at this
    rw [List.getElem?_eq_getElem hi, List.getElem?_eq_getElem (by omega)]
    simpa using this
  · rw [List.getElem?_eq_none (by omega), List.getElem?_eq_none (by omega)]
theorem sbT_eq : R.sbT = sbL := by kernel_rfl
theorem ibT_eq : R.ibT = ibL := by kernel_rfl
theorem x2_tab : ∀ a, a < 256 → R.x2 a = dd a := by decide +kernel
theorem x2_mod (a : Nat) : R.x2 (a % 256) = dd a := by rw [x2_tab _ (Nat.mod_lt _ (by omega)), ddm]
theorem dd_small (a : Nat) : dd a < 256 := by rw [← dd_lt]; exact Nat.mod_lt _ (by omega)
theorem x2_dd (a : Nat) : R.x2 (dd a) = dd (dd a) := x2_tab _ (dd_small a)
theorem sub_M {x y : Nat} (h : x % 256 = y % 256) : R.tb x % 256 = sub S0 y % 256 := by
  unfold R.tb sub
  rw [h, sbT_eq, ← sb_eq]
  simp only [M, List.getD_eq_getElem?_getD, List.getElem?_map]
  cases S0[y % 256]? <;> simp
theorem isub_M {x y : Nat} (h : x % 256 = y % 256) : R.ibT.getD (x % 256) 0 % 256 = sub Inv0 y % 256 := by
  unfold sub
  rw [h, ibT_eq, ← ib_eq]
  simp only [M, List.getD_eq_getElem?_getD, List.getElem?_map]
  cases Inv0[y % 256]? <;> simp
theorem mx0 (a0 a1 a2 a3 : Nat) : (R.mulT 2 (a0 % 256) ^^^ R.mulT 3 (a1 % 256) ^^^ R.mulT 1 (a2 % 256) ^^^ R.mulT 1 (a3 % 256)) % 256 = mix0 a0 a1 a2 a3 % 256 := by
  simp only [R.mulT, x2_mod, mix0, mix1, mix2, mix3, xm, dbl_mod, dd_xor, dd_lt, Nat.mod_mod]
  refine Nat.eq_of_testBit_eq fun i => ?_
  simp only [Nat.testBit_xor]
  generalize (dd a0).testBit i = y0
  generalize (a0 % 256).testBit i = z0
  generalize (dd a1).testBit i = y1
  generalize (a1 % 256).testBit i = z1
  generalize (dd a2).testBit i = y2
  generalize (a2 % 256).testBit i = z2
  generalize (dd a3).testBit i = y3
  generalize (a3 % 256).testBit i = z3
  revert y0 z0 y1 z1 y2 z2 y3 z3
  decide +kernel
theorem mx1 (a0 a1 a2 a3 : Nat) : (R.mulT 1 (a0 % 256) ^^^ R.mulT 2 (a1 % 256) ^^^ R.mulT 3 (a2 % 256) ^^^ R.mulT 1 (a3 % 256)) % 256 = mix1 a0 a1 a2 a3 % 256 := by
  simp only [R.mulT, x2_mod, mix0, mix1, mix2, mix3, xm, dbl_mod, dd_xor, dd_lt, Nat.mod_mod]
  refine Nat.eq_of_testBit_eq fun i => ?_
  simp only [Nat.testBit_xor]
  generalize (dd a0).testBit i = y0
  generalize (a0 % 256).testBit i = z0
  generalize (dd a1).testBit i = y1
  generalize (a1 % 256).testBit i = z1
  generalize (dd a2).testBit i = y2
  generalize (a2 % 256).testBit i = z2
  generalize (dd a3).testBit i = y3
  generalize (a3 % 256).testBit i = z3
  revert y0 z0 y1 z1 y2 z2 y3 z3
  decide +kernel
theorem mx2 (a0 a1 a2 a3 : Nat) : (R.mulT 1 (a0 % 256) ^^^ R.mulT 1 (a1 % 256) ^^^ R.mulT 2 (a2 % 256) ^^^ R.mulT 3 (a3 % 256)) % 256 = mix2 a0 a1 a2 a3 % 256 := by
  simp only [R.mulT, x2_mod, mix0, mix1, mix2, mix3, xm, dbl_mod, dd_xor, dd_lt, Nat.mod_mod]
  refine Nat.eq_of_testBit_eq fun i => ?_
  simp only [Nat.testBit_xor]
  generalize (dd a0).testBit i = y0
  generalize (a0 % 256).testBit i = z0
  generalize (dd a1).testBit i = y1
  generalize (a1 % 256).testBit i = z1
  generalize (dd a2).testBit i = y2
  generalize (a2 % 256).testBit i = z2
  generalize (dd a3).testBit i = y3
  generalize (a3 % 256).testBit i = z3
  revert y0 z0 y1 z1 y2 z2 y3 z3
  decide +kernel
theorem mx3 (a0 a1 a2 a3 : Nat) : (R.mulT 3 (a0 % 256) ^^^ R.mulT 1 (a1 % 256) ^^^ R.mulT 1 (a2 % 256) ^^^ R.mulT 2 (a3 % 256)) % 256 = mix3 a0 a1 a2 a3 % 256 := by
  simp only [R.mulT, x2_mod, mix0, mix1, mix2, mix3, xm, dbl_mod, dd_xor, dd_lt, Nat.mod_mod]
  refine Nat.eq_of_testBit_eq fun i => ?_
  simp only [Nat.testBit_xor]
  generalize (dd a0).testBit i = y0
  generalize (a0 % 256).testBit i = z0
  generalize (dd a1).testBit i = y1
  generalize (a1 % 256).testBit i = z1
  generalize (dd a2).testBit i = y2
  generalize (a2 % 256).testBit i = z2
  generalize (dd a3).testBit i = y3
  generalize (a3 % 256).testBit i = z3
  revert y0 z0 y1 z1 y2 z2 y3 z3
  decide +kernel
theorem mi0 {b0 b1 b2 b3 a0 a1 a2 a3 : Nat} (h0 : b0 % 256 = a0 % 256 ^^^ (dd (dd a0) ^^^ dd (dd a2))) (h1 : b1 % 256 = a1 % 256 ^^^ (dd (dd a1) ^^^ dd (dd a3))) (h2 : b2 % 256 = a2 % 256 ^^^ (dd (dd a2) ^^^ dd (dd a0))) (h3 : b3 % 256 = a3 % 256 ^^^ (dd (dd a3) ^^^ dd (dd a1))) : (R.mulT 14 (a0 % 256) ^^^ R.mulT 11 (a1 % 256) ^^^ R.mulT 13 (a2 % 256) ^^^ R.mulT 9 (a3 % 256)) % 256 = mix0 b0 b1 b2 b3 % 256 := by
  have d0 : dd b0 = dd a0 ^^^ (dd (dd (dd a0)) ^^^ dd (dd (dd a2))) := by rw [← ddm, h0, dd_xor, dd_xor, ddm]
  have d1 : dd b1 = dd a1 ^^^ (dd (dd (dd a1)) ^^^ dd (dd (dd a3))) := by rw [← ddm, h1, dd_xor, dd_xor, ddm]
  have d2 : dd b2 = dd a2 ^^^ (dd (dd (dd a2)) ^^^ dd (dd (dd a0))) := by rw [← ddm, h2, dd_xor, dd_xor, ddm]
  have d3 : dd b3 = dd a3 ^^^ (dd (dd (dd a3)) ^^^ dd (dd (dd a1))) := by rw [← ddm, h3, dd_xor, dd_xor, ddm]
  simp only [R.mulT, x2_mod, x2_dd, mix0, mix1, mix2, mix3, xm, dbl_mod, dd_xor, dd_lt, Nat.mod_mod, h0, h1, h2, h3, d0, d1, d2, d3]
  refine Nat.eq_of_testBit_eq fun i => ?_
  simp only [Nat.testBit_xor]
  generalize (dd (dd (dd a0))).testBit i = w0
  generalize (dd (dd a0)).testBit i = x0
  generalize (dd a0).testBit i = y0
  generalize (a0 % 256).testBit i = z0
  generalize (dd (dd (dd a1))).testBit i = w1
  generalize (dd (dd a1)).testBit i = x1
  generalize (dd a1).testBit i = y1
  generalize (a1 % 256).testBit i = z1
  generalize (dd (dd (dd a2))).testBit i = w2
  generalize (dd (dd a2)).testBit i = x2
  generalize (dd a2).testBit i = y2
  generalize (a2 % 256).testBit i = z2
  generalize (dd (dd (dd a3))).testBit i = w3
  generalize (dd (dd a3)).testBit i = x3
  generalize (dd a3).testBit i = y3
  generalize (a3 % 256).testBit i = z3
  revert w0 x0 y0 z0 w1 x1 y1 z1 w2 x2 y2 z2 w3 x3 y3 z3
  decide +kernel
theorem mi1 {b0 b1 b2 b3 a0 a1 a2 a3 : Nat} (h0 : b0 % 256 = a0 % 256 ^^^ (dd (dd a0) ^^^ dd (dd a2))) (h1 : b1 % 256 = a1 % 256 ^^^ (dd (dd a1) ^^^ dd (dd a3))) (h2 : b2 % 256 = a2 % 256 ^^^ (dd (dd a2) ^^^ dd (dd a0))) (h3 : b3 % 256 = a3 % 256 ^^^ (dd (dd a3) ^^^ dd (dd a1))) : (R.mulT 9 (a0 % 256) ^^^ R.mulT 14 (a1 % 256) ^^^ R.mulT 11 (a2 % 256) ^^^ R.mulT 13 (a3 % 256)) % 256 = mix1 b0 b1 b2 b3 % 256 := by
  have d0 : dd b0 = dd a0 ^^^ (dd (dd (dd a0)) ^^^ dd (dd (dd a2))) := by rw [← ddm, h0, dd_xor, dd_xor, ddm]
  have d1 : dd b1 = dd a1 ^^^ (dd (dd (dd a1)) ^^^ dd (dd (dd a3))) := by rw [← ddm, h1, dd_xor, dd_xor, ddm]
  have d2 : dd b2 = dd a2 ^^^ (dd (dd (dd a2)) ^^^ dd (dd (dd a0))) := by rw [← ddm, h2, dd_xor, dd_xor, ddm]
  have d3 : dd b3 = dd a3 ^^^ (dd (dd (dd a3)) ^^^ dd (dd (dd a1))) := by rw [← ddm, h3, dd_xor, dd_xor, ddm]
  simp only [R.mulT, x2_mod, x2_dd, mix0, mix1, mix2, mix3, xm, dbl_mod, dd_xor, dd_lt, Nat.mod_mod, h0, h1, h2, h3, d0, d1, d2, d3]
  refine Nat.eq_of_testBit_eq fun i => ?_
  simp only [Nat.testBit_xor]
  generalize (dd (dd (dd a0))).testBit i = w0
  generalize (dd (dd a0)).testBit i = x0
  generalize (dd a0).testBit i = y0
  generalize (a0 % 256).testBit i = z0
  generalize (dd (dd (dd a1))).testBit i = w1
  generalize (dd (dd a1)).testBit i = x1
  generalize (dd a1).testBit i = y1
  generalize (a1 % 256).testBit i = z1
  generalize (dd (dd (dd a2))).testBit i = w2
  generalize (dd (dd a2)).testBit i = x2
  generalize (dd a2).testBit i = y2
  generalize (a2 % 256).testBit i = z2
  generalize (dd (dd (dd a3))).testBit i = w3
  generalize (dd (dd a3)).testBit i = x3
  generalize (dd a3).testBit i = y3
  generalize (a3 % 256).testBit i = z3
  revert w0 x0 y0 z0 w1 x1 y1 z1 w2 x2 y2 z2 w3 x3 y3 z3
  decide +kernel
theorem mi2 {b0 b1 b2 b3 a0 a1 a2 a3 : Nat} (h0 : b0 % 256 = a0 % 256 ^^^ (dd (dd a0) ^^^ dd (dd a2))) (h1 : b1 % 256 = a1 % 256 ^^^ (dd (dd a1) ^^^ dd (dd a3))) (h2 : b2 % 256 = a2 % 256 ^^^ (dd (dd a2) ^^^ dd (dd a0))) (h3 : b3 % 256 = a3 % 256 ^^^ (dd (dd a3) ^^^ dd (dd a1))) : (R.mulT 13 (a0 % 256) ^^^ R.mulT 9 (a1 % 256) ^^^ R.mulT 14 (a2 % 256) ^^^ R.mulT 11 (a3 % 256)) % 256 = mix2 b0 b1 b2 b3 % 256 := by
  have d0 : dd b0 = dd a0 ^^^ (dd (dd (dd a0)) ^^^ dd (dd (dd a2))) := by rw [← ddm, h0, dd_xor, dd_xor, ddm]
  have d1 : dd b1 = dd a1 ^^^ (dd (dd (dd a1)) ^^^ dd (dd (dd a3))) := by rw [← ddm, h1, dd_xor, dd_xor, ddm]
  have d2 : dd b2 = dd a2 ^^^ (dd (dd (dd a2)) ^^^ dd (dd (dd a0))) := by rw [← ddm, h2, dd_xor, dd_xor, ddm]
  have d3 : dd b3 = dd a3 ^^^ (dd (dd (dd a3)) ^^^ dd (dd (dd a1))) := by rw [← ddm, h3, dd_xor, dd_xor, ddm]
  simp only [R.mulT, x2_mod, x2_dd, mix0, mix1, mix2, mix3, xm, dbl_mod, dd_xor, dd_lt, Nat.mod_mod, h0, h1, h2, h3, d0, d1, d2, d3]
  refine Nat.eq_of_testBit_eq fun i => ?_
  simp only [Nat.testBit_xor]
  generalize (dd (dd (dd a0))).testBit i = w0
  generalize (dd (dd a0)).testBit i = x0
  generalize (dd a0).testBit i = y0
  generalize (a0 % 256).testBit i = z0
  generalize (dd (dd (dd a1))).testBit i = w1
  generalize (dd (dd a1)).testBit i = x1
  generalize (dd a1).testBit i = y1
  generalize (a1 % 256).testBit i = z1
  generalize (dd (dd (dd a2))).testBit i = w2
  generalize (dd (dd a2)).testBit i = x2
  generalize (dd a2).testBit i = y2
  generalize (a2 % 256).testBit i = z2
  generalize (dd (dd (dd a3))).testBit i = w3
  generalize (dd (dd a3)).testBit i = x3
  generalize (dd a3).testBit i = y3
  generalize (a3 % 256).testBit i = z3
  revert w0 x0 y0 z0 w1 x1 y1 z1 w2 x2 y2 z2 w3 x3 y3 z3
  decide +kernel
theorem mi3 {b0 b1 b2 b3 a0 a1 a2 a3 : Nat} (h0 : b0 % 256 = a0 % 256 ^^^ (dd (dd a0) ^^^ dd (dd a2))) (h1 : b1 % 256 = a1 % 256 ^^^ (dd (dd a1) ^^^ dd (dd a3))) (h2 : b2 % 256 = a2 % 256 ^^^ (dd (dd a2) ^^^ dd (dd a0))) (h3 : b3 % 256 = a3 % 256 ^^^ (dd (dd a3) ^^^ dd (dd a1))) : (R.mulT 11 (a0 % 256) ^^^ R.mulT 13 (a1 % 256) ^^^ R.mulT 9 (a2 % 256) ^^^ R.mulT 14 (a3 % 256)) % 256 = mix3 b0 b1 b2 b3 % 256 := by
  have d0 : dd b0 = dd a0 ^^^ (dd (dd (dd a0)) ^^^ dd (dd (dd a2))) := by rw [← ddm, h0, dd_xor, dd_xor, ddm]
  have d1 : dd b1 = dd a1 ^^^ (dd (dd (dd a1)) ^^^ dd (dd (dd a3))) := by rw [← ddm, h1, dd_xor, dd_xor, ddm]
  have d2 : dd b2 = dd a2 ^^^ (dd (dd (dd a2)) ^^^ dd (dd (dd a0))) := by rw [← ddm, h2, dd_xor, dd_xor, ddm]
  have d3 : dd b3 = dd a3 ^^^ (dd (dd (dd a3)) ^^^ dd (dd (dd a1))) := by rw [← ddm, h3, dd_xor, dd_xor, ddm]
  simp only [R.mulT, x2_mod, x2_dd, mix0, mix1, mix2, mix3, xm, dbl_mod, dd_xor, dd_lt, Nat.mod_mod, h0, h1, h2, h3, d0, d1, d2, d3]
  refine Nat.eq_of_testBit_eq fun i => ?_
  simp only [Nat.testBit_xor]
  generalize (dd (dd (dd a0))).testBit i = w0
  generalize (dd (dd a0)).testBit i = x0
  generalize (dd a0).testBit i = y0
  generalize (a0 % 256).testBit i = z0
  generalize (dd (dd (dd a1))).testBit i = w1
  generalize (dd (dd a1)).testBit i = x1
  generalize (dd a1).testBit i = y1
  generalize (a1 % 256).testBit i = z1
  generalize (dd (dd (dd a2))).testBit i = w2
  generalize (dd (dd a2)).testBit i = x2
  generalize (dd a2).testBit i = y2
  generalize (a2 % 256).testBit i = z2
  generalize (dd (dd (dd a3))).testBit i = w3
  generalize (dd (dd a3)).testBit i = x3
  generalize (dd a3).testBit i = y3
  generalize (a3 % 256).testBit i = z3
  revert w0 x0 y0 z0 w1 x1 y1 z1 w2 x2 y2 z2 w3 x3 y3 z3
  decide +kernel
end Go.Proofs.Ythcbefolifpbpaa
