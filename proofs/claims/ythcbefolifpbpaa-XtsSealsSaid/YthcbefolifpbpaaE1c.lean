/- Of this program, for all inputs: contracts. No condition but those in the theorems. -/
import Derived.Test.YthcbefolifpbpaaE0
namespace Go.Proofs.Ythcbefolifpbpaa.R
open Go Go.Ai Go.Aw Go.Proofs
open Nat renaming reduceBEq → uB, reduceEqDiff → uE, reduceLT → uL, reduceAdd → uA, reduceMul → uM, reduceSub → uS, reduceAnd → uN, reduceXor → uX, reduceOr → uO
open Int renaming reduceMod → vR, reduceDiv → vD, reduceLT → vL, reduceLE → vK, reduceEq → vE, reduceAdd → vA, reduceMul → vM, reduceToNat → vT
set_option linter.unusedSimpArgs false
set_option linter.unusedVariables false
set_option maxRecDepth 10000
theorem bx4 (h : Heap) : (List.range' 128 32).map (fun a => Go.Ac.callC c0 12 53 [AV.int .u8 (a : Nat)] h) = (List.range' 128 32).map (fun a => some (AV.int .u8 ((sbT.getD a 0 : Nat) : Int), h)) := by kernel_rfl
theorem bx5 (h : Heap) : (List.range' 160 32).map (fun a => Go.Ac.callC c0 12 53 [AV.int .u8 (a : Nat)] h) = (List.range' 160 32).map (fun a => some (AV.int .u8 ((sbT.getD a 0 : Nat) : Int), h)) := by kernel_rfl
end Go.Proofs.Ythcbefolifpbpaa.R
