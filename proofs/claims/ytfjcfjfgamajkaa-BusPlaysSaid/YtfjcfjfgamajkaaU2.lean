/- Of this program, for all inputs: contracts. No condition but those in the theorems. -/
import Derived.Test.YtfjcfjfgamajkaaU1
namespace Go.Proofs.Ytfjcfjfgamajkaa
open Go Go.Ai Go.Aw Go.Proofs
open Nat renaming reduceBEq -> uB,reduceEqDiff -> uE,reduceLT -> uL,reduceAdd -> uA,reduceMul -> uM,reduceSub -> uS,reduceAnd -> uN,reduceXor -> uX,reduceOr -> uO
open Int renaming reduceMod -> vR,reduceDiv -> vD,reduceLT -> vL,reduceLE -> vK,reduceEq -> vE,reduceAdd -> vA,reduceMul -> vM,reduceToNat -> vT,reduceSub -> vS
set_option linter.unusedSimpArgs false
set_option linter.unusedVariables false
set_option maxRecDepth 10000
def PickB (h : Heap) (u : AV) (l : List Nat) : Prop := PickA h u l /\ lenE Try.prog 40 u = some (.int .i64 (l.length : Int))
def crashS (n : Nat) (l : List Nat) : Stp := ⟨(n : Int),6,0,0,0,zz,l⟩
end Go.Proofs.Ytfjcfjfgamajkaa
