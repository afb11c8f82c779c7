/- Of this program, for all inputs: contracts. No condition but those in the theorems. -/
import Derived.Test.YtfjcfjfgamajkaaPC
namespace Go.Proofs.Ytfjcfjfgamajkaa
open Go Go.Ai Go.Aw Go.Proofs
open Nat renaming reduceBEq -> uB,reduceEqDiff -> uE,reduceLT -> uL,reduceAdd -> uA,reduceMul -> uM,reduceSub -> uS,reduceAnd -> uN,reduceXor -> uX,reduceOr -> uO
open Int renaming reduceMod -> vR,reduceDiv -> vD,reduceLT -> vL,reduceLE -> vK,reduceEq -> vE,reduceAdd -> vA,reduceMul -> vM,reduceToNat -> vT,reduceSub -> vS
set_option linter.unusedSimpArgs false
set_option linter.unusedVariables false
set_option maxRecDepth 10000
/-! the plain law: a log done again makes the members the same -/
def rep1 (l : List MS) (t : Ent) : List MS := if t.e ≠ 0 then l else if t.kind = 2 then l.modify t.m.toNat (fun S => (S.write t.i t.x).1) else if t.kind = 3 then l.modify t.m.toNat (fun S => S.flush.1) else l
structure RInv (b : BS) : Prop where
 w : b.wf
 st : b.steps = []
 on : b.off = false
 ms : b.ms = b.log.foldl rep1 [MS.new 4,MS.new 4]
 len : b.ms.length = 2
 n4 : ∀ S ∈ b.ms,S.n = 4
 ok : ∀ t ∈ b.log,t.e = 0 -> t.kind = 2 \/ t.kind = 3 -> 0 <= t.m /\ t.m < 2
 lg : b.lgB b.log.length
 cl : b.cell.length <= b.log.length + 1
 last : b.last.1 <= b.log.length
theorem noahead {b : BS} (h : b.steps = []) : b.ahead = b := by unfold BS.ahead; rw [h]; rfl
theorem ioR_on {b : BS} (h : b.steps = []) (ho : b.off = false) (t : Ent) (act : BS -> Int × List Nat × BS) : b.ioR t act = ({ t with x := (act b).2.1,e := (act b).1 }, { (act b).2.2 with log := b.log ++ [{ t with x := (act b).2.1,e := (act b).1 }] }) := by
 unfold BS.ioR
 rw [noahead h,ho]
 rfl
end Go.Proofs.Ytfjcfjfgamajkaa
