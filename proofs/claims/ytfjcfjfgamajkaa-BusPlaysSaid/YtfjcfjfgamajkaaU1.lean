/- Of this program, for all inputs: contracts. No condition but those in the theorems. -/
import Derived.Test.YtfjcfjfgamajkaaRB
import Derived.Test.YtfjcfjfgamajkaaQ3
namespace Go.Proofs.Ytfjcfjfgamajkaa
open Go Go.Ai Go.Aw Go.Proofs
open Nat renaming reduceBEq -> uB,reduceEqDiff -> uE,reduceLT -> uL,reduceAdd -> uA,reduceMul -> uM,reduceSub -> uS,reduceAnd -> uN,reduceXor -> uX,reduceOr -> uO
open Int renaming reduceMod -> vR,reduceDiv -> vD,reduceLT -> vL,reduceLE -> vK,reduceEq -> vE,reduceAdd -> vA,reduceMul -> vM,reduceToNat -> vT,reduceSub -> vS
set_option linter.unusedSimpArgs false
set_option linter.unusedVariables false
set_option maxRecDepth 10000
/-! acts over a bus none of whose steps come -/
structure OI (st : List Stp) (b : BS) : Prop where
 w : b.wf
 st : b.steps = st
 len : b.ms.length = 2
 m : ∀ S ∈ b.ms,S.n = 4 /\ S.marks = []
 lg : b.lgB b.log.length
 cl : b.cell.length <= b.log.length + 1
 last : b.last.1 <= b.log.length
theorem ioR_off {b : BS} (ho : b.ahead.off = true) (t : Ent) (act : BS -> Int × List Nat × BS) : b.ioR t act = ({ t with e := 13 }, { b.ahead with log := b.log ++ [{ t with e := 13 }] }) := by
 unfold BS.ioR
 rw [ho]
 rfl
theorem log_wf {b : BS} (w : b.wf) (t : Ent) (ht : t.x.length = 64) (hl : b.log.length < 3989) : BS.wf { b with log := b.log ++ [t] } :=
 ⟨w.ms,w.msl,w.ms0,w.cell,w.celll,w.cell0,w.stl,w.st,by simp; omega,fun u hu => by
   rcases List.mem_append.1 hu with q | q
   ·exact w.log u q
   ·simp at q; subst q; exact ht⟩
def ios (l : List Act) : Nat := (l.filter fun a => decide (a.r ≠ 6)).length
end Go.Proofs.Ytfjcfjfgamajkaa
