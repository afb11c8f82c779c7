/- Of this program, for all inputs: contracts. No condition but those in the theorems. -/
import Derived.Test.YtlnepbkeiianmaaPA
namespace Go.Aw
open Go Go.Ai
set_option linter.unusedSimpArgs false
theorem over_mid {o : Nat} {a b b' c : List AV} (ho : o = a.length) (hb : b'.length = b.length) (hs : allSc b' = true) : overE o b' (a ++ (b ++ c)) = some (a ++ (b' ++ c)) := by
 subst ho
 unfold overE
 rw [if_pos ⟨by simp [hb],hs⟩]
 congr 1
 rw [List.take_left,hb,<- List.drop_drop,List.drop_left,List.drop_left,List.append_assoc]
end Go.Aw
namespace Go.Proofs.Ytlnepbkeiianmaa
open Go Go.Ai Go.Aw Go.Proofs
open Nat renaming reduceBEq -> uB,reduceEqDiff -> uE,reduceLT -> uL,reduceAdd -> uA,reduceMul -> uM,reduceSub -> uS,reduceAnd -> uN,reduceXor -> uX,reduceOr -> uO
open Int renaming reduceMod -> vR,reduceDiv -> vD,reduceLT -> vL,reduceLE -> vK,reduceEq -> vE,reduceAdd -> vA,reduceMul -> vM,reduceToNat -> vT,reduceSub -> vS
set_option linter.unusedSimpArgs false
set_option linter.unusedVariables false
set_option maxRecDepth 10000
theorem drop_get {α : Type} {l : List α} {t : Nat} {y : α} (h : l[t]? = some y) : l.drop t = y :: l.drop (t + 1) := by
 obtain ⟨h1,h2⟩ := List.getElem?_eq_some_iff.1 h
 rw [List.drop_eq_getElem_cons h1,h2]
theorem repL_len (n : Nat) (l : List AV) : (repL n l).length = n * l.length := by
 induction n with
 | zero => simp [repL]
 | succ n ih => rw [repL,List.length_append,ih,Nat.succ_mul,Nat.add_comm]
end Go.Proofs.Ytlnepbkeiianmaa
