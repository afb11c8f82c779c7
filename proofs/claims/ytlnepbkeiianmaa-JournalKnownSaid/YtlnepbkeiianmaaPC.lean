/- Of this program, for all inputs: contracts. No condition but those in the theorems. -/
import Derived.Test.YtlnepbkeiianmaaPB
namespace Go.Proofs.Ytlnepbkeiianmaa
open Go Go.Ai Go.Aw Go.Proofs
open Nat renaming reduceBEq -> uB,reduceEqDiff -> uE,reduceLT -> uL,reduceAdd -> uA,reduceMul -> uM,reduceSub -> uS,reduceAnd -> uN,reduceXor -> uX,reduceOr -> uO
open Int renaming reduceMod -> vR,reduceDiv -> vD,reduceLT -> vL,reduceLE -> vK,reduceEq -> vE,reduceAdd -> vA,reduceMul -> vM,reduceToNat -> vT,reduceSub -> vS
set_option linter.unusedSimpArgs false
set_option linter.unusedVariables false
set_option maxRecDepth 10000
def MS.new (n : Nat) : MS := ⟨n,[],[],[],[],false,false⟩
theorem MS.new_wf {n : Nat} (h : 0 < n) : (MS.new n).wf := ⟨h,by show 0 < 4000; omega,(fun _ hx => by cases hx),(fun _ hx => by cases hx),(fun _ hx => by cases hx),Nat.zero_le _,(fun _ hx => by cases hx)⟩
def BS.two (st : List Stp) : BS := ⟨[MS.new 4,MS.new 4],[(0,czz)],st,false,[]⟩
def colT (c : Col) (n kb : Nat) : Col := fun j => if j < n then c j else if j < n + 3 then kb + 2 else if j < n + 6 then kb + 3 else if j < n + 7 then kb else if j < n + 9 then kb + 1 else kb
end Go.Proofs.Ytlnepbkeiianmaa
namespace Go.Aw
open Go Go.Ai
set_option linter.unusedSimpArgs false
set_option linter.unusedVariables false
variable {P : Program} {h : Heap}
theorem app_capE {T e s k o kx ox n i ex : Nat} {ie : TypeInfo} {zv : Value} (E : Elem P T e s ie zv) (hn : n + 1 < 4096) {cs nw : List AV} {ro : Bool} (hg : h.get kx = some (.cells cs ex ro)) (hc : cutE ox ((n + 1) * (s + 1)) cs = some nw) (hl : nw.length = (n + 1) * (s + 1)) (hs : allSc nw = true) :
  appE P T (.slice k o 0 0) (.eslice kx ox i (n + 1)) h = some (.eslice h.next 0 0 (n + 1),h.new (.cells nw (s + 1) false)) := by
 have hsm := small_ok E.small hn
 have e0 : (n + 1) * (s + 1) = ((n + 1) * s + n) + 1 := by rw [Nat.mul_add]; omega
 have eb : Nat.ble (n + 1) 0 = false := rfl
 simp only [appE,appendK,unK_E,E.sl,th_some,E.info,E.zero,E.zsz,E.size,lenA,fN_eq,Nat.zero_add,hsm,firstK,eb,Nat.zero_mul,growK,p2]
 rw [e0] at hc hl ⊢
 simp only [hgetK_eq,hg,lcut_th,hc,llen_eq,Nat.zero_add,hl,Nat.beq_refl,lsc_eq,hs,lapp_eq,List.nil_append,newK_E,th_some]
end Go.Aw
namespace Go.Proofs.Ytlnepbkeiianmaa
open Go Go.Ai Go.Aw Go.Proofs
open Nat renaming reduceBEq -> uB,reduceEqDiff -> uE,reduceLT -> uL,reduceAdd -> uA,reduceMul -> uM,reduceSub -> uS,reduceAnd -> uN,reduceXor -> uX,reduceOr -> uO
open Int renaming reduceMod -> vR,reduceDiv -> vD,reduceLT -> vL,reduceLE -> vK,reduceEq -> vE,reduceAdd -> vA,reduceMul -> vM,reduceToNat -> vT,reduceSub -> vS
set_option linter.unusedSimpArgs false
set_option linter.unusedVariables false
set_option maxRecDepth 10000
theorem allSc_flat {α : Type} (f : α -> List AV) (hf : ∀ x,allSc (f x) = true) : ∀ l : List α,allSc (l.flatMap f) = true
 | [] => rfl
 | x :: l => by rw [List.flatMap_cons]; exact allSc_app (hf x) (allSc_flat f hf l)
theorem flat_get {α : Type} (f : α -> List AV) (n : Nat) (l : List α) (k j : Nat) (x : α) (h : ∀ x ∈ l,(f x).length = n) (hk : l[k]? = some x) (hj : j < n) : (l.flatMap f)[k * n + j]? = (f x)[j]? := by
 have hc := flat_cut f n l k x h hk
 have hkl := (List.getElem?_eq_some_iff.1 hk).1
 have hll := flat_len f n l h
 have hm : k * n + n <= l.length * n := by rw [<- Nat.succ_mul]; exact Nat.mul_le_mul_right _ hkl
 rw [cutE_of (by rw [hll]; omega)] at hc
 have := Option.some.inj hc
 rw [<- this,List.getElem?_take_of_lt hj,List.getElem?_drop]
theorem nostep (d : Nat) {b : BS} (h : b.steps = []) (kb β cp : Nat) (ps : List Nat) : StepOk d b kb β cp ps := fun H C bb s u Ms hs => by rw [h] at hs; cases hs
end Go.Proofs.Ytlnepbkeiianmaa
