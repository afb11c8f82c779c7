/- Of this program, for all inputs: contracts. No condition but those in the theorems. -/
import Derived.Test.YtfjcfjfgamajkaaQ1
namespace Go.Proofs.Ytfjcfjfgamajkaa
open Go Go.Ai Go.Aw Go.Proofs
open Nat renaming reduceBEq -> uB,reduceEqDiff -> uE,reduceLT -> uL,reduceAdd -> uA,reduceMul -> uM,reduceSub -> uS,reduceAnd -> uN,reduceXor -> uX,reduceOr -> uO
open Int renaming reduceMod -> vR,reduceDiv -> vD,reduceLT -> vL,reduceLE -> vK,reduceEq -> vE,reduceAdd -> vA,reduceMul -> vM,reduceToNat -> vT,reduceSub -> vS
set_option linter.unusedSimpArgs false
set_option linter.unusedVariables false
set_option maxRecDepth 10000
theorem lncA {dd : Option Tmp} {t : TypeId} {p : String} {a : Array Edge} {g : Option (Nat × Bool)} (x : Operand) : cls Try.prog ⟨dd, .call ⟨.builtin .len,#[x],#[48]⟩,t,p,a,g⟩ = .p := cls_len1 Try.underlying48 x
theorem lnoA {call : CallK} {ρ : Operand -> AV} {h : Heap} {dd : Option Tmp} {t : TypeId} {p : String} {a : Array Edge} {g : Option (Nat × Bool)} (x : Operand) : opE Try.prog call ρ ⟨dd, .call ⟨.builtin .len,#[x],#[48]⟩,t,p,a,g⟩ h = th (okv (ρ x)) fun v => th (lenE Try.prog 48 v) fun v => some (v,h) := opE_len1 Try.underlying48 x
def actsC (l : List Act) : List AV := l.flatMap Act.C
def Act.ok (a : Act) : Prop := a.x.length = 64 /\ a.lb.length = 32
def ActsI (h : Heap) (v : AV) (l : List Act) : Prop := (l = [] /\ v = .nilslice) \/ ∃ q n ro,v = .slice q 0 l.length n /\ q < h.next /\ h.get q = some (.cells (actsC l) 0 ro)
theorem ActsI.len {h : Heap} {v : AV} {l : List Act} (x : ActsI h v l) : lenE Try.prog 48 v = some (.int .i64 (l.length : Int)) := by
 rcases x with ⟨rfl,rfl⟩ | ⟨q,n,ro,rfl,_⟩
 ·exact len_nilslice Try.underlying48
 ·exact len_slice Try.underlying48 ..
theorem ActsI.okv {h : Heap} {v : AV} {l : List Act} (x : ActsI h v l) : Aw.okv v = some v := by
 rcases x with ⟨_,rfl⟩ | ⟨q,n,ro,rfl,_⟩ <;> rfl
theorem ActsI.same {h : Heap} {v : AV} {l : List Act} (x : ActsI h v l) : AV.same v v = true := by
 rcases x with ⟨_,rfl⟩ | ⟨q,n,ro,rfl,_⟩
 ·rfl
 ·exact same_slice ..
theorem acts_cut {l : List Act} (hl : ∀ a ∈ l,a.ok) {k : Nat} {a : Act} (hk : l[k]? = some a) : cutE (k * 99) 99 (actsC l) = some a.C := flat_cut Act.C 99 l k a (fun x hx => x.C_len (hl x hx).1 (hl x hx).2) hk
theorem flat_get {α : Type} (f : α -> List AV) (n : Nat) (l : List α) (k j : Nat) (x : α) (h : ∀ x ∈ l,(f x).length = n) (hk : l[k]? = some x) (hj : j < n) : (l.flatMap f)[k * n + j]? = (f x)[j]? := by
 have hc := flat_cut f n l k x h hk
 have hkl := (List.getElem?_eq_some_iff.1 hk).1
 have hll := flat_len f n l h
 have hm : k * n + n <= l.length * n := by rw [<- Nat.succ_mul]; exact Nat.mul_le_mul_right _ hkl
 rw [cutE_of (by rw [hll]; omega)] at hc
 have := Option.some.inj hc
 rw [<- this,List.getElem?_take_of_lt hj,List.getElem?_drop]
end Go.Proofs.Ytfjcfjfgamajkaa
