/- Bytes as a string; lengths of slices; slices made. No program. No condition but those in the theorems. -/
import Derived.Test.YtfjcfjfgamajkaaAwM3
namespace Go.Aw
open Go Go.Ai
set_option linter.unusedSimpArgs false
set_option linter.unusedVariables false
variable {P : Program} {call : CallK} {ρ : Operand -> AV} {dd : Option Tmp} {t : TypeId} {p : String} {a : Array Edge} {g : Option (Nat × Bool)} {h : Heap}
/-! bytes of a slice as a string -/
def strB (l : List Nat) : List UInt8 := l.map UInt8.ofNat
def convStrE (P : Program) (h : Heap) (s d : TypeId) (x : AV) : Option AV := convStrK P h s d x some
end Go.Aw
namespace Go.Aw
open Go Go.Ai
set_option linter.unusedSimpArgs false
set_option linter.unusedVariables false
variable {P : Program} {call : CallK} {ρ : Operand -> AV} {dd : Option Tmp} {t : TypeId} {p : String} {a : Array Edge} {g : Option (Nat × Bool)} {h : Heap}
/-! the length of a slice; a slice made -/
theorem cls_len1 {T e : TypeId} (hT : P.underlying T = some (.slice e)) (x : Operand) : cls P ⟨dd, .call ⟨.builtin .len,#[x],#[T]⟩,t,p,a,g⟩ = .p := by
 simp [cls,hT,isMapD]
theorem opE_len1 {T e : TypeId} (hT : P.underlying T = some (.slice e)) (x : Operand) :
  opE P call ρ ⟨dd, .call ⟨.builtin .len,#[x],#[T]⟩,t,p,a,g⟩ h = th (okv (ρ x)) fun v => th (lenE P T v) fun v => some (v,h) := by
 unfold opE opK
 rw [cls_len1 hT]
 simp only [pureK,List.getElem?_toArray,List.getElem?_cons_zero,okK_E]
 exact th_congr _ fun _ => lenK_E ..
theorem len_slice {T e : TypeId} (hT : P.underlying T = some (.slice e)) (k o l c : Nat) : lenE P T (.slice k o l c) = some (.int .i64 (l : Int)) := by
 unfold lenE lenK
 simp only [unK_E,hT,th_some,fN_eq]; rfl
theorem len_eslice {T e : TypeId} (hT : P.underlying T = some (.slice e)) (k o i l : Nat) : lenE P T (.eslice k o i l) = some (.int .i64 (l : Int)) := by
 unfold lenE lenK
 simp only [unK_E,hT,th_some,fN_eq]; rfl
theorem len_nilslice {T e : TypeId} (hT : P.underlying T = some (.slice e)) : lenE P T .nilslice = some (.int .i64 0) := by
 unfold lenE lenK
 simp only [unK_E,hT,th_some,fN_eq]; rfl
end Go.Aw
