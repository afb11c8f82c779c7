/- Bytes as a string; lengths of slices; slices made. No program. No condition but those in the theorems. -/
import Derived.Test.YtlnepbkeiianmaaAwM3
namespace Go.Aw
open Go Go.Ai
set_option linter.unusedSimpArgs false
set_option linter.unusedVariables false
variable {P : Program} {call : CallK} {ρ : Operand -> AV} {dd : Option Tmp} {t : TypeId} {p : String} {a : Array Edge} {g : Option (Nat × Bool)} {h : Heap}
/-! bytes of a slice as a string -/
def strB (l : List Nat) : List UInt8 := l.map UInt8.ofNat
def convStrE (P : Program) (h : Heap) (s d : TypeId) (x : AV) : Option AV := convStrK P h s d x some
theorem cls_convStr {s u e : TypeId} (hs : P.underlying s = some (.slice e)) (hu : P.underlying u = some .string) (x : Operand) : cls P ⟨dd, .convert s u x,t,p,a,g⟩ = .r := by simp [cls,hs,hu,convClsD]
theorem opE_convStr {s u e : TypeId} (hs : P.underlying s = some (.slice e)) (hu : P.underlying u = some .string) (x : Operand) :
  opE P call ρ ⟨dd, .convert s u x,t,p,a,g⟩ h = th (okv (ρ x)) fun v => th (convStrE P h s u v) fun v => some (v,h) := by
 unfold opE opK
 rw [cls_convStr hs hu]
 simp only [readK,okK_E]
 exact th_congr _ fun _ => convStrK_E ..
theorem readE_convStr {s u e : TypeId} (x : Operand) :
  readE P ρ ⟨dd, .convert s u x,t,p,a,g⟩ h = th (okv (ρ x)) fun v => convStrE P h s u v := by
 unfold readE readK
 simp only [okK_E]
 exact th_congr _ fun _ => rfl
theorem intBytes_B : ∀ l : List Nat,intBytes (B l) = some (strB l)
 | [] => rfl
 | x :: l => by
  have ih := intBytes_B l
  show (intBytes (B l)).map (UInt8.ofNat (x % 256) :: ·) = _
  rw [ih]
  have : UInt8.ofNat (x % 256) = UInt8.ofNat x := by apply UInt8.toNat_inj.1; simp
  simp [strB,this]
theorem convStr_slice {s u e k off l c ext : Nat} {cs : List AV} {ro : Bool} (hs : P.underlying s = some (.slice e)) (hu : P.underlying u = some .string) (he : P.underlying e = some (.int .u8)) (hg : h.get k = some (.cells cs ext ro)) {q : List Nat} (hc : cutE off l cs = some (B q)) (hl : 0 < l) :
  convStrE P h s u (.slice k off l c) = some (.str (strB q)) := by
 unfold convStrE convStrK
 simp only [unK_E,hs,hu,he,th_some,sliceLenA,firstK,Nat.mul_one]
 obtain ⟨m,rfl⟩ : ∃ m,l = m + 1 := ⟨l - 1,by omega⟩
 simp only [hgetK_eq,hg,lcut_th,hc,th_some,intBytes_B,fL_eq]
theorem strB_eq (x y : List Nat) : (strB x == strB y) = decide (x.map (· % 256) = y.map (· % 256)) := by
 have key : ∀ x y : List Nat,strB x = strB y ↔ x.map (· % 256) = y.map (· % 256) := by
  intro x
  induction x with
  | nil => intro y; cases y <;> simp [strB]
  | cons a x ih =>
   intro y
   cases y with
   | nil => simp [strB]
   | cons b y =>
    have := ih y
    simp only [strB,List.map_cons,List.cons.injEq] at this ⊢
    rw [this]
    have e : UInt8.ofNat a = UInt8.ofNat b ↔ a % 256 = b % 256 := by
     constructor
     ·intro h
      have := congrArg UInt8.toNat h
      simpa using this
     ·intro h
      apply UInt8.toNat_inj.1
      simpa using h
    rw [e]
 rw [Bool.eq_iff_iff]
 simp [key]
theorem bin_eql_str (u : TypeId) (x y : List Nat) : binE P .eql u (.str (strB x)) (.str (strB y)) = some (.bool (decide (x.map (· % 256) = y.map (· % 256)))) := by
 rw [<- strB_eq]
 unfold binE binK
 simp only [strOpK]
 cases strB x == strB y <;> rfl
end Go.Aw
namespace Go.Aw
open Go Go.Ai
set_option linter.unusedSimpArgs false
set_option linter.unusedVariables false
variable {P : Program} {call : CallK} {ρ : Operand -> AV} {dd : Option Tmp} {t : TypeId} {p : String} {a : Array Edge} {g : Option (Nat × Bool)} {h : Heap}
/-! the length of a slice; a slice made -/
theorem cls_len1 {T e : TypeId} (hT : P.underlying T = some (.slice e)) (x : Operand) : cls P ⟨dd, .call ⟨.builtin .len,#[x],#[T]⟩,t,p,a,g⟩ = .p := by
 simp [cls,hT,isMapD]
theorem opE_len1 {T e : TypeId} (hT : P.underlying T = some (.slice e)) (x : Operand) :
  opE P call ρ ⟨dd, .call ⟨.builtin .len,#[x],#[T]⟩,t,p,a,g⟩ h = th (okv (ρ x)) fun v => th (lenE P T v) fun v => some (v,h) := by
 unfold opE opK
 rw [cls_len1 hT]
 simp only [pureK,List.getElem?_toArray,List.getElem?_cons_zero,okK_E]
 exact th_congr _ fun _ => lenK_E ..
theorem len_slice {T e : TypeId} (hT : P.underlying T = some (.slice e)) (k o l c : Nat) : lenE P T (.slice k o l c) = some (.int .i64 (l : Int)) := by
 unfold lenE lenK
 simp only [unK_E,hT,th_some,fN_eq]; rfl
theorem len_eslice {T e : TypeId} (hT : P.underlying T = some (.slice e)) (k o i l : Nat) : lenE P T (.eslice k o i l) = some (.int .i64 (l : Int)) := by
 unfold lenE lenK
 simp only [unK_E,hT,th_some,fN_eq]; rfl
theorem len_nilslice {T e : TypeId} (hT : P.underlying T = some (.slice e)) : lenE P T .nilslice = some (.int .i64 0) := by
 unfold lenE lenK
 simp only [unK_E,hT,th_some,fN_eq]; rfl
theorem cls_makeSlice (T : TypeId) (l c : Operand) : cls P ⟨dd, .makeSlice T l c,t,p,a,g⟩ = .a := rfl
theorem repL_rep (n m : Nat) (v : AV) : repL n (List.replicate m v) = List.replicate (n * m) v := by
 induction n with
 | zero => simp [repL]
 | succ n ih => rw [repL,ih,List.replicate_append_replicate]; congr 1; rw [Nat.add_mul]; omega
theorem opE_makeSlice {T e s : TypeId} {ie : TypeInfo} {z : AV} (hT : P.underlying T = some (.slice e)) (hie : P.info? e = some ie) (hs : ie.size = s + 1) (hb : (ie.bytes + 1) * (s + 2) <= 65536) (hz : zeroE P e = some z) (hzl : z.cells.length = s + 1)
  (l c : Operand) {q q' : IntKind} {m n : Nat} (hl : ρ l = .int q (m : Int)) (hc : ρ c = .int q' (n : Int)) (hm : m <= n) (hn : n < 4096) :
  opE P call ρ ⟨dd, .makeSlice T l c,t,p,a,g⟩ h = some (.slice h.next 0 m n,h.new (.cells (repL n z.cells) 0 false)) := by
 unfold opE opK
 rw [cls_makeSlice]
 have hbig : Nat.ble ((n + 1) * (s + 1 + 1) * (ie.bytes + 1)) mostCells = true := by
  apply Nat.ble_eq_true_of_le
  have e1 : (n + 1) * (s + 1 + 1) * (ie.bytes + 1) = (n + 1) * ((ie.bytes + 1) * (s + 2)) := by rw [Nat.mul_assoc,Nat.mul_comm (s + 1 + 1)]
  rw [e1]
  have : (n + 1) * ((ie.bytes + 1) * (s + 2)) <= 4096 * 65536 := Nat.mul_le_mul (by omega) hb
  have : mostCells = 1073741824 := rfl
  omega
 simp only [allocK,okK_E,hl,hc,okv_int,th_some,makeSliceK,unK_E,hT,asN]
 show szK P e _ = _
 simp only [szK,hie,fN_eq,hs,hbig,Nat.ble_eq_true_of_le hm,zeroK_E,hz,th_some,cellsK_eq,llen_eq,Nat.zero_add,hzl,Nat.beq_refl,repK_eq,newK_E,fK_E,okv_slice,p2]
end Go.Aw
