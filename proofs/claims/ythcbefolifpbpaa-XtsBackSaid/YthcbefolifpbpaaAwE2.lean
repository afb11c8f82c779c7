import Derived.Test.YthcbefolifpbpaaAwE
namespace Go.Aw
open Go Go.Ai
set_option linter.unusedSimpArgs false
variable {P : Program} {β : Type}

/-! arithmetic -/
def binIE (op : BinOp) (k : IntKind) (x y : Int) : Option AV := intOpK op k x y some
theorem intOpK_E (op : BinOp) (k : IntKind) (x y : Int) (K : AV → Option β) : intOpK op k x y K = th (intOpK op k x y some) K := by
  unfold intOpK
  cases op <;> simp only [fI_eq, fB_eq, th_some, th_none] <;> (first | rfl | (cases divA _ k x y <;> rfl) | (cases bitsA _ k x y <;> rfl) | (cases cmpA _ x y <;> rfl))
theorem scsEqK_E : ∀ (q : List Kd) (x y : List AV) (K : Bool → Option β), scsEqK q x y K = th (scsEqK q x y some) K
  | [], [], [], K => rfl
  | q :: qs, a :: x, b :: y, K => by
    simp only [scsEqK]
    cases kEq q a b with
    | none => rfl
    | some e =>
      cases e with
      | true => exact scsEqK_E qs x y K
      | false => simp only; cases lenIs qs x y <;> rfl
  | [], [], _ :: _, _ => rfl
  | [], _ :: _, _, _ => rfl
  | _ :: _, [], _, _ => rfl
  | _ :: _, _ :: _, [], _ => rfl
def eqlE (P : Program) (t : TypeId) (x y : AV) : Option Bool := eqlK P t x y some
theorem eqlK_E (t : TypeId) (x y : AV) (K : Bool → Option β) : eqlK P t x y K = th (eqlE P t x y) K := by
  unfold eqlE eqlK
  rw [unK_E, unK_E, th_th]
  congr 1
  funext d
  split <;> try simp only [fB_eq, th_some, th_none]
  · simp only [szK_E, th_th]
    congr 1
    funext n
    split <;> simp
  · split
    · exact scsEqK_E _ _ _ _
    · simp
theorem strOpK_E (op : BinOp) (x y : List UInt8) (K : AV → Option β) : strOpK op x y K = th (strOpK op x y some) K := by
  unfold strOpK
  cases op <;> simp only [fB_eq, fL_eq, th_some, th_none]
  cases Nat.ble (x.length + y.length) mostCells <;> rfl
def binE (P : Program) (op : BinOp) (t : TypeId) (x y : AV) : Option AV := binK P op t x y some
theorem binK_E (op : BinOp) (t : TypeId) (x y : AV) (K : AV → Option β) : binK P op t x y K = th (binE P op t x y) K := by
  unfold binE binK
  split
  · split
    · cases shiftA .shl _ _ _ <;> simp
    · cases shiftA .shr _ _ _ <;> simp
    · split
      · exact intOpK_E ..
      · rfl
  · exact strOpK_E ..
  · split
    · simp only [eqlK_E, th_th, th_some]
    · simp only [eqlK_E, th_th]
      congr 1
      funext b
      cases b <;> rfl
    · rfl
def unE (op : UnOp) (x : AV) : Option AV := unA op x some
theorem unA_E (op : UnOp) (x : AV) (K : AV → Option β) : unA op x K = th (unE op x) K := by
  unfold unE unA
  split <;> try simp only [fI_eq, th_some, th_none]
  · rename_i b; cases b <;> rfl
  · rename_i k n
    cases bitsA .xor k (if k.signed = true then -1 else k.max) n <;> simp
/-! addresses, slices -/
def arrayAtE (P : Program) (t : TypeId) (x : AV) : Option AV := arrayAtK P t x some
theorem arrayAtK_E (t : TypeId) (x : AV) (K : AV → Option β) : arrayAtK P t x K = th (arrayAtE P t x) K := by
  unfold arrayAtE arrayAtK
  rw [unK_E, unK_E, th_th]
  congr 1
  funext d
  split <;> (try split) <;> rfl
def indexAddrE (P : Program) (t : TypeId) (x ix : AV) : Option AV := indexAddrK P t x ix some
theorem indexAddrK_E (t : TypeId) (x ix : AV) (K : AV → Option β) : indexAddrK P t x ix K = th (indexAddrE P t x ix) K := by
  unfold indexAddrE indexAddrK
  simp only [asI_E, unK_E, th_th]
  congr 1; funext i
  congr 1; funext d
  split <;> simp only [idxK_E, szK_E, th_th, fN_eq, th_some, th_none]
def bndE (v : Option AV) (d m : Nat) : Option Nat := match v with
  | none => some d
  | some v => th (asIE v) fun i => idxE i (m + 1)
theorem bndK_E (v : Option AV) (d m : Nat) (K : Nat → Option β) : bndK v d m K = th (bndE v d m) K := by
  cases v with
  | none => rfl
  | some v => simp only [bndK, bndE, asI_E, idxK_E, th_th, th_some]
def sliceE (P : Program) (t : TypeId) (x : AV) (lo hi mx : Option AV) : Option AV := sliceK P t x lo hi mx some
theorem th_congr {α : Type} (a : Option α) {f g : α → Option β} (h : ∀ x, f x = g x) : th a f = th a g := by cases a <;> simp [th, h]
theorem sliceK_E (t : TypeId) (x : AV) (lo hi mx : Option AV) (K : AV → Option β) : sliceK P t x lo hi mx K = th (sliceE P t x lo hi mx) K := by
  unfold sliceE sliceK
  simp only [unK_E, bndK_E, szK_E, llen_eq, fL_eq, fN_eq, th_th]
  refine th_congr _ fun d => ?_
  split
  · cases mx with
    | some _ => rfl
    | none => simp only [th_th, th_some]
  · simp only [th_th]
    refine th_congr _ fun m => th_congr _ fun h => th_congr _ fun l => th_congr _ fun n => ?_
    split <;> rfl
  · simp only [th_th]
    refine th_congr _ fun m => th_congr _ fun h => th_congr _ fun l => th_congr _ fun n => ?_
    split <;> rfl
  · split
    · simp only [th_th, th_some]
    · rfl
    · simp only [th_th]
      refine th_congr _ fun h => th_congr _ fun l => th_congr _ fun n => ?_
      split
      · rfl
      · split <;> rfl
  · simp only [th_th]
    refine th_congr _ fun m => th_congr _ fun h => th_congr _ fun l => th_congr _ fun n => ?_
    split <;> rfl
  · rfl
  · rfl
def fieldAddrE (P : Program) (s : TypeId) (x : AV) (f : Nat) : Option AV := fieldAddrK P s x f some
theorem fieldAddrK_E (s : TypeId) (x : AV) (f : Nat) (K : AV → Option β) : fieldAddrK P s x f K = th (fieldAddrE P s x f) K := by
  unfold fieldAddrE fieldAddrK
  rw [unK_E, unK_E, th_th]
  refine th_congr _ fun d => ?_
  split
  · split
    · rw [szK_E, szK_E, th_th]
      refine th_congr _ fun n => ?_
      split <;> simp
    · rfl
  · rfl
def partE (P : Program) (t : TypeId) (cs : List AV) (off : Nat) : Option AV := partK P t cs off some
theorem partK_E (t : TypeId) (cs : List AV) (off : Nat) (K : AV → Option β) : partK P t cs off K = th (partE P t cs off) K := by
  unfold partE partK
  rw [unK_E, unK_E, th_th]
  refine th_congr _ fun d => ?_
  split
  · simp only [szK_E, lcut_th, th_th, th_some]
  · simp only [lget_E, th_id]
def fieldE (P : Program) (s : TypeId) (x : AV) (f : Nat) : Option AV := fieldK P s x f some
theorem fieldK_E (s : TypeId) (x : AV) (f : Nat) (K : AV → Option β) : fieldK P s x f K = th (fieldE P s x f) K := by
  unfold fieldE fieldK
  rw [unK_E, unK_E, th_th]
  refine th_congr _ fun d => ?_
  split
  · split
    · rw [partK_E, partK_E, th_th]; rfl
    · rfl
  · rfl
def indexE (P : Program) (t : TypeId) (x ix : AV) : Option AV := indexK P t x ix some
theorem indexK_E (t : TypeId) (x ix : AV) (K : AV → Option β) : indexK P t x ix K = th (indexE P t x ix) K := by
  unfold indexE indexK
  simp only [asI_E, unK_E, th_th]
  refine th_congr _ fun i => ?_
  refine th_congr _ fun d => ?_
  split
  · simp only [idxK_E, szK_E, th_th, fN_eq]
    refine th_congr _ fun i => ?_
    refine th_congr _ fun s => ?_
    rw [partK_E, partK_E, th_th]; rfl
  · split
    · split <;> simp
    · rfl
  · rfl
end Go.Aw
