/- Each operation by itself. No program. No condition but those in the theorems. -/
import Derived.Test.YtlnepbkeiianmaaAiOnce
namespace Go.Aw
open Go Go.Ai
set_option linter.unusedSimpArgs false
variable {P : Program} {β : Type}
/-! each operation by itself: what it gives,with no more to come -/
def th {α : Type} (r : Option α) (K : α -> Option β) : Option β := match r with | some a => K a | none => none
def th2 {α γ : Type} (r : Option (α × γ)) (K : α -> γ -> Option β) : Option β := match r with | some (a,b) => K a b | none => none
@[simp] theorem th_some {α : Type} (a : α) (K : α -> Option β) : th (some a) K = K a := rfl
@[simp] theorem th_none {α : Type} (K : α -> Option β) : th none K = none := rfl
@[simp] theorem th2_some {α γ : Type} (a : α) (b : γ) (K : α -> γ -> Option β) : th2 (some (a,b)) K = K a b := rfl
@[simp] theorem th2_none {α γ : Type} (K : α -> γ -> Option β) : th2 none K = none := rfl
def p2 (v : AV) (h : Heap) : Option (AV × Heap) := some (v,h)
theorem th_th {α γ : Type} (a : Option α) (f : α -> Option γ) (K : γ -> Option β) : th (th a f) K = th a fun x => th (f x) K := by cases a <;> rfl
theorem th_id {α : Type} (a : Option α) : th a some = a := by cases a <;> rfl
def okv (v : AV) : Option AV := match v with | .bad => none | v => some v
theorem fK_E (v : AV) (K : AV -> Option β) : v.fK K = th (okv v) K := by cases v <;> simp [AV.fK,okv]
theorem okK_E (v : AV) (K : AV -> Option β) : v.okK K = th (okv v) K := by cases v <;> simp [AV.okK,okv]
theorem unK_E (t : TypeId) (K : TypeDesc -> Option β) : unK P t K = th (P.underlying t) K := by unfold unK; cases P.underlying t <;> rfl
def szE (P : Program) (t : TypeId) : Option Nat := match P.info? t with | some i => some i.size | none => none
theorem szK_E (t : TypeId) (K : Nat -> Option β) : szK P t K = th (szE P t) K := by unfold szK szE; cases P.info? t <;> simp
def okvs : List AV -> Option (List AV)
 | [] => some []
 | v :: vs => th (okv v) fun v => th (okvs vs) fun vs => some (v :: vs)
theorem fSs_E (vs : List Value) (K : List AV -> Option β) : fSs vs K = th (okvs (vs.map ofS)) K := by
 induction vs generalizing K with
 | nil => rfl
 | cons v vs ih => simp only [fSs,List.map_cons,okvs,fK_E,ih,th_th,th_some]
def valE (v : Value) : Option AV := match v with
 | .agg cs => th (okvs (cs.toList.map ofS)) fun xs => some (.agg xs)
 | .tuple cs => if cs.size = 0 then some (.tup []) else none
 | v => okv (ofS v)
theorem fV_E (v : Value) (K : AV -> Option β) : fV v K = th (valE v) K := by
 cases v <;> first
  | (simp only [fV,valE,fSs_E,th_th,th_some]; done)
  | (simp only [fV,valE]; split <;> rfl)
  | (simp only [fV,valE]; exact fK_E _ _)
def zeroE (P : Program) (t : TypeId) : Option AV := match P.info? t with
 | some i => (match i.zero with | some v => valE v | none => none)
 | none => none
theorem zeroK_E (t : TypeId) (K : AV -> Option β) : zeroK P t K = th (zeroE P t) K := by
 unfold zeroK zeroE
 cases P.info? t with
 | none => rfl
 | some i =>
  simp only
  cases i.zero with
  | none => rfl
  | some v => exact fV_E _ _
theorem lget_E (l : List AV) (n : Nat) (K : AV -> Option β) : lget l n none K = th (l[n]?) K := by
 induction l generalizing n with
 | nil => rfl
 | cons x xs ih => cases n with
  | zero => rfl
  | succ n => simp only [lget]; rw [ih]; simp
theorem ltake_E (n : Nat) (l : List AV) (K : List AV -> Option β) : ltake n l none K = if n <= l.length then K (l.take n) else none := by
 induction n generalizing l K with
 | zero => simp [ltake]
 | succ n ih => cases l with
  | nil => simp [ltake]
  | cons x xs => simp [ltake,ih]
theorem ldrop_E (n : Nat) (l : List AV) (K : List AV -> Option β) : ldrop n l none K = if n <= l.length then K (l.drop n) else none := by
 induction n generalizing l with
 | zero => simp [ldrop]
 | succ n ih => cases l with
  | nil => simp [ldrop]
  | cons x xs => simp [ldrop,ih]
theorem lcut_E (off n : Nat) (l : List AV) (K : List AV -> Option β) : lcut off n l none K = if off + n <= l.length then K ((l.drop off).take n) else none := by
 unfold lcut
 rw [ldrop_E,ltake_E]
 by_cases h : off + n <= l.length
 ·rw [if_pos (by omega),if_pos (by simp; omega),if_pos h]
 ·rw [if_neg h]
  split
  ·rw [if_neg (by simp; omega)]
  ·rfl
def allSc (vs : List AV) : Bool := vs.all isSc
theorem lover_E (vs l : List AV) (K : List AV -> Option β) : lover vs l none K = if vs.length <= l.length /\ allSc vs = true then K (vs ++ l.drop vs.length) else none := by
 induction vs generalizing l K with
 | nil => simp [lover,allSc]
 | cons v vs ih => cases l with
  | nil => simp [lover]
  | cons x xs =>
   simp only [lover]
   cases hv : isSc v with
   | true => simp [ih,allSc,hv]
   | false => simp [allSc,hv]
theorem lput_E (off : Nat) (vs l : List AV) (K : List AV -> Option β) : lput off vs l none K = if off + vs.length <= l.length /\ allSc vs = true then K (l.take off ++ vs ++ l.drop (off + vs.length)) else none := by
 induction off generalizing l K with
 | zero => simp only [lput,lover_E]; simp
 | succ off ih => cases l with
  | nil => simp [lput]
  | cons x xs =>
   simp only [lput,ih]
   simp only [List.length_cons,List.take_succ_cons,List.cons_append]
   congr 1
   ·simp only [eq_iff_iff]; constructor <;> (rintro ⟨h,g⟩; exact ⟨by omega,g⟩)
   ·rw [show off + 1 + vs.length = off + vs.length + 1 by omega,List.drop_succ_cons]
theorem fArgs_E (ρ : Operand -> AV) (xs : List Operand) (K : List AV -> Option β) : fArgs ρ xs K = th (okvs (xs.map ρ)) K := by
 induction xs generalizing K with
 | nil => rfl
 | cons x xs ih => simp only [fArgs,List.map_cons,okvs,fK_E,ih,th_th,th_some]
theorem getK_E (h : Heap) (k : Nat) (K : Blk -> Option β) : h.getK k none K = th (h.get k) K := by rw [hgetK_eq]; cases h.get k <;> rfl
theorem putK_E (h : Heap) (k : Nat) (b : Blk) (K : Heap -> Option β) : h.putK k b K = K (h.put k (some b)) := hputK_eq ..
theorem newK_E (h : Heap) (b : Blk) (K : Nat -> Heap -> Option β) : h.newK b K = K h.next (h.new b) := hnewK_eq ..
def cutE (off n : Nat) (l : List AV) : Option (List AV) := if off + n <= l.length then some ((l.drop off).take n) else none
theorem lcut_th (off n : Nat) (l : List AV) (K : List AV -> Option β) : lcut off n l none K = th (cutE off n l) K := by rw [lcut_E]; unfold cutE; split <;> rfl
def overE (off : Nat) (vs l : List AV) : Option (List AV) := if off + vs.length <= l.length /\ allSc vs = true then some (l.take off ++ vs ++ l.drop (off + vs.length)) else none
theorem lput_th (off : Nat) (vs l : List AV) (K : List AV -> Option β) : lput off vs l none K = th (overE off vs l) K := by rw [lput_E]; unfold overE; split <;> rfl
def storeCE (h : Heap) (k off : Nat) (vs : List AV) : Option Heap := match vs with
 | [] => some h
 | _ => match h.get k with
  | some (.cells cs ext false) => th (overE off vs cs) fun cs => some (h.put k (some (.cells cs ext false)))
  | _ => none
theorem storeCK_E (h : Heap) (k off : Nat) (vs : List AV) (K : Heap -> Option β) : storeCK h k off vs K = th (storeCE h k off vs) K := by
 cases vs with
 | nil => rfl
 | cons v vs =>
  simp only [storeCK,storeCE,getK_E]
  cases h.get k with
  | none => rfl
  | some b =>
   cases b with
   | map _ _ => rfl
   | cells cs ext ro => cases ro <;> simp only [lput_th,th_th,th_some,putK_E] <;> rfl
def asIE (v : AV) : Option Int := match v with | .int _ n => some n | _ => none
def asNE (v : AV) : Option Nat := match v with | .int _ (.ofNat n) => some n | _ => none
theorem asI_E (v : AV) (K : Int -> Option β) : asI v K = th (asIE v) K := by cases v <;> rfl
theorem asN_E (v : AV) (K : Nat -> Option β) : asN v K = th (asNE v) K := by
 cases v with
 | int k n => cases n <;> rfl
 | _ => rfl
def idxE (i : Int) (n : Nat) : Option Nat := if 0 <= i /\ i < n then some i.toNat else none
theorem idxK_E (i : Int) (n : Nat) (K : Nat -> Option β) : idxK i n K = th (idxE i n) K := by
 unfold idxE
 cases i with
 | ofNat a =>
  simp only [idxK]
  cases h : Nat.blt a n with
  | true => rw [if_pos ⟨Int.natCast_nonneg a,by simp [Nat.blt_eq] at h; simp; omega⟩]; rfl
  | false => rw [if_neg (by
    have : ¬ a < n := fun c => by rw [<- Nat.blt_eq,h] at c; cases c
    simp; omega)]; rfl
 | negSucc a => rw [if_neg (by omega)]; rfl
def loadE (P : Program) (h : Heap) (t : TypeId) (a : AV) : Option AV := match a with
 | .ptr k off => (match h.get k with
  | some (.cells cs _ _) => th (P.underlying t) fun d => (match isAggD d with
   | true => th (szE P t) fun n => th (cutE off n cs) fun r => some (.agg r)
   | false => cs[off]?)
  | _ => none)
 | _ => none
theorem loadK_E (h : Heap) (t : TypeId) (a : AV) (K : AV -> Option β) : loadK P h t a K = th (loadE P h t a) K := by
 cases a <;> try rfl
 rename_i k off
 simp only [loadK,loadE,getK_E]
 cases h.get k with
 | none => rfl
 | some b =>
  cases b with
  | map _ _ => rfl
  | cells cs _ _ =>
   simp only [th_some,unK_E]
   cases P.underlying t with
   | none => rfl
   | some d =>
    simp only [th_some]
    cases isAggD d <;> simp only [szK_E,lcut_th,th_th,th_some,lget_E]
def storeE (P : Program) (h : Heap) (t : TypeId) (a v : AV) : Option Heap := match a with
 | .ptr k off => th (szE P t) fun n => (match Nat.beq n v.cells.length with | true => storeCE h k off v.cells | false => none)
 | _ => none
theorem storeK_E (h : Heap) (t : TypeId) (a v : AV) (K : Heap -> Option β) : storeK P h t a v K = th (storeE P h t a v) K := by
 cases a <;> try rfl
 simp only [storeK,storeE,szK_E,th_th,cellsK_eq,llen_eq,Nat.zero_add]
 congr 1
 funext n
 cases Nat.beq n v.cells.length with
 | false => rfl
 | true => exact storeCK_E ..
end Go.Aw
namespace Go.Aw
open Go Go.Ai
set_option linter.unusedSimpArgs false
variable {P : Program} {β : Type}
/-! arithmetic -/
def binIE (op : BinOp) (k : IntKind) (x y : Int) : Option AV := intOpK op k x y some
theorem intOpK_E (op : BinOp) (k : IntKind) (x y : Int) (K : AV -> Option β) : intOpK op k x y K = th (intOpK op k x y some) K := by
 unfold intOpK
 cases op <;> simp only [fI_eq,fB_eq,th_some,th_none] <;> (first | rfl | (cases divA _ k x y <;> rfl) | (cases bitsA _ k x y <;> rfl) | (cases cmpA _ x y <;> rfl))
theorem scsEqK_E : ∀ (q : List Kd) (x y : List AV) (K : Bool -> Option β),scsEqK q x y K = th (scsEqK q x y some) K
 | [],[],[],K => rfl
 | q :: qs,a :: x,b :: y,K => by
  simp only [scsEqK]
  cases kEq q a b with
  | none => rfl
  | some e =>
   cases e with
   | true => exact scsEqK_E qs x y K
   | false => simp only; cases lenIs qs x y <;> rfl
 | [],[],_ :: _,_ => rfl
 | [],_ :: _,_,_ => rfl
 | _ :: _,[],_,_ => rfl
 | _ :: _,_ :: _,[],_ => rfl
def eqlE (P : Program) (t : TypeId) (x y : AV) : Option Bool := eqlK P t x y some
theorem eqlK_E (t : TypeId) (x y : AV) (K : Bool -> Option β) : eqlK P t x y K = th (eqlE P t x y) K := by
 unfold eqlE eqlK
 rw [unK_E,unK_E,th_th]
 congr 1
 funext d
 split <;> try simp only [fB_eq,th_some,th_none]
 ·simp only [szK_E,th_th]
  congr 1
  funext n
  split <;> simp
 ·split
  ·exact scsEqK_E _ _ _ _
  ·simp
theorem strOpK_E (op : BinOp) (x y : List UInt8) (K : AV -> Option β) : strOpK op x y K = th (strOpK op x y some) K := by
 unfold strOpK
 cases op <;> simp only [fB_eq,fL_eq,th_some,th_none]
 cases Nat.ble (x.length + y.length) mostCells <;> rfl
def binE (P : Program) (op : BinOp) (t : TypeId) (x y : AV) : Option AV := binK P op t x y some
theorem binK_E (op : BinOp) (t : TypeId) (x y : AV) (K : AV -> Option β) : binK P op t x y K = th (binE P op t x y) K := by
 unfold binE binK
 split
 ·split
  ·cases shiftA .shl _ _ _ <;> simp
  ·cases shiftA .shr _ _ _ <;> simp
  ·split
   ·exact intOpK_E ..
   ·rfl
 ·exact strOpK_E ..
 ·split
  ·simp only [eqlK_E,th_th,th_some]
  ·simp only [eqlK_E,th_th]
   congr 1
   funext b
   cases b <;> rfl
  ·rfl
def unE (op : UnOp) (x : AV) : Option AV := unA op x some
theorem unA_E (op : UnOp) (x : AV) (K : AV -> Option β) : unA op x K = th (unE op x) K := by
 unfold unE unA
 split <;> try simp only [fI_eq,th_some,th_none]
 ·rename_i b; cases b <;> rfl
 ·rename_i k n
  cases bitsA .xor k (if k.signed = true then -1 else k.max) n <;> simp
/-! addresses,slices -/
def arrayAtE (P : Program) (t : TypeId) (x : AV) : Option AV := arrayAtK P t x some
theorem arrayAtK_E (t : TypeId) (x : AV) (K : AV -> Option β) : arrayAtK P t x K = th (arrayAtE P t x) K := by
 unfold arrayAtE arrayAtK
 rw [unK_E,unK_E,th_th]
 congr 1
 funext d
 split <;> (try split) <;> rfl
def indexAddrE (P : Program) (t : TypeId) (x ix : AV) : Option AV := indexAddrK P t x ix some
theorem indexAddrK_E (t : TypeId) (x ix : AV) (K : AV -> Option β) : indexAddrK P t x ix K = th (indexAddrE P t x ix) K := by
 unfold indexAddrE indexAddrK
 simp only [asI_E,unK_E,th_th]
 congr 1; funext i
 congr 1; funext d
 split <;> simp only [idxK_E,szK_E,th_th,fN_eq,th_some,th_none]
def bndE (v : Option AV) (d m : Nat) : Option Nat := match v with
 | none => some d
 | some v => th (asIE v) fun i => idxE i (m + 1)
theorem bndK_E (v : Option AV) (d m : Nat) (K : Nat -> Option β) : bndK v d m K = th (bndE v d m) K := by
 cases v with
 | none => rfl
 | some v => simp only [bndK,bndE,asI_E,idxK_E,th_th,th_some]
def sliceE (P : Program) (t : TypeId) (x : AV) (lo hi mx : Option AV) : Option AV := sliceK P t x lo hi mx some
theorem th_congr {α : Type} (a : Option α) {f g : α -> Option β} (h : ∀ x,f x = g x) : th a f = th a g := by cases a <;> simp [th,h]
theorem sliceK_E (t : TypeId) (x : AV) (lo hi mx : Option AV) (K : AV -> Option β) : sliceK P t x lo hi mx K = th (sliceE P t x lo hi mx) K := by
 unfold sliceE sliceK
 simp only [unK_E,bndK_E,szK_E,llen_eq,fL_eq,fN_eq,th_th]
 refine th_congr _ fun d => ?_
 split
 ·cases mx with
  | some _ => rfl
  | none => simp only [th_th,th_some]
 ·simp only [th_th]
  refine th_congr _ fun m => th_congr _ fun h => th_congr _ fun l => th_congr _ fun n => ?_
  split <;> rfl
 ·simp only [th_th]
  refine th_congr _ fun m => th_congr _ fun h => th_congr _ fun l => th_congr _ fun n => ?_
  split <;> rfl
 ·split
  ·simp only [th_th,th_some]
  ·rfl
  ·simp only [th_th]
   refine th_congr _ fun h => th_congr _ fun l => th_congr _ fun n => ?_
   split
   ·rfl
   ·split <;> rfl
 ·split
  ·rfl
  ·simp only [th_th,th_some]
 ·split
  ·rfl
  ·simp only [th_th,th_some]
 ·simp only [th_th]
  refine th_congr _ fun m => th_congr _ fun h => th_congr _ fun l => th_congr _ fun n => ?_
  split <;> rfl
 ·rfl
 ·rfl
def fieldAddrE (P : Program) (s : TypeId) (x : AV) (f : Nat) : Option AV := fieldAddrK P s x f some
theorem fieldAddrK_E (s : TypeId) (x : AV) (f : Nat) (K : AV -> Option β) : fieldAddrK P s x f K = th (fieldAddrE P s x f) K := by
 unfold fieldAddrE fieldAddrK
 rw [unK_E,unK_E,th_th]
 refine th_congr _ fun d => ?_
 split
 ·split
  ·rw [szK_E,szK_E,th_th]
   refine th_congr _ fun n => ?_
   split <;> simp
  ·rfl
 ·rfl
def partE (P : Program) (t : TypeId) (cs : List AV) (off : Nat) : Option AV := partK P t cs off some
theorem partK_E (t : TypeId) (cs : List AV) (off : Nat) (K : AV -> Option β) : partK P t cs off K = th (partE P t cs off) K := by
 unfold partE partK
 rw [unK_E,unK_E,th_th]
 refine th_congr _ fun d => ?_
 split
 ·simp only [szK_E,lcut_th,th_th,th_some]
 ·simp only [lget_E,th_id]
def fieldE (P : Program) (s : TypeId) (x : AV) (f : Nat) : Option AV := fieldK P s x f some
theorem fieldK_E (s : TypeId) (x : AV) (f : Nat) (K : AV -> Option β) : fieldK P s x f K = th (fieldE P s x f) K := by
 unfold fieldE fieldK
 rw [unK_E,unK_E,th_th]
 refine th_congr _ fun d => ?_
 split
 ·split
  ·rw [partK_E,partK_E,th_th]; rfl
  ·rfl
 ·rfl
def indexE (P : Program) (t : TypeId) (x ix : AV) : Option AV := indexK P t x ix some
theorem indexK_E (t : TypeId) (x ix : AV) (K : AV -> Option β) : indexK P t x ix K = th (indexE P t x ix) K := by
 unfold indexE indexK
 simp only [asI_E,unK_E,th_th]
 refine th_congr _ fun i => ?_
 refine th_congr _ fun d => ?_
 split
 ·simp only [idxK_E,szK_E,th_th,fN_eq]
  refine th_congr _ fun i => ?_
  refine th_congr _ fun s => ?_
  rw [partK_E,partK_E,th_th]; rfl
 ·split
  ·split <;> simp
  ·rfl
 ·rfl
end Go.Aw
namespace Go.Aw
open Go Go.Ai
set_option linter.unusedSimpArgs false
variable {P : Program} {β : Type}
def fillE (place : Nat -> Option (Nat × Nat)) : List (Nat × AV) -> List AV -> Option (List AV)
 | [],cells => some cells
 | (i,v) :: rest,cells => match place i with
  | none => none
  | some (off,size) => (match Nat.beq v.cells.length size with
   | true => th (overE off v.cells cells) fun cells => fillE place rest cells
   | false => none)
theorem fillK_E (place : Nat -> Option (Nat × Nat)) : ∀ (ps : List (Nat × AV)) (cells : List AV) (K : List AV -> Option β),fillK place ps cells K = th (fillE place ps cells) K
 | [],_,_ => rfl
 | (i,v) :: rest,cells,K => by
  simp only [fillK,fillE]
  cases place i with
  | none => rfl
  | some p =>
   obtain ⟨off,size⟩ := p
   simp only [cellsK_eq,llen_eq,Nat.zero_add]
   cases Nat.beq v.cells.length size with
   | false => rfl
   | true =>
    simp only [lput_th,th_th]
    exact th_congr _ fun _ => fillK_E place rest _ K
def buildE (P : Program) (t : TypeId) (parts : List (Nat × AV)) : Option AV := buildK P t parts some
theorem buildK_E (t : TypeId) (parts : List (Nat × AV)) (K : AV -> Option β) : buildK P t parts K = th (buildE P t parts) K := by
 unfold buildE buildK
 simp only [zeroK_E,unK_E,szK_E,cellsK_eq,fillK_E,th_th]
 refine th_congr _ fun z => th_congr _ fun d => ?_
 split
 ·split
  ·simp only [th_th,th_some]
  ·rfl
 ·simp only [th_th,th_some]
 ·rfl
theorem repK_eq : ∀ (n : Nat) (l : List AV) (K : List AV -> Option β),repK n l K = K (repL n l)
 | 0,_,_ => rfl
 | n + 1,l,K => by simp only [repK,lapp_eq,repK_eq n l,repL]
def BlkE := Blk × (Nat -> AV)
def kp (b : Blk) (mk : Nat -> AV) : Option BlkE := some (b,mk)
def thB (r : Option BlkE) (K : Blk -> (Nat -> AV) -> Option β) : Option β := match r with | some (b,mk) => K b mk | none => none
theorem thB_kp (b : Blk) (mk : Nat -> AV) (K : Blk -> (Nat -> AV) -> Option β) : thB (kp b mk) K = K b mk := rfl
theorem thB_th {α : Type} (a : Option α) (f : α -> Option BlkE) (K : Blk -> (Nat -> AV) -> Option β) : thB (th a f) K = th a fun x => thB (f x) K := by cases a <;> rfl
theorem buildSliceK_E (t : TypeId) (len : Nat) (parts : List (Nat × AV)) (K : Blk -> (Nat -> AV) -> Option β) : buildSliceK P t len parts K = thB (buildSliceK P t len parts kp) K := by
 unfold buildSliceK
 simp only [unK_E,thB_th]
 refine th_congr _ fun d => ?_
 split
 ·simp only [szK_E,thB_th]
  refine th_congr _ fun n => ?_
  split
  ·rfl
  ·rfl
  ·simp only [zeroK_E,cellsK_eq,llen_eq,Nat.zero_add,thB_th]
   refine th_congr _ fun z => ?_
   split
   ·simp only [repK_eq,fillK_E,thB_th,thB_kp]
   ·rfl
 ·rfl
theorem makeSliceK_E (t : TypeId) (l c : AV) (K : Blk -> (Nat -> AV) -> Option β) : makeSliceK P t l c K = thB (makeSliceK P t l c kp) K := by
 unfold makeSliceK
 simp only [unK_E,thB_th]
 refine th_congr _ fun d => ?_
 split
 ·simp only [asN_E,szK_E,thB_th]
  refine th_congr _ fun l => th_congr _ fun c => th_congr _ fun n => ?_
  split
  ·split
   ·simp only [zeroK_E,cellsK_eq,llen_eq,Nat.zero_add,thB_th]
    refine th_congr _ fun z => ?_
    split
    ·simp only [repK_eq,thB_kp]
    ·rfl
   ·rfl
  ·rfl
 ·rfl
def convPureE (P : Program) (s d : TypeId) (x : AV) : Option AV := convPureK P s d x some
theorem convPureK_E (s d : TypeId) (x : AV) (K : AV -> Option β) : convPureK P s d x K = th (convPureE P s d x) K := by
 unfold convPureE convPureK
 simp only [unK_E,th_th]
 refine th_congr _ fun s => th_congr _ fun d => ?_
 split <;> simp
def at_E (h : Heap) (k off m : Nat) : Option (List AV) := match h.get k with | some (.cells cs _ _) => cutE off m cs | _ => none
def firstE (h : Heap) (size n : Nat) (x : AV) : Option (List AV) := firstK h size n x some
theorem firstK_E (h : Heap) (size n : Nat) (x : AV) (K : List AV -> Option β) : firstK h size n x K = th (firstE h size n x) K := by
 unfold firstE firstK
 cases x <;> simp only [th_some,th_none,fL_eq]
 ·rename_i k off l c
  cases n * size with
  | zero => rfl
  | succ m =>
   simp only [getK_E,th_th]
   refine th_congr _ fun b => ?_
   cases b with
   | map _ _ => rfl
   | cells cs _ _ => simp only [lcut_th,th_id]
 ·rename_i k off l c
  cases n * size with
  | zero => rfl
  | succ m =>
   simp only [getK_E,th_th]
   refine th_congr _ fun b => ?_
   cases b with
   | map _ _ => rfl
   | cells cs _ _ => simp only [lcut_th,th_id]
 ·cases n <;> rfl
theorem convStrK_E (h : Heap) (s d : TypeId) (x : AV) (K : AV -> Option β) : convStrK P h s d x K = th (convStrK P h s d x some) K := by
 unfold convStrK
 simp only [unK_E,th_th]
 refine th_congr _ fun s => th_congr _ fun d => ?_
 split
 ·simp only [th_th]
  refine th_congr _ fun e => ?_
  split
  ·simp only [firstK_E,th_th]
   refine th_congr _ fun cs => ?_
   split <;> simp
  ·rfl
 ·rfl
theorem th2_th {α γ δ : Type} (a : Option α) (f : α -> Option (γ × δ)) (K : γ -> δ -> Option β) : th2 (th a f) K = th a fun x => th2 (f x) K := by cases a <;> rfl
theorem th2_p2 (v : AV) (h : Heap) (K : AV -> Heap -> Option β) : th2 (p2 v h) K = K v h := rfl
theorem convBytesK_E (h : Heap) (s d : TypeId) (x : AV) (K : AV -> Heap -> Option β) : convBytesK P h s d x K = th2 (convBytesK P h s d x p2) K := by
 unfold convBytesK
 simp only [unK_E,th2_th]
 refine th_congr _ fun s => th_congr _ fun d => ?_
 split
 ·simp only [th2_th]
  refine th_congr _ fun e => ?_
  split
  ·simp only [getK_E,th2_th]
   refine th_congr _ fun b => ?_
   split
   ·simp only [putK_E,th2_p2]
   ·rfl
  ·rfl
 ·simp only [th2_th]
  refine th_congr _ fun e => ?_
  split
  ·simp only [llen_eq,fL_eq,newK_E,th2_p2]
  ·rfl
 ·rfl
/-! maps -/
theorem findK_E : ∀ (es : List (AV × AV)) (x : AV) (K : Option AV -> Option β),findK es x K = th (findK es x some) K
 | [],_,_ => rfl
 | (k,v) :: r,x,K => by
  simp only [findK]
  cases scEq x k with
  | none => rfl
  | some b => cases b with
   | true => rfl
   | false => exact findK_E r x K
theorem lookFinK_E (t : TypeId) (ok : Bool) (K : AV -> Option β) (r : Option AV) : lookFinK P t ok K r = th (lookFinK P t ok some r) K := by
 cases r with
 | some v => cases ok <;> rfl
 | none =>
  simp only [lookFinK,zeroK_E,th_th]
  exact th_congr _ fun z => by cases ok <;> rfl
theorem keyK_E (t : TypeId) (k : AV) (K : Unit -> Option β) : keyK P t k K = th (keyK P t k some) K := by
 unfold keyK
 simp only [unK_E,th_th]
 refine th_congr _ fun d => ?_
 split <;> rfl
def lookupE (P : Program) (h : Heap) (t : TypeId) (x k : AV) (ok : Bool) : Option AV := lookupK P h t x k ok some
theorem lookupK_E (h : Heap) (t : TypeId) (x k : AV) (ok : Bool) (K : AV -> Option β) : lookupK P h t x k ok K = th (lookupE P h t x k ok) K := by
 unfold lookupE lookupK
 simp only [unK_E,th_th]
 refine th_congr _ fun d => ?_
 split
 ·rw [keyK_E,keyK_E (β := AV),th_th]
  refine th_congr _ fun _ => ?_
  split
  ·exact lookFinK_E ..
  ·simp only [getK_E,th_th]
   refine th_congr _ fun b => ?_
   split
   ·rw [findK_E,findK_E (β := AV),th_th]
    exact th_congr _ fun r => lookFinK_E ..
   ·rfl
  ·rfl
 ·rfl
theorem updK_E (es : List (AV × AV)) (x v : AV) : ∀ {γ : Type} (K : List (AV × AV) -> Option γ),updK es x v K = th (updK es x v some) K := by
 induction es with
 | nil => intro γ K; rfl
 | cons e r ih =>
  intro γ K
  obtain ⟨k,w⟩ := e
  simp only [updK]
  cases scEq x k with
  | none => rfl
  | some b => cases b with
   | true => rfl
   | false => simp only; rw [ih,ih (fun r => some ((k,w) :: r)),th_th]; rfl
theorem delK_E (es : List (AV × AV)) (x : AV) : ∀ {γ : Type} (K : List (AV × AV) -> Option γ),delK es x K = th (delK es x some) K := by
 induction es with
 | nil => intro γ K; rfl
 | cons e r ih =>
  intro γ K
  obtain ⟨k,w⟩ := e
  simp only [delK]
  cases scEq x k with
  | none => rfl
  | some b => cases b with
   | true => rfl
   | false => simp only; rw [ih,ih (fun r => some ((k,w) :: r)),th_th]; rfl
def clearE (P : Program) (h : Heap) (t : TypeId) (x : AV) : Option Heap := clearK P h t x some
theorem clearK_E (h : Heap) (t : TypeId) (x : AV) (K : Heap -> Option β) : clearK P h t x K = th (clearE P h t x) K := by
 unfold clearE clearK
 simp only [unK_E,th_th]
 refine th_congr _ fun d => ?_
 split
 ·rfl
 ·rfl
 ·split
  ·rfl
  ·simp only [zeroK_E,cellsK_eq,repK_eq,storeCK_E,th_th,th_some]
 ·split
  ·rfl
  ·simp only [zeroK_E,cellsK_eq,repK_eq,storeCK_E,th_th,th_some]
 ·rfl
def mapUpdateE (P : Program) (h : Heap) (t : TypeId) (m k v : AV) : Option Heap := mapUpdateK P h t m k v some
theorem mapUpdateK_E (h : Heap) (t : TypeId) (m k v : AV) (K : Heap -> Option β) : mapUpdateK P h t m k v K = th (mapUpdateE P h t m k v) K := by
 unfold mapUpdateE mapUpdateK
 simp only [unK_E,th_th]
 refine th_congr _ fun d => ?_
 split
 ·rw [keyK_E,keyK_E (β := Heap),th_th]
  refine th_congr _ fun _ => ?_
  simp only [getK_E,th_th]
  refine th_congr _ fun b => ?_
  split
  ·rw [updK_E,updK_E (γ := Heap),th_th]; simp only [putK_E,th_some]
  ·rfl
 ·rfl
def deleteE (P : Program) (h : Heap) (t : TypeId) (m k : AV) : Option Heap := deleteK P h t m k some
theorem deleteK_E (h : Heap) (t : TypeId) (m k : AV) (K : Heap -> Option β) : deleteK P h t m k K = th (deleteE P h t m k) K := by
 unfold deleteE deleteK
 simp only [unK_E,th_th]
 refine th_congr _ fun d => ?_
 split
 ·rw [keyK_E,keyK_E (β := Heap),th_th]; rfl
 ·rw [keyK_E,keyK_E (β := Heap),th_th]
  refine th_congr _ fun _ => ?_
  simp only [getK_E,th_th]
  refine th_congr _ fun b => ?_
  split
  ·rw [delK_E,delK_E (γ := Heap),th_th]; simp only [putK_E,th_some]
  ·rfl
 ·rfl
theorem lenMapK_E (h : Heap) (t : TypeId) (x : AV) (K : AV -> Option β) : lenMapK P h t x K = th (lenMapK P h t x some) K := by
 unfold lenMapK
 simp only [unK_E,th_th,fN_eq]
 refine th_congr _ fun d => ?_
 split
 ·rfl
 ·simp only [getK_E,th_th]
  refine th_congr _ fun b => ?_
  split
  ·simp only [llen_eq]; rfl
  ·rfl
 ·rfl
def lenE (P : Program) (t : TypeId) (x : AV) : Option AV := lenK P t x some
theorem lenK_E (t : TypeId) (x : AV) (K : AV -> Option β) : lenK P t x K = th (lenE P t x) K := by
 unfold lenE lenK
 simp only [unK_E,th_th,fN_eq,llen_eq]
 refine th_congr _ fun d => ?_
 split <;> try rfl
 simp only [th_th]
 refine th_congr _ fun d => ?_
 split <;> rfl
theorem minMaxK_E (b : Bool) (args : List AV) (K : AV -> Option β) : minMaxK b args K = th (minMaxK b args some) K := by
 unfold minMaxK
 split
 ·split
  ·split <;> rfl
  ·rfl
 ·rfl
def copyE (P : Program) (h : Heap) (t : TypeId) (d x : AV) : Option (AV × Heap) := copyK P h t d x p2
theorem copyK_E (h : Heap) (t : TypeId) (d x : AV) (K : AV -> Heap -> Option β) : copyK P h t d x K = th2 (copyE P h t d x) K := by
 unfold copyE copyK
 simp only [unK_E,th2_th]
 refine th_congr _ fun dd => ?_
 split
 ·simp only [szK_E,th2_th]
  refine th_congr _ fun size => ?_
  split
  ·simp only [fN_eq,firstK_E,th2_th]
   refine th_congr _ fun cs => ?_
   split
   ·rfl
   ·simp only [storeCK_E,th2_th]; rfl
   ·simp only [storeCK_E,th2_th]; rfl
   ·rfl
  ·rfl
 ·rfl
theorem growK_E (h : Heap) (size need : Nat) (old new : List AV) (K : AV -> Heap -> Option β) : growK h size need old new K = K (.eslice h.next 0 0 need) (h.new (.cells (old ++ new) size false)) := by
 simp only [growK,lapp_eq,newK_E]
def appendE (P : Program) (h : Heap) (t : TypeId) (s x : AV) : Option (AV × Heap) := appendK P h t s x p2
theorem dropK_E (h : Heap) (k : Nat) (K : Heap -> Option β) : h.dropK k K = K (h.put k none) := by cases h; simp only [Heap.dropK,Heap.put]; rw [setK_eq]
theorem appendK_E (h : Heap) (t : TypeId) (s x : AV) (K : AV -> Heap -> Option β) : appendK P h t s x K = th2 (appendE P h t s x) K := by
 unfold appendE appendK
 simp only [unK_E,th2_th]
 refine th_congr _ fun d => ?_
 split
 ·split
  ·split
   ·split
    ·split
     ·simp only [fN_eq]
      split
      ·simp only [firstK_E,llen_eq,th2_th]
       refine th_congr _ fun new => ?_
       split
       ·split
        ·simp only [getK_E,th2_th]
         refine th_congr _ fun b => ?_
         split
         ·split
          ·simp only [lcut_th,llen_eq,th2_th]
           refine th_congr _ fun old => ?_
           simp only [dropK_E,growK_E,th2_p2]
          ·rfl
         ·rfl
        ·split
         ·simp only [storeCK_E,th2_th,th2_p2]
         ·simp only [growK_E,th2_th,th2_p2]
        ·split
         ·rfl
         ·simp only [growK_E,th2_p2]
        ·rfl
       ·rfl
      ·rfl
     ·rfl
    ·rfl
   ·rfl
  ·rfl
 ·rfl
end Go.Aw
namespace Go.Aw
open Go Go.Ai
set_option linter.unusedSimpArgs false
variable {P : Program} {β : Type}
def pureE (P : Program) (ρ : Operand -> AV) (o : Oper) : Option AV := pureK P ρ o some
theorem pureK_E (ρ : Operand -> AV) (o : Oper) (K : AV -> Option β) : pureK P ρ o K = th (pureE P ρ o) K := by
 unfold pureE pureK
 split <;> (try simp only [fK_E,okK_E,fArgs_E,th_th])
 all_goals first
  | rfl
  | (split <;> simp only [fK_E,th_id] <;> rfl)
  | (simp only [buildK_E,binK_E,unA_E,arrayAtK_E,sliceK_E,fieldAddrK_E,fieldK_E,indexAddrK_E,indexK_E,convPureK_E,lget_E,th_th,th_id,th_some]; done)
  | skip
 ·split
  ·simp only [fK_E,th_id]
  ·simp only [fK_E,th_id]
  ·rfl
 ·generalize ρ _ = v
  cases v <;> try rfl
  rename_i f _ _
  cases f <;> rfl
 ·simp only [unK_E,th_th]
  refine th_congr _ fun d => ?_
  cases d <;> first | rfl | (simp only [th_th]; rfl)
 ·generalize ρ _ = v
  cases v <;> try rfl
  simp only [lget_E,th_id]
 ·simp only [unK_E,th_th]
  refine th_congr _ fun d => ?_
  split
  ·rfl
  ·split <;> rfl
  ·rfl
 ·split
  ·split
   ·simp only [okK_E,lenK_E,th_th,th_id]
   ·rfl
  ·rw [th_th]
   exact th_congr _ fun vs => minMaxK_E ..
  ·rw [th_th]
   exact th_congr _ fun vs => minMaxK_E ..
  ·rfl
def readE (P : Program) (ρ : Operand -> AV) (o : Oper) (h : Heap) : Option AV := readK P ρ o h some
theorem readK_E (ρ : Operand -> AV) (o : Oper) (h : Heap) (K : AV -> Option β) : readK P ρ o h K = th (readE P ρ o h) K := by
 unfold readE readK
 split
 ·simp only [okK_E,loadK_E,th_th,th_id]
 ·simp only [okK_E,lookupK_E,th_th,th_id]
 ·simp only [okK_E,th_th]
  exact th_congr _ fun v => convStrK_E ..
 ·split
  ·split
   ·simp only [okK_E,th_th]
    exact th_congr _ fun v => lenMapK_E ..
   ·rfl
  ·rfl
 ·rfl
def allocE (P : Program) (ρ : Operand -> AV) (o : Oper) : Option BlkE := allocK P ρ o kp
theorem allocK_E (ρ : Operand -> AV) (o : Oper) (K : Blk -> (Nat -> AV) -> Option β) : allocK P ρ o K = thB (allocE P ρ o) K := by
 unfold allocE allocK
 split
 ·simp only [zeroK_E,cellsK_eq,thB_th,thB_kp]
 ·simp only [fK_E,cellsK_eq,thB_th,thB_kp]
 ·simp only [fArgs_E,thB_th]
  exact th_congr _ fun v => buildSliceK_E ..
 ·simp only [okK_E,thB_th]
  exact th_congr _ fun v => th_congr _ fun v => makeSliceK_E ..
 ·simp only [unK_E,thB_th]
  refine th_congr _ fun d => ?_
  split <;> rfl
 ·simp only [unK_E,thB_th]
  refine th_congr _ fun d => ?_
  split
  ·simp only [okK_E,asI_E,thB_th]
   rfl
  ·rfl
 ·rfl
theorem th2_id (r : Option (AV × Heap)) : th2 r p2 = r := by cases r <;> rfl
def effE (P : Program) (call : CallK) (ρ : Operand -> AV) (o : Oper) (h : Heap) : Option (AV × Heap) := effK P call ρ o h p2
theorem effK_E (call : CallK) (ρ : Operand -> AV) (o : Oper) (h : Heap) (K : AV -> Heap -> Option β) : effK P call ρ o h K = th2 (effE P call ρ o h) K := by
 unfold effE effK
 split
 ·simp only [fK_E,okK_E,storeK_E,th2_th,th2_p2]
 ·simp only [fK_E,okK_E,mapUpdateK_E,th2_th,th2_p2]
 ·simp only [fK_E,okK_E,mapUpdateK_E,th2_th,th2_p2]
 ·simp only [okK_E,th2_th]
  exact th_congr _ fun v => convBytesK_E ..
 ·split
  ·simp only [fArgs_E,okK_E,th2_th]
   refine th_congr _ fun vs => th_congr _ fun fv => ?_
   split
   ·simp only [lapp_eq]
    split <;> rfl
   ·rfl
  ·split
   ·simp only [unK_E,th2_th]
    refine th_congr _ fun ud => ?_
    split
    ·rfl
    ·simp only [okK_E,appendK_E,th2_th]
     refine th_congr _ fun a => th_congr _ fun b => ?_
     rw [th2_id]
   ·simp only [okK_E,appendK_E,th2_th]
    refine th_congr _ fun a => th_congr _ fun b => ?_
    rw [th2_id]
   ·rfl
  ·split
   ·simp only [okK_E,copyK_E,th2_th]
    refine th_congr _ fun a => th_congr _ fun b => ?_
    rw [th2_id]
   ·rfl
  ·split
   ·simp only [okK_E,clearK_E,th2_th,th2_p2]
   ·rfl
  ·split
   ·simp only [okK_E,deleteK_E,th2_th,th2_p2]
   ·rfl
  ·rfl
 ·rfl
def opE (P : Program) (call : CallK) (ρ : Operand -> AV) (o : Oper) (h : Heap) : Option (AV × Heap) := opK P call ρ o h p2
theorem opK_E (call : CallK) (ρ : Operand -> AV) (o : Oper) (h : Heap) (K : AV -> Heap -> Option β) : opK P call ρ o h K = th2 (opE P call ρ o h) K := by
 unfold opE opK
 split
 ·simp only [pureK_E,th2_th,th2_p2]
 ·simp only [readK_E,th2_th,th2_p2]
 ·rw [allocK_E,allocK_E]
  cases allocE P ρ o with
  | none => rfl
  | some p =>
   obtain ⟨b,mk⟩ := p
   simp only [thB,newK_E,fK_E,th2_th,th2_p2]
 ·exact effK_E ..
end Go.Aw
