import Derived.Test.YthcbefolifpbpaaAiOnce
namespace Go.Aw
open Go Go.Ai
set_option linter.unusedSimpArgs false
variable {P : Program} {β : Type}

/-! each operation by itself: what it gives, with no more to come -/
/-- from what is given by itself to what comes of it -/
def th {α : Type} (r : Option α) (K : α → Option β) : Option β := match r with | some a => K a | none => none
def th2 {α γ : Type} (r : Option (α × γ)) (K : α → γ → Option β) : Option β := match r with | some (a, b) => K a b | none => none
@[simp] theorem th_some {α : Type} (a : α) (K : α → Option β) : th (some a) K = K a := rfl
@[simp] theorem th_none {α : Type} (K : α → Option β) : th none K = none := rfl
@[simp] theorem th2_some {α γ : Type} (a : α) (b : γ) (K : α → γ → Option β) : th2 (some (a, b)) K = K a b := rfl
@[simp] theorem th2_none {α γ : Type} (K : α → γ → Option β) : th2 none K = none := rfl
def p2 (v : AV) (h : Heap) : Option (AV × Heap) := some (v, h)

theorem th_th {α γ : Type} (a : Option α) (f : α → Option γ) (K : γ → Option β) : th (th a f) K = th a fun x => th (f x) K := by cases a <;> rfl
theorem th_id {α : Type} (a : Option α) : th a some = a := by cases a <;> rfl
def okv (v : AV) : Option AV := match v with | .bad => none | v => some v
theorem fK_E (v : AV) (K : AV → Option β) : v.fK K = th (okv v) K := by cases v <;> simp [AV.fK, okv]
theorem okK_E (v : AV) (K : AV → Option β) : v.okK K = th (okv v) K := by cases v <;> simp [AV.okK, okv]
theorem unK_E (t : TypeId) (K : TypeDesc → Option β) : unK P t K = th (P.underlying t) K := by unfold unK; cases P.underlying t <;> rfl
def szE (P : Program) (t : TypeId) : Option Nat := match P.info? t with | some i => some i.size | none => none
theorem szK_E (t : TypeId) (K : Nat → Option β) : szK P t K = th (szE P t) K := by unfold szK szE; cases P.info? t <;> simp
def okvs : List AV → Option (List AV)
  | [] => some []
  | v :: vs => th (okv v) fun v => th (okvs vs) fun vs => some (v :: vs)
theorem fSs_E (vs : List Value) (K : List AV → Option β) : fSs vs K = th (okvs (vs.map ofS)) K := by
  induction vs generalizing K with
  | nil => rfl
  | cons v vs ih => simp only [fSs, List.map_cons, okvs, fK_E, ih, th_th, th_some]
def valE (v : Value) : Option AV := match v with
  | .agg cs => th (okvs (cs.toList.map ofS)) fun xs => some (.agg xs)
  | .tuple cs => if cs.size = 0 then some (.tup []) else none
  | v => okv (ofS v)
theorem fV_E (v : Value) (K : AV → Option β) : fV v K = th (valE v) K := by
  cases v <;> first
    | (simp only [fV, valE, fSs_E, th_th, th_some]; done)
    | (simp only [fV, valE]; split <;> rfl)
    | (simp only [fV, valE]; exact fK_E _ _)
def zeroE (P : Program) (t : TypeId) : Option AV := match P.info? t with
  | some i => (match i.zero with | some v => valE v | none => none)
  | none => none
theorem zeroK_E (t : TypeId) (K : AV → Option β) : zeroK P t K = th (zeroE P t) K := by
  unfold zeroK zeroE
  cases P.info? t with
  | none => rfl
  | some i =>
    simp only
    cases i.zero with
    | none => rfl
    | some v => exact fV_E _ _
theorem lget_E (l : List AV) (n : Nat) (K : AV → Option β) : lget l n none K = th (l[n]?) K := by
  induction l generalizing n with
  | nil => rfl
  | cons x xs ih => cases n with
    | zero => rfl
    | succ n => simp only [lget]; rw [ih]; simp
theorem ltake_E (n : Nat) (l : List AV) (K : List AV → Option β) : ltake n l none K = if n ≤ l.length then K (l.take n) else none := by
  induction n generalizing l K with
  | zero => simp [ltake]
  | succ n ih => cases l with
    | nil => simp [ltake]
    | cons x xs => simp [ltake, ih]
theorem ldrop_E (n : Nat) (l : List AV) (K : List AV → Option β) : ldrop n l none K = if n ≤ l.length then K (l.drop n) else none := by
  induction n generalizing l with
  | zero => simp [ldrop]
  | succ n ih => cases l with
    | nil => simp [ldrop]
    | cons x xs => simp [ldrop, ih]
theorem lcut_E (off n : Nat) (l : List AV) (K : List AV → Option β) : lcut off n l none K = if off + n ≤ l.length then K ((l.drop off).take n) else none := by
  unfold lcut
  rw [ldrop_E, ltake_E]
  by_cases h : off + n ≤ l.length
  · rw [if_pos (by omega), if_pos (by simp; omega), if_pos h]
  · rw [if_neg h]
    split
    · rw [if_neg (by simp; omega)]
    · rfl
def allSc (vs : List AV) : Bool := vs.all isSc
theorem lover_E (vs l : List AV) (K : List AV → Option β) : lover vs l none K = if vs.length ≤ l.length ∧ allSc vs = true then K (vs ++ l.drop vs.length) else none := by
  induction vs generalizing l K with
  | nil => simp [lover, allSc]
  | cons v vs ih => cases l with
    | nil => simp [lover]
    | cons x xs =>
      simp only [lover]
      cases hv : isSc v with
      | true => simp [ih, allSc, hv]
      | false => simp [allSc, hv]
theorem lput_E (off : Nat) (vs l : List AV) (K : List AV → Option β) : lput off vs l none K = if off + vs.length ≤ l.length ∧ allSc vs = true then K (l.take off ++ vs ++ l.drop (off + vs.length)) else none := by
  induction off generalizing l K with
  | zero => simp only [lput, lover_E]; simp
  | succ off ih => cases l with
    | nil => simp [lput]
    | cons x xs =>
      simp only [lput, ih]
      simp only [List.length_cons, List.take_succ_cons, List.cons_append]
      congr 1
      · simp only [eq_iff_iff]; constructor <;> (rintro ⟨h, g⟩; exact ⟨by omega, g⟩)
      · rw [show off + 1 + vs.length = off + vs.length + 1 by omega, List.drop_succ_cons]
theorem fArgs_E (ρ : Operand → AV) (xs : List Operand) (K : List AV → Option β) : fArgs ρ xs K = th (okvs (xs.map ρ)) K := by
  induction xs generalizing K with
  | nil => rfl
  | cons x xs ih => simp only [fArgs, List.map_cons, okvs, fK_E, ih, th_th, th_some]
theorem getK_E (h : Heap) (k : Nat) (K : Blk → Option β) : h.getK k none K = th (h.get k) K := by rw [hgetK_eq]; cases h.get k <;> rfl
theorem putK_E (h : Heap) (k : Nat) (b : Blk) (K : Heap → Option β) : h.putK k b K = K (h.put k (some b)) := hputK_eq ..
theorem newK_E (h : Heap) (b : Blk) (K : Nat → Heap → Option β) : h.newK b K = K h.next (h.new b) := hnewK_eq ..
def cutE (off n : Nat) (l : List AV) : Option (List AV) := if off + n ≤ l.length then some ((l.drop off).take n) else none
theorem lcut_th (off n : Nat) (l : List AV) (K : List AV → Option β) : lcut off n l none K = th (cutE off n l) K := by rw [lcut_E]; unfold cutE; split <;> rfl
def overE (off : Nat) (vs l : List AV) : Option (List AV) := if off + vs.length ≤ l.length ∧ allSc vs = true then some (l.take off ++ vs ++ l.drop (off + vs.length)) else none
theorem lput_th (off : Nat) (vs l : List AV) (K : List AV → Option β) : lput off vs l none K = th (overE off vs l) K := by rw [lput_E]; unfold overE; split <;> rfl
def storeCE (h : Heap) (k off : Nat) (vs : List AV) : Option Heap := match vs with
  | [] => some h
  | _ => match h.get k with
    | some (.cells cs ext false) => th (overE off vs cs) fun cs => some (h.put k (some (.cells cs ext false)))
    | _ => none
theorem storeCK_E (h : Heap) (k off : Nat) (vs : List AV) (K : Heap → Option β) : storeCK h k off vs K = th (storeCE h k off vs) K := by
  cases vs with
  | nil => rfl
  | cons v vs =>
    simp only [storeCK, storeCE, getK_E]
    cases h.get k with
    | none => rfl
    | some b =>
      cases b with
      | map _ _ => rfl
      | cells cs ext ro => cases ro <;> simp only [lput_th, th_th, th_some, putK_E] <;> rfl
def asIE (v : AV) : Option Int := match v with | .int _ n => some n | _ => none
def asNE (v : AV) : Option Nat := match v with | .int _ (.ofNat n) => some n | _ => none
theorem asI_E (v : AV) (K : Int → Option β) : asI v K = th (asIE v) K := by cases v <;> rfl
theorem asN_E (v : AV) (K : Nat → Option β) : asN v K = th (asNE v) K := by
  cases v with
  | int k n => cases n <;> rfl
  | _ => rfl
def idxE (i : Int) (n : Nat) : Option Nat := if 0 ≤ i ∧ i < n then some i.toNat else none
theorem idxK_E (i : Int) (n : Nat) (K : Nat → Option β) : idxK i n K = th (idxE i n) K := by
  unfold idxE
  cases i with
  | ofNat a =>
    simp only [idxK]
    cases h : Nat.blt a n with
    | true => rw [if_pos ⟨Int.natCast_nonneg a, by simp [Nat.blt_eq] at h; simp; omega⟩]; rfl
    | false => rw [if_neg (by
        have : ¬ a < n := fun c => by rw [← Nat.blt_eq, h] at c; cases c
        simp; omega)]; rfl
  | negSucc a => rw [if_neg (by omega)]; rfl
def loadE (P : Program) (h : Heap) (t : TypeId) (a : AV) : Option AV := match a with
  | .ptr k off => (match h.get k with
    | some (.cells cs _ _) => th (P.underlying t) fun d => (match isAggD d with
      | true => th (szE P t) fun n => th (cutE off n cs) fun r => some (.agg r)
      | false => cs[off]?)
    | _ => none)
  | _ => none
theorem loadK_E (h : Heap) (t : TypeId) (a : AV) (K : AV → Option β) : loadK P h t a K = th (loadE P h t a) K := by
  cases a <;> try rfl
  rename_i k off
  simp only [loadK, loadE, getK_E]
  cases h.get k with
  | none => rfl
  | some b =>
    cases b with
    | map _ _ => rfl
    | cells cs _ _ =>
      simp only [th_some, unK_E]
      cases P.underlying t with
      | none => rfl
      | some d =>
        simp only [th_some]
        cases isAggD d <;> simp only [szK_E, lcut_th, th_th, th_some, lget_E]
def storeE (P : Program) (h : Heap) (t : TypeId) (a v : AV) : Option Heap := match a with
  | .ptr k off => th (szE P t) fun n => (match Nat.beq n v.cells.length with | true => storeCE h k off v.cells | false => none)
  | _ => none
theorem storeK_E (h : Heap) (t : TypeId) (a v : AV) (K : Heap → Option β) : storeK P h t a v K = th (storeE P h t a v) K := by
  cases a <;> try rfl
  simp only [storeK, storeE, szK_E, th_th, cellsK_eq, llen_eq, Nat.zero_add]
  congr 1
  funext n
  cases Nat.beq n v.cells.length with
  | false => rfl
  | true => exact storeCK_E ..
end Go.Aw
