import Derived.Test.YthcbefolifpbpaaAiLists
import Derived.Laws.Cells
import Derived.Laws.IdiomCopy
import Derived.Laws.NewBlocks
import Derived.Orders
import Derived.Scope
import Derived.Below
namespace Go.Ai

/-- where an abstract block lies: a block, from which cell on, how many elements it has room for -/
structure Loc where
  blk : Nat
  off : Nat
  cap : Nat
abbrev Ren := Nat → Option Loc
def Ext (ρ ρ' : Ren) : Prop := ∀ k l, ρ k = some l → ρ' k = some l
theorem Ext.refl (ρ : Ren) : Ext ρ ρ := fun _ _ h => h
theorem Ext.trans {a b c : Ren} (h : Ext a b) (g : Ext b c) : Ext a c := fun k l e => g k l (h k l e)

mutual
def AV.den (ρ : Ren) : AV → Option Value
  | .bad => none
  | .bool b => some (.bool b)
  | .int k n => some (.int k n)
  | .str s => some (.string ⟨s.toArray⟩)
  | .ptr k o => (ρ k).map fun l => .pointer (some ⟨l.blk, l.off + o, none⟩)
  | .nilptr => some (.pointer none)
  | .slice k o n c => (ρ k).map fun l => .slice (some ⟨l.blk, l.off + o, none⟩) n c
  | .eslice k o i n => (ρ k).bind fun l => if i + n ≤ l.cap then some (.slice (some ⟨l.blk, l.off + o, none⟩) n (l.cap - i)) else none
  | .nilslice => some (.slice none 0 0)
  | .map k => (ρ k).map fun l => .map (some l.blk)
  | .nilmap => some (.map none)
  | .func f a c => (denL ρ a).bind fun a => (denL ρ c).map fun c => .func f a.toArray c.toArray
  | .nilfunc => some .nilFunc
  | .iface t v => (v.den ρ).map fun v => .iface t v
  | .niliface => some .nilIface
  | .agg cs => (denL ρ cs).map fun l => .agg l.toArray
  | .tup vs => (denL ρ vs).map fun l => .tuple l.toArray
def denL (ρ : Ren) : List AV → Option (List Value)
  | [] => some []
  | v :: vs => (v.den ρ).bind fun x => (denL ρ vs).map fun xs => x :: xs
end

mutual
theorem den_mono {ρ ρ' : Ren} (e : Ext ρ ρ') : ∀ (v : AV) (x : Value), v.den ρ = some x → v.den ρ' = some x
  | .bad, x, h => by simp [AV.den] at h
  | .bool b, x, h => by simpa [AV.den] using h
  | .int k n, x, h => by simpa [AV.den] using h
  | .str s, x, h => by simpa [AV.den] using h
  | .ptr k o, x, h => by
    simp only [AV.den, Option.map_eq_some_iff] at h ⊢
    obtain ⟨l, h1, h2⟩ := h
    exact ⟨l, e _ _ h1, h2⟩
  | .nilptr, x, h => by simpa [AV.den] using h
  | .slice k o n c, x, h => by
    simp only [AV.den, Option.map_eq_some_iff] at h ⊢
    obtain ⟨l, h1, h2⟩ := h
    exact ⟨l, e _ _ h1, h2⟩
  | .eslice k o i n, x, h => by
    simp only [AV.den, Option.bind_eq_some_iff] at h ⊢
    obtain ⟨l, h1, h2⟩ := h
    exact ⟨l, e _ _ h1, h2⟩
  | .nilslice, x, h => by simpa [AV.den] using h
  | .map k, x, h => by
    simp only [AV.den, Option.map_eq_some_iff] at h ⊢
    obtain ⟨l, h1, h2⟩ := h
    exact ⟨l, e _ _ h1, h2⟩
  | .nilmap, x, h => by simpa [AV.den] using h
  | .func f a c, x, h => by
    simp only [AV.den, Option.bind_eq_some_iff, Option.map_eq_some_iff] at h ⊢
    obtain ⟨l, h1, m, h2, h3⟩ := h
    exact ⟨l, denL_mono e a l h1, m, denL_mono e c m h2, h3⟩
  | .nilfunc, x, h => by simpa [AV.den] using h
  | .iface t v, x, h => by
    simp only [AV.den, Option.map_eq_some_iff] at h ⊢
    obtain ⟨l, h1, h2⟩ := h
    exact ⟨l, den_mono e v l h1, h2⟩
  | .niliface, x, h => by simpa [AV.den] using h
  | .agg cs, x, h => by
    simp only [AV.den, Option.map_eq_some_iff] at h ⊢
    obtain ⟨l, h1, h2⟩ := h
    exact ⟨l, denL_mono e cs l h1, h2⟩
  | .tup cs, x, h => by
    simp only [AV.den, Option.map_eq_some_iff] at h ⊢
    obtain ⟨l, h1, h2⟩ := h
    exact ⟨l, denL_mono e cs l h1, h2⟩
theorem denL_mono {ρ ρ' : Ren} (e : Ext ρ ρ') : ∀ (v : List AV) (x : List Value), denL ρ v = some x → denL ρ' v = some x
  | [], x, h => by simpa [denL] using h
  | v :: vs, x, h => by
    simp only [denL, Option.bind_eq_some_iff, Option.map_eq_some_iff] at h ⊢
    obtain ⟨l, h1, m, h2, h3⟩ := h
    exact ⟨l, den_mono e v l h1, m, denL_mono e vs m h2, h3⟩
end

theorem denL_nil (ρ : Ren) : denL ρ [] = some [] := by simp [denL]
theorem denL_cons {ρ : Ren} {v : AV} {vs : List AV} {l : List Value} : denL ρ (v :: vs) = some l ↔ ∃ x xs, v.den ρ = some x ∧ denL ρ vs = some xs ∧ l = x :: xs := by
  simp only [denL, Option.bind_eq_some_iff, Option.map_eq_some_iff]
  constructor
  · rintro ⟨x, h1, xs, h2, rfl⟩; exact ⟨x, xs, h1, h2, rfl⟩
  · rintro ⟨x, xs, h1, h2, rfl⟩; exact ⟨x, h1, xs, h2, rfl⟩
theorem denL_len {ρ : Ren} {vs : List AV} {l : List Value} (h : denL ρ vs = some l) : l.length = vs.length := by
  induction vs generalizing l with
  | nil => rw [denL_nil] at h; cases h; rfl
  | cons v vs ih => obtain ⟨x, xs, h1, h2, rfl⟩ := denL_cons.1 h; simp [ih h2]
theorem denL_app {ρ : Ren} {a b : List AV} {x y : List Value} (h : denL ρ a = some x) (g : denL ρ b = some y) : denL ρ (a ++ b) = some (x ++ y) := by
  induction a generalizing x with
  | nil => rw [denL_nil] at h; cases h; exact g
  | cons v vs ih => obtain ⟨z, zs, h1, h2, rfl⟩ := denL_cons.1 h; exact denL_cons.2 ⟨z, zs ++ y, h1, ih h2, rfl⟩
theorem denL_take {ρ : Ren} {a : List AV} {x : List Value} (n : Nat) (h : denL ρ a = some x) : denL ρ (a.take n) = some (x.take n) := by
  induction a generalizing x n with
  | nil => rw [denL_nil] at h; cases h; simp [denL_nil]
  | cons v vs ih =>
    obtain ⟨z, zs, h1, h2, rfl⟩ := denL_cons.1 h
    cases n with
    | zero => simp [denL_nil]
    | succ n => exact denL_cons.2 ⟨z, zs.take n, h1, ih n h2, rfl⟩
theorem denL_drop {ρ : Ren} {a : List AV} {x : List Value} (n : Nat) (h : denL ρ a = some x) : denL ρ (a.drop n) = some (x.drop n) := by
  induction a generalizing x n with
  | nil => rw [denL_nil] at h; cases h; simp [denL_nil]
  | cons v vs ih =>
    obtain ⟨z, zs, h1, h2, rfl⟩ := denL_cons.1 h
    cases n with
    | zero => exact denL_cons.2 ⟨z, zs, h1, h2, rfl⟩
    | succ n => exact ih n h2
theorem denL_get {ρ : Ren} {a : List AV} {x : List Value} {n : Nat} {v : AV} (h : denL ρ a = some x) (g : a[n]? = some v) : ∃ y, x[n]? = some y ∧ v.den ρ = some y := by
  induction a generalizing x n with
  | nil => simp at g
  | cons w vs ih =>
    obtain ⟨z, zs, h1, h2, rfl⟩ := denL_cons.1 h
    cases n with
    | zero => simp at g; subst g; exact ⟨z, rfl, h1⟩
    | succ n => simpa using ih h2 (by simpa using g)

/-! memory -/
def Blk.rw : Blk → Prop
  | .cells _ _ ro => ro = false
  | .map _ ro => ro = false
/-- a map's entries, in their order -/
def MRel (ρ : Ren) : List (AV × AV) → List MapEntry → Prop
  | [], [] => True
  | (k, v) :: es, e :: L => k.den ρ = some e.key ∧ v.den ρ = some e.val ∧ MRel ρ es L
  | _, _ => False
theorem MRel.mono {ρ ρ' : Ren} (x : Ext ρ ρ') : ∀ {es : List (AV × AV)} {L : List MapEntry}, MRel ρ es L → MRel ρ' es L
  | [], [], _ => trivial
  | (_, _) :: _, _ :: _, ⟨h1, h2, h3⟩ => ⟨den_mono x _ _ h1, den_mono x _ _ h2, MRel.mono x h3⟩
  | [], _ :: _, h => h.elim
  | _ :: _, [], h => h.elim
theorem MRel.len {ρ : Ren} : ∀ {es : List (AV × AV)} {L : List MapEntry}, MRel ρ es L → es.length = L.length
  | [], [], _ => rfl
  | (_, _) :: _, _ :: _, ⟨_, _, h3⟩ => by simp [MRel.len h3]
  | [], _ :: _, h => h.elim
  | _ :: _, [], h => h.elim
/-- an abstract block is what lies there -/
def BlkRel (ρ : Ren) (w : World) (l : Loc) : Blk → Prop
  | .cells cs ext ro => ∃ C T fz xs, w.heap[l.blk]? = some (.cells C T fz) ∧ denL ρ cs = some xs ∧ (∀ (i : Nat) (x : Value), xs[i]? = some x → C[l.off + i]? = some x) ∧
      (ro = false → fz.1 = fz.2 ∨ C.size ≤ fz.1) ∧ (ext ≠ 0 → C.size = l.off + l.cap * ext)
  | .map es _ => ∃ E c, w.heap[l.blk]? = some (.map E c) ∧ MRel ρ es E.toList
structure HRel (ρ : Ren) (h : Heap) (w : World) : Prop where
  blk : ∀ k b, h.get k = some b → ∃ l, ρ k = some l ∧ BlkRel ρ w l b
  new : ∀ k, h.next ≤ k → ρ k = none
  inj : ∀ k j b c l m, h.get k = some b → h.get j = some c → ρ k = some l → ρ j = some m → b.rw → k ≠ j → l.blk ≠ m.blk
/-- which blocks may be written -/
def Own (ρ : Ren) (h : Heap) (b : Nat) : Prop := ∃ k blk l, h.get k = some blk ∧ blk.rw ∧ ρ k = some l ∧ l.blk = b
structure Stp (ρ : Ren) (h : Heap) (w : World) (ρ' : Ren) (h' : Heap) (w' : World) : Prop where
  ext : Ext ρ ρ'
  rel : HRel ρ' h' w'
  os : w'.os = w.os
  tape : w'.tape = w.tape
  output : w'.output = w.output
  size : w.heap.size ≤ w'.heap.size
  frm : ∀ b, b < w.heap.size → ¬ Own ρ h b → w'.heap[b]? = w.heap[b]?
  own : ∀ b, Own ρ' h' b → b < w.heap.size → Own ρ h b
  nxt : h.next ≤ h'.next
theorem Stp.refl {ρ : Ren} {h : Heap} {w : World} (r : HRel ρ h w) : Stp ρ h w ρ h w :=
  ⟨Ext.refl _, r, rfl, rfl, rfl, Nat.le_refl _, fun _ _ _ => rfl, fun _ h _ => h, Nat.le_refl _⟩
theorem Stp.trans {ρ ρ₁ ρ₂ : Ren} {h h₁ h₂ : Heap} {w w₁ w₂ : World} (a : Stp ρ h w ρ₁ h₁ w₁) (b : Stp ρ₁ h₁ w₁ ρ₂ h₂ w₂) : Stp ρ h w ρ₂ h₂ w₂ where
  ext := a.ext.trans b.ext
  rel := b.rel
  os := b.os.trans a.os
  tape := b.tape.trans a.tape
  output := b.output.trans a.output
  size := Nat.le_trans a.size b.size
  frm k hk no := (b.frm k (Nat.lt_of_lt_of_le hk a.size) (fun o => no (a.own k o hk))).trans (a.frm k hk no)
  own k o hk := a.own k (b.own k o (Nat.lt_of_lt_of_le hk a.size)) hk
  nxt := Nat.le_trans a.nxt b.nxt

theorem BlkRel.mono {ρ ρ' : Ren} {w w' : World} {l : Loc} {b : Blk} (e : Ext ρ ρ') (hw : w'.heap[l.blk]? = w.heap[l.blk]?) (h : BlkRel ρ w l b) : BlkRel ρ' w' l b := by
  cases b with
  | cells cs ext ro =>
    obtain ⟨C, T, fz, xs, h1, h2, h3, h4, h5⟩ := h
    exact ⟨C, T, fz, xs, by rw [hw, h1], denL_mono e _ _ h2, h3, h4, h5⟩
  | map es ro =>
    obtain ⟨E, c, h1, h2⟩ := h
    exact ⟨E, c, by rw [hw, h1], h2.mono e⟩
theorem BlkRel.lt {ρ : Ren} {w : World} {l : Loc} {b : Blk} (h : BlkRel ρ w l b) : l.blk < w.heap.size := by
  cases b with
  | cells cs ext ro =>
    obtain ⟨C, T, fz, xs, h1, _⟩ := h
    exact (Array.getElem?_eq_some_iff.1 h1).1
  | map es ro =>
    obtain ⟨E, c, h1, _⟩ := h
    exact (Array.getElem?_eq_some_iff.1 h1).1

/-- a drawn answer turns nothing -/
theorem HRel.draw {ρ : Ren} {h : Heap} {w : World} (n : Nat) (r : HRel ρ h w) : HRel ρ h { w with drawn := n } :=
  ⟨fun k b g => let ⟨l, h1, h2⟩ := r.blk k b g; ⟨l, h1, h2.mono (Ext.refl _) rfl⟩, r.new, r.inj⟩
theorem Stp.draw {ρ : Ren} {h : Heap} {w : World} (n : Nat) (r : HRel ρ h w) : Stp ρ h w ρ h { w with drawn := n } :=
  ⟨Ext.refl _, r.draw n, rfl, rfl, rfl, Nat.le_refl _, fun _ _ _ => rfl, fun _ h _ => h, Nat.le_refl _⟩

/-- a renaming with one more -/
def Ren.add (ρ : Ren) (k : Nat) (l : Loc) : Ren := fun j => if j = k then some l else ρ j
theorem Ren.add_same (ρ : Ren) (k : Nat) (l : Loc) : ρ.add k l k = some l := by simp [Ren.add]
theorem Ren.add_ne (ρ : Ren) {k j : Nat} (l : Loc) (h : j ≠ k) : ρ.add k l j = ρ j := by simp [Ren.add, h]
theorem Ren.ext_add {ρ : Ren} {k : Nat} (l : Loc) (h : ρ k = none) : Ext ρ (ρ.add k l) := by
  intro j m e
  by_cases hj : j = k
  · subst hj; rw [h] at e; cases e
  · rw [Ren.add_ne _ _ hj, e]

/-- a new block -/
theorem Stp.new {ρ : Ren} {h : Heap} {w w' : World} {b : Blk} {o : Obj} (r : HRel ρ h w) (hw : w'.heap = w.heap.push o) (ht : w'.tape = w.tape) (hos : w'.os = w.os) (ho : w'.output = w.output) (cap : Nat)
    (hb : BlkRel (ρ.add h.next ⟨w.heap.size, 0, cap⟩) w' ⟨w.heap.size, 0, cap⟩ b) : Stp ρ h w (ρ.add h.next ⟨w.heap.size, 0, cap⟩) (h.new b) w' := by
  have he : Ext ρ (ρ.add h.next ⟨w.heap.size, 0, cap⟩) := Ren.ext_add _ (r.new _ (Nat.le_refl _))
  have hold : ∀ k, k < w.heap.size → w'.heap[k]? = w.heap[k]? := fun k hk => by
    rw [hw, Array.getElem?_push, if_neg (by omega)]
  refine ⟨he, ⟨?_, ?_, ?_⟩, hos, ht, ho, by rw [hw]; simp, fun b hb _ => hold b hb, ?_, by simp⟩
  · intro k c g
    by_cases hk : k = h.next
    · subst hk
      rw [new_same] at g
      cases g
      exact ⟨_, Ren.add_same _ _ _, hb⟩
    · rw [new_ne _ _ hk] at g
      obtain ⟨l, h1, h2⟩ := r.blk k c g
      exact ⟨l, he _ _ h1, h2.mono he (hold _ h2.lt)⟩
  · intro k hk
    rw [new_next] at hk
    rw [Ren.add_ne _ _ (by omega)]
    exact r.new _ (by omega)
  · intro k j c d l m g1 g2 e1 e2 hrw hne
    by_cases hk : k = h.next
    · subst hk
      rw [Ren.add_same] at e1
      cases e1
      have hj : j ≠ h.next := fun e => hne e.symm
      rw [new_ne _ _ hj] at g2
      rw [Ren.add_ne _ _ hj] at e2
      obtain ⟨l', h1, h2⟩ := r.blk j d g2
      rw [h1] at e2; cases e2
      exact fun e => by have := h2.lt; simp at e; omega
    · rw [new_ne _ _ hk] at g1
      rw [Ren.add_ne _ _ hk] at e1
      obtain ⟨l', h1, h2⟩ := r.blk k c g1
      rw [h1] at e1; cases e1
      by_cases hj : j = h.next
      · subst hj
        rw [Ren.add_same] at e2
        cases e2
        exact fun e => by have := h2.lt; simp at e; omega
      · rw [new_ne _ _ hj] at g2
        rw [Ren.add_ne _ _ hj] at e2
        exact r.inj k j c d _ m g1 g2 h1 e2 hrw hne
  · rintro b ⟨k, c, l, g, hrw, e, rfl⟩ hlt
    by_cases hk : k = h.next
    · subst hk
      rw [Ren.add_same] at e
      cases e
      simp at hlt
    · rw [new_ne _ _ hk] at g
      rw [Ren.add_ne _ _ hk] at e
      exact ⟨k, c, l, g, hrw, e, rfl⟩

/-- a block is written -/
theorem Stp.put {ρ : Ren} {h : Heap} {w w' : World} {k : Nat} {b b' : Blk} {l : Loc} (r : HRel ρ h w) (hk : h.get k = some b) (hl : ρ k = some l) (hrw : b.rw)
    (hs : w'.heap.size = w.heap.size) (hold : ∀ j, j ≠ l.blk → w'.heap[j]? = w.heap[j]?) (ht : w'.tape = w.tape) (hos : w'.os = w.os) (ho : w'.output = w.output)
    (hb : BlkRel ρ w' l b') : Stp ρ h w ρ (h.put k (some b')) w' := by
  refine ⟨Ext.refl _, ⟨?_, r.new, ?_⟩, hos, ht, ho, by omega, fun b _ no => hold b (fun e => no ⟨k, _, l, hk, hrw, hl, e.symm⟩), ?_, Nat.le_refl _⟩
  · intro j c g
    by_cases hj : j = k
    · subst hj
      rw [put_same] at g; cases g
      exact ⟨l, hl, hb⟩
    · rw [put_ne _ _ hj] at g
      obtain ⟨m, h1, h2⟩ := r.blk j c g
      exact ⟨m, h1, h2.mono (Ext.refl _) (hold _ (fun e => r.inj k j b c l m hk g hl h1 hrw (fun e => hj e.symm) e.symm))⟩
  · intro i j c d m n g1 g2 e1 e2 hrw1 hne
    by_cases hi : i = k
    · subst hi
      rw [put_ne _ _ (fun e => hne e.symm)] at g2
      exact r.inj i j b d m n hk g2 e1 e2 hrw hne
    · rw [put_ne _ _ hi] at g1
      by_cases hj : j = k
      · subst hj
        exact fun e => r.inj j i b c n m hk g1 e2 e1 hrw (fun e => hne e.symm) e.symm
      · rw [put_ne _ _ hj] at g2
        exact r.inj i j c d m n g1 g2 e1 e2 hrw1 hne
  · rintro b₀ ⟨j, c, m, g, hrw1, e, rfl⟩ hlt
    by_cases hj : j = k
    · subst hj
      rw [hl] at e; cases e
      exact ⟨j, b, l, hk, hrw, hl, rfl⟩
    · rw [put_ne _ _ hj] at g
      exact ⟨j, c, m, g, hrw1, e, rfl⟩
end Go.Ai
