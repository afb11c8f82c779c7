import Derived.Test.YthcbefolifpbpaaAiCore
namespace Go.Ai

/-! forced values -/
@[simp] theorem fN_eq {β : Type} (n : Nat) (K : Nat → β) : fN n K = K n := by cases n <;> rfl
@[simp] theorem fI_eq {β : Type} (n : Int) (K : Int → β) : fI n K = K n := by cases n <;> simp [fI]
@[simp] theorem fB_eq {β : Type} (n : Bool) (K : Bool → β) : fB n K = K n := by cases n <;> rfl
@[simp] theorem fL_eq {α β : Type} (l : List α) (K : List α → β) : fL l K = K l := by
  induction l generalizing K with
  | nil => rfl
  | cons x xs ih => simp [fL, ih]
theorem fK_some {β : Type} {v : AV} {K : AV → Option β} {r : β} (h : v.fK K = some r) : v ≠ .bad ∧ K v = some r := by
  cases v <;> simp_all [AV.fK]
theorem okK_some {β : Type} {v : AV} {K : AV → Option β} {r : β} (h : v.okK K = some r) : v ≠ .bad ∧ K v = some r := by
  cases v <;> simp_all [AV.okK]
theorem fK_eq {β : Type} {v : AV} {K : AV → Option β} (h : v ≠ .bad) : v.fK K = K v := by
  cases v <;> simp_all [AV.fK]
@[simp] theorem cellsK_eq {β : Type} (v : AV) (K : List AV → β) : v.cellsK K = K v.cells := by cases v <;> rfl

/-! tries -/
def Tr.get {α : Type} (t : Tr α) (p : Pth) : Option α := t.getK p none some
def Tr.set {α : Type} (x : Option α) (p : Pth) (t : Tr α) : Tr α := Tr.setK x p t id
theorem getK_eq {α β : Type} (t : Tr α) (p : Pth) (no : β) (yes : α → β) : t.getK p no yes = match t.get p with | some a => yes a | none => no := by
  induction t generalizing p with
  | leaf => rfl
  | node v l r ihl ihr =>
    cases p with
    | e => cases v <;> rfl
    | z p => simpa [Tr.getK, Tr.get] using ihl p
    | o p => simpa [Tr.getK, Tr.get] using ihr p
theorem setK_eq {α β : Type} (x : Option α) (p : Pth) (t : Tr α) (K : Tr α → β) : Tr.setK x p t K = K (Tr.set x p t) := by
  induction p generalizing t β with
  | e => cases t <;> rfl
  | z p ih =>
    cases t with
    | leaf => simp only [Tr.setK, Tr.set]; rw [ih, ih]; rfl
    | node v l r => simp only [Tr.setK, Tr.set]; rw [ih, ih]; rfl
  | o p ih =>
    cases t with
    | leaf => simp only [Tr.setK, Tr.set]; rw [ih, ih]; rfl
    | node v l r => simp only [Tr.setK, Tr.set]; rw [ih, ih]; rfl
theorem set_e {α : Type} (x : Option α) (v : Option α) (l r : Tr α) : Tr.set x .e (.node v l r) = .node x l r := rfl
theorem set_z {α : Type} (x : Option α) (p : Pth) (v : Option α) (l r : Tr α) : Tr.set x (.z p) (.node v l r) = .node v (Tr.set x p l) r := by
  simp only [Tr.set, Tr.setK]; rw [setK_eq]; rfl
theorem set_o {α : Type} (x : Option α) (p : Pth) (v : Option α) (l r : Tr α) : Tr.set x (.o p) (.node v l r) = .node v l (Tr.set x p r) := by
  simp only [Tr.set, Tr.setK]; rw [setK_eq]; rfl
theorem set_zl {α : Type} (x : Option α) (p : Pth) : Tr.set x (.z p) (.leaf : Tr α) = .node none (Tr.set x p .leaf) .leaf := by
  simp only [Tr.set, Tr.setK]; rw [setK_eq]; rfl
theorem set_ol {α : Type} (x : Option α) (p : Pth) : Tr.set x (.o p) (.leaf : Tr α) = .node none .leaf (Tr.set x p .leaf) := by
  simp only [Tr.set, Tr.setK]; rw [setK_eq]; rfl
@[simp] theorem get_leaf {α : Type} (p : Pth) : (Tr.leaf : Tr α).get p = none := rfl
theorem get_set_same {α : Type} (x : Option α) (p : Pth) (t : Tr α) : (Tr.set x p t).get p = x := by
  induction p generalizing t with
  | e => cases t <;> cases x <;> rfl
  | z p ih => cases t with
    | leaf => rw [set_zl]; exact ih _
    | node v l r => rw [set_z]; exact ih _
  | o p ih => cases t with
    | leaf => rw [set_ol]; exact ih _
    | node v l r => rw [set_o]; exact ih _
theorem get_set_ne {α : Type} (x : Option α) {p q : Pth} (h : q ≠ p) (t : Tr α) : (Tr.set x p t).get q = t.get q := by
  induction p generalizing t q with
  | e => cases q with
    | e => exact absurd rfl h
    | z q => cases t <;> rfl
    | o q => cases t <;> rfl
  | z p ih => cases t with
    | leaf => rw [set_zl]; cases q with
      | e => rfl
      | z q => exact (ih (by intro e; exact h (by rw [e])) .leaf)
      | o q => rfl
    | node v l r => rw [set_z]; cases q with
      | e => rfl
      | z q => exact (ih (by intro e; exact h (by rw [e])) l)
      | o q => rfl
  | o p ih => cases t with
    | leaf => rw [set_ol]; cases q with
      | e => rfl
      | z q => rfl
      | o q => exact (ih (by intro e; exact h (by rw [e])) .leaf)
    | node v l r => rw [set_o]; cases q with
      | e => rfl
      | z q => rfl
      | o q => exact (ih (by intro e; exact h (by rw [e])) r)
theorem pthF_inj : ∀ (f g m n : Nat), m ≤ f → n ≤ g → pthF f m = pthF g n → m = n := by
  intro f
  induction f with
  | zero =>
    intro g m n hm hn h
    cases g with
    | zero => omega
    | succ g =>
      cases n with
      | zero => omega
      | succ n => simp only [pthF] at h; split at h <;> cases h
  | succ f ih =>
    intro g m n hm hn h
    cases g with
    | zero =>
      cases m with
      | zero => omega
      | succ m => simp only [pthF] at h; split at h <;> cases h
    | succ g =>
      cases m with
      | zero =>
        cases n with
        | zero => rfl
        | succ n => simp only [pthF] at h; split at h <;> cases h
      | succ m =>
        cases n with
        | zero => simp only [pthF] at h; split at h <;> cases h
        | succ n =>
          have hm2 : m / 2 ≤ f := by omega
          have hn2 : n / 2 ≤ g := by omega
          simp only [pthF] at h
          rcases Nat.mod_two_eq_zero_or_one m with a1 | a1 <;> rcases Nat.mod_two_eq_zero_or_one n with a2 | a2 <;> simp only [a1, a2] at h
          · injection h with h
            have := ih g _ _ hm2 hn2 h
            omega
          · cases h
          · cases h
          · injection h with h
            have := ih g _ _ hm2 hn2 h
            omega
theorem pth_inj {m n : Nat} (h : pth m = pth n) : m = n := pthF_inj m n m n (Nat.le_refl _) (Nat.le_refl _) h

/-! lists -/
variable {β : Type}
theorem lget_some {l : List AV} {n : Nat} {yes : AV → Option β} {r : β} (h : lget l n none yes = some r) : ∃ v, l[n]? = some v ∧ yes v = some r := by
  induction l generalizing n with
  | nil => simp [lget] at h
  | cons x xs ih => cases n with
    | zero => exact ⟨x, rfl, h⟩
    | succ n => simpa using ih h
theorem ltake_some {n : Nat} {l : List AV} {yes : List AV → Option β} {r : β} (h : ltake n l none yes = some r) : n ≤ l.length ∧ yes (l.take n) = some r := by
  induction n generalizing l yes with
  | zero => exact ⟨Nat.zero_le _, by simpa [ltake] using h⟩
  | succ n ih => cases l with
    | nil => simp [ltake] at h
    | cons x xs =>
      simp only [ltake] at h
      obtain ⟨h1, h2⟩ := ih h
      exact ⟨by simpa using h1, by simpa using h2⟩
theorem ldrop_some {n : Nat} {l : List AV} {yes : List AV → Option β} {r : β} (h : ldrop n l none yes = some r) : n ≤ l.length ∧ yes (l.drop n) = some r := by
  induction n generalizing l with
  | zero => exact ⟨Nat.zero_le _, by simpa [ldrop] using h⟩
  | succ n ih => cases l with
    | nil => simp [ldrop] at h
    | cons x xs =>
      simp only [ldrop] at h
      obtain ⟨h1, h2⟩ := ih h
      exact ⟨by simpa using h1, by simpa using h2⟩
theorem lcut_some {off n : Nat} {l : List AV} {yes : List AV → Option β} {r : β} (h : lcut off n l none yes = some r) :
    off + n ≤ l.length ∧ yes ((l.drop off).take n) = some r := by
  obtain ⟨h1, h2⟩ := ldrop_some h
  obtain ⟨h3, h4⟩ := ltake_some h2
  rw [List.length_drop] at h3
  exact ⟨by omega, h4⟩
theorem lover_some {vs l : List AV} {yes : List AV → Option β} {r : β} (h : lover vs l none yes = some r) :
    vs.length ≤ l.length ∧ (∀ v ∈ vs, isSc v = true) ∧ yes (vs ++ l.drop vs.length) = some r := by
  induction vs generalizing l yes with
  | nil => exact ⟨Nat.zero_le _, by simp, by simpa [lover] using h⟩
  | cons v vs ih => cases l with
    | nil => simp [lover] at h
    | cons x xs =>
      simp only [lover] at h
      split at h
      · obtain ⟨h1, h2, h3⟩ := ih h
        refine ⟨by simpa using h1, ?_, by simpa using h3⟩
        intro w hw
        rcases List.mem_cons.1 hw with rfl | hw
        · assumption
        · exact h2 w hw
      · cases h
theorem lput_some {off : Nat} {vs l : List AV} {yes : List AV → Option β} {r : β} (h : lput off vs l none yes = some r) :
    off + vs.length ≤ l.length ∧ (∀ v ∈ vs, isSc v = true) ∧ yes (l.take off ++ vs ++ l.drop (off + vs.length)) = some r := by
  induction off generalizing l yes with
  | zero =>
    have := lover_some (show lover vs l none yes = some r from h)
    simpa using this
  | succ off ih => cases l with
    | nil => simp [lput] at h
    | cons x xs =>
      simp only [lput] at h
      obtain ⟨h1, h2, h3⟩ := ih h
      refine ⟨by simp; omega, h2, ?_⟩
      rw [show off + 1 + vs.length = off + vs.length + 1 by omega]
      simpa using h3
@[simp] theorem lapp_eq (a b : List AV) (K : List AV → β) : lapp a b K = K (a ++ b) := by
  induction a generalizing K with
  | nil => rfl
  | cons x xs ih => simp [lapp, ih]
@[simp] theorem llen_eq {α : Type} (l : List α) (n : Nat) (K : Nat → β) : llen l n K = K (n + l.length) := by
  induction l generalizing n with
  | nil => rfl
  | cons x xs ih => simp only [llen, fN_eq, ih, List.length_cons]; congr 1; omega

/-! the heap -/
def Heap.get (h : Heap) (k : Nat) : Option Blk := h.t.get (pth k)
def Heap.put (h : Heap) (k : Nat) (b : Option Blk) : Heap := ⟨h.next, Tr.set b (pth k) h.t⟩
def Heap.new (h : Heap) (b : Blk) : Heap := ⟨h.next + 1, Tr.set (some b) (pth h.next) h.t⟩
theorem hgetK_eq (h : Heap) (k : Nat) (no : β) (yes : Blk → β) : h.getK k no yes = match h.get k with | some b => yes b | none => no := by
  cases h; simp only [Heap.getK, Heap.get]; rw [getK_eq]; cases Tr.get _ (pth k) <;> rfl
theorem hget_some {h : Heap} {k : Nat} {yes : Blk → Option β} {r : β} (e : h.getK k none yes = some r) : ∃ b, h.get k = some b ∧ yes b = some r := by
  rw [hgetK_eq] at e
  split at e
  · exact ⟨_, by assumption, e⟩
  · cases e
@[simp] theorem hputK_eq (h : Heap) (k : Nat) (b : Blk) (K : Heap → β) : h.putK k b K = K (h.put k (some b)) := by
  cases h; simp [Heap.putK, setK_eq, Heap.put]
@[simp] theorem hdropK_eq (h : Heap) (k : Nat) (K : Heap → β) : h.dropK k K = K (h.put k none) := by
  cases h; simp [Heap.dropK, setK_eq, Heap.put]
@[simp] theorem hnewK_eq (h : Heap) (b : Blk) (K : Nat → Heap → β) : h.newK b K = K h.next (h.new b) := by
  cases h; simp [Heap.newK, setK_eq, Heap.new]
theorem put_same (h : Heap) (k : Nat) (b : Option Blk) : (h.put k b).get k = b := get_set_same _ _ _
theorem put_ne (h : Heap) {k j : Nat} (b : Option Blk) (e : j ≠ k) : (h.put k b).get j = h.get j := get_set_ne _ (fun p => e (pth_inj p)) _
theorem new_same (h : Heap) (b : Blk) : (h.new b).get h.next = some b := get_set_same _ _ _
theorem new_ne (h : Heap) {j : Nat} (b : Blk) (e : j ≠ h.next) : (h.new b).get j = h.get j := get_set_ne _ (fun p => e (pth_inj p)) _
@[simp] theorem put_next (h : Heap) (k : Nat) (b : Option Blk) : (h.put k b).next = h.next := rfl
@[simp] theorem new_next (h : Heap) (b : Blk) : (h.new b).next = h.next + 1 := rfl
end Go.Ai
