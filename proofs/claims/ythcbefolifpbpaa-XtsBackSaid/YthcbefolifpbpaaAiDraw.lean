import Derived.Test.YthcbefolifpbpaaAiCode
namespace Go.Ai
open Go
set_option linter.unusedSimpArgs false
variable {P : Program} {β : Type}

theorem scSame_eq {a b : AV} (h : scSame a b = true) : a = b := by
  unfold scSame at h
  split at h <;> try simp only [Bool.and_eq_true, beq_iff_eq, ieq_eq, Bool.false_eq_true] at h
  all_goals first
    | (obtain ⟨h1, h2⟩ := h; subst h1; subst h2; rfl)
    | (subst h; rfl)
    | (obtain ⟨h1, h2⟩ := h; cases Nat.eq_of_beq_eq_true h1; cases Nat.eq_of_beq_eq_true h2; rfl)
    | (obtain ⟨⟨⟨h1, h2⟩, h3⟩, h4⟩ := h; cases Nat.eq_of_beq_eq_true h1; cases Nat.eq_of_beq_eq_true h2; cases Nat.eq_of_beq_eq_true h3; cases Nat.eq_of_beq_eq_true h4; rfl)
    | (cases Nat.eq_of_beq_eq_true h; rfl)
    | rfl
theorem scsSame_eq : ∀ {a b : List AV}, scsSame a b = true → a = b
  | [], [], _ => rfl
  | a :: x, b :: y, h => by
    simp only [scsSame] at h
    split at h
    · rename_i hs; rw [scSame_eq hs, scsSame_eq h]
    · cases h
  | [], _ :: _, h => by simp [scsSame] at h
  | _ :: _, [], h => by simp [scsSame] at h
theorem same_eq {a b : AV} (h : a.same b = true) : a = b := by
  unfold AV.same at h
  split at h
  · rw [scsSame_eq h]
  · exact scSame_eq h

/-! what an operation's result hangs on -/
theorem fArgs_congr {e e' : Operand → AV} : ∀ {xs : List Operand} {K : List AV → Option β}, (∀ x ∈ xs, e x = e' x) → fArgs e xs K = fArgs e' xs K
  | [], _, _ => rfl
  | x :: xs, K, h => by
    simp only [fArgs]
    rw [h x (by simp)]
    congr 1
    funext v
    exact fArgs_congr fun y hy => h y (by simp [hy])
theorem opt_congr {e e' : Operand → AV} {o : Option Operand} (h : ∀ x ∈ o.toArray, e x = e' x) : o.map e = o.map e' := by
  cases o with
  | none => rfl
  | some x => simp [h x (by simp)]
theorem pureK_congr {e e' : Operand → AV} {o : Oper} (h : ∀ x ∈ o.op.operands, e x = e' x) {K : AV → Option β} : pureK P e o K = pureK P e' o K := by
  unfold pureK
  cases hop : o.op <;> simp only [hop, Op.operands] at h
  case build t parts =>
    simp only
    exact fArgs_congr fun x hx => h x (by simpa using hx)
  case makeFunc fn first cap =>
    simp only
    rw [fArgs_congr (K := fun f => fArgs e cap.toList fun c => K (.func fn f c)) (fun x hx => h x (Array.mem_append.2 (.inl (by simpa using hx))))]
    congr 1
    funext f
    exact fArgs_congr fun x hx => h x (Array.mem_append.2 (.inr (by simpa using hx)))
  case slice t x lo hi mx =>
    simp only
    rw [h x (by simp), opt_congr (o := lo) (fun y hy => h y (by simp at hy ⊢; simp [hy])), opt_congr (o := hi) (fun y hy => h y (by simp at hy ⊢; simp [hy])), opt_congr (o := mx) (fun y hy => h y (by simp at hy ⊢; simp [hy]))]
  case call c =>
    simp only
    cases hc : c.callee with
    | builtin b =>
      simp only [Call.operands, hc] at h
      cases b <;> simp only
      case len =>
        split
        · rename_i t x ht hx
          have hm : x ∈ c.args := Array.mem_of_getElem? hx
          rw [h x (by simpa using hm)]
        · rfl
      case min => exact fArgs_congr fun x hx => h x (by simpa using hx)
      case max => exact fArgs_congr fun x hx => h x (by simpa using hx)
    | value f => rfl
    | invoke r m => rfl
  all_goals first
    | rfl
    | (simp at h; simp [h]; done)
    | (simp at h; simp only [h]; done)
theorem readK_congr {e e' : Operand → AV} {o : Oper} (h : ∀ x ∈ o.op.operands, e x = e' x) {hp : Heap} {K : AV → Option β} : readK P e o hp K = readK P e' o hp K := by
  unfold readK
  cases hop : o.op <;> simp only [hop, Op.operands] at h
  case call c =>
    simp only
    cases hc : c.callee with
    | builtin b =>
      simp only [Call.operands, hc] at h
      cases b <;> simp only
      case len =>
        split
        · rename_i t x ht hx
          have hm : x ∈ c.args := Array.mem_of_getElem? hx
          rw [h x (by simpa using hm)]
        · rfl
    | value f => rfl
    | invoke r m => rfl
  all_goals first
    | rfl
    | (simp at h; simp [h]; done)
theorem allocK_congr {e e' : Operand → AV} {o : Oper} (h : ∀ x ∈ o.op.operands, e x = e' x) {K : Blk → (Nat → AV) → Option β} : allocK P e o K = allocK P e' o K := by
  unfold allocK
  cases hop : o.op <;> simp only [hop, Op.operands] at h
  case buildSlice t len parts =>
    simp only
    exact fArgs_congr fun x hx => h x (by simpa using hx)
  case makeMap t r =>
    cases r with
    | none => rfl
    | some r => simp only; rw [h r (by simp)]
  all_goals first
    | rfl
    | (simp at h; simp [h]; done)
theorem effK_congr {call : CallK} {e e' : Operand → AV} {o : Oper} (h : ∀ x ∈ o.op.operands, e x = e' x) {hp : Heap} {K : AV → Heap → Option β} : effK P call e o hp K = effK P call e' o hp K := by
  unfold effK
  cases hop : o.op <;> simp only [hop, Op.operands] at h
  case call c =>
    simp only
    cases hc : c.callee with
    | builtin b =>
      simp only [Call.operands, hc] at h
      have ha : ∀ {i x}, c.args[i]? = some x → e x = e' x := fun hx => h _ (by simpa using Array.mem_of_getElem? hx)
      cases b <;> simp only
      case append =>
        split
        · rename_i t u s x _ _ hs hx
          rw [ha hs, ha hx]
        · rename_i t s x _ _ hs hx
          rw [ha hs, ha hx]
        · rfl
      case copy =>
        split
        · rename_i t s x _ hs hx
          rw [ha hs, ha hx]
        · rfl
      case delete =>
        split
        · rename_i t s x _ hs hx
          rw [ha hs, ha hx]
        · rfl
    | value f =>
      simp only [Call.operands, hc] at h
      simp only
      rw [h f (by simp), fArgs_congr (e := e) (e' := e') (fun x hx => h x (by simp at hx ⊢; exact .inr hx))]
    | invoke r m => rfl
  all_goals first
    | rfl
    | (simp at h; simp [h]; done)
theorem opK_congr {call : CallK} {e e' : Operand → AV} {o : Oper} (h : ∀ x ∈ o.op.operands, e x = e' x) {hp : Heap} {K : AV → Heap → Option β} : opK P call e o hp K = opK P call e' o hp K := by
  unfold opK
  rw [pureK_congr h, readK_congr h, allocK_congr h, effK_congr h]
end Go.Ai
