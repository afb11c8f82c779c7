import Derived.Test.YthcbefolifpbpaaAiEq
namespace Go.Ai
open Go
variable {P : Program} {β : Type}

theorem wrapA_eq (k : IntKind) (n : Int) : wrapA k n = k.wrap n := by
  unfold wrapA
  split
  · rename_i a
    split
    · rename_i h
      have h : a < top k := by simpa [Nat.blt_eq] using h
      cases k <;> simp only [top] at h <;> simp only [IntKind.wrap, IntKind.bits, IntKind.signed] <;> simp <;> omega
    · rfl
  · rfl
theorem wrap_top (k : IntKind) (a : Nat) (h : a < top k) : k.wrap (a : Int) = a := by
  cases k <;> simp only [top] at h <;> simp only [IntKind.wrap, IntKind.bits, IntKind.signed] <;> simp <;> omega
theorem top_le (k : IntKind) : top k ≤ 2 ^ k.bits := by cases k <;> simp [top, IntKind.bits]
theorem bv_of (k : IntKind) (a : Nat) (h : a < top k) : (BitVec.ofInt k.bits (Int.ofNat a)).toNat = a := by
  have := top_le k
  simp only [Int.ofNat_eq_natCast, BitVec.ofInt_natCast, BitVec.toNat_ofNat]
  exact Nat.mod_eq_of_lt (by omega)
theorem top_pow (k : IntKind) : ∃ m, top k = 2 ^ m := by
  cases k <;> first | exact ⟨7, rfl⟩ | exact ⟨8, rfl⟩ | exact ⟨15, rfl⟩ | exact ⟨16, rfl⟩ | exact ⟨31, rfl⟩ | exact ⟨32, rfl⟩ | exact ⟨63, rfl⟩ | exact ⟨64, rfl⟩
theorem bitsA_eq {op : BinOp} {k : IntKind} {x y n : Int} (h : bitsA op k x y = some n) : Op.intBits op k x y = pure (.int k n) := by
  have slow : ∀ m, (match op with
      | .and => some (k.wrap (BitVec.ofInt k.bits x &&& BitVec.ofInt k.bits y).toNat)
      | .or => some (k.wrap (BitVec.ofInt k.bits x ||| BitVec.ofInt k.bits y).toNat)
      | .xor => some (k.wrap (BitVec.ofInt k.bits x ^^^ BitVec.ofInt k.bits y).toNat)
      | .andNot => some (k.wrap (BitVec.ofInt k.bits x &&& ~~~BitVec.ofInt k.bits y).toNat)
      | _ => none) = some m → Op.intBits op k x y = pure (.int k m) := by
    intro m h
    cases op <;> simp only [Option.some.injEq, reduceCtorEq] at h <;> subst h <;> rfl
  unfold bitsA at h
  simp only at h
  split at h
  · rename_i a b
    split at h
    · rename_i ha hb
      have ha : a < top k := by simpa [Nat.blt_eq] using ha
      have hb : b < top k := by simpa [Nat.blt_eq] using hb
      obtain ⟨m, hm⟩ := top_pow k
      cases op <;> simp only [Option.some.injEq] at h
      case and =>
        subst h
        simp only [Op.intBits, BitVec.toNat_and, bv_of k a ha, bv_of k b hb]
        have : a &&& b < top k := Nat.lt_of_le_of_lt Nat.and_le_left ha
        rw [wrap_top k _ this]; rfl
      case or =>
        subst h
        simp only [Op.intBits, BitVec.toNat_or, bv_of k a ha, bv_of k b hb]
        have : a ||| b < top k := by rw [hm] at ha hb ⊢; exact Nat.or_lt_two_pow ha hb
        rw [wrap_top k _ this]; rfl
      case xor =>
        subst h
        simp only [Op.intBits, BitVec.toNat_xor, bv_of k a ha, bv_of k b hb]
        have : a ^^^ b < top k := by rw [hm] at ha hb ⊢; exact Nat.xor_lt_two_pow ha hb
        rw [wrap_top k _ this]; rfl
      case andNot => exact slow _ (by simpa using h)
      all_goals (simp at h)
    · exact slow _ h
  · exact slow _ h
theorem divA_eq {op : BinOp} {k : IntKind} {x y n : Int} (h : divA op k x y = some n) : Op.intDiv op k x y = pure (.int k n) := by
  unfold divA at h
  split at h
  · cases h
  · rename_i hy
    rw [ieq_eq] at hy
    have hy : y ≠ 0 := by simpa using hy
    cases op <;> simp only [Option.some.injEq, reduceCtorEq] at h
    · subst h; simp [Op.intDiv, hy, wrapA_eq]
    · subst h; simp [Op.intDiv, hy]
theorem minN_eq (m b : Nat) : minN m b = min m b := by
  unfold minN
  split
  · rename_i e; have := Nat.le_of_ble_eq_true e; omega
  · rename_i e
    have : ¬ m ≤ b := fun c => by rw [Nat.ble_eq_true_of_le c] at e; cases e
    omega
theorem shiftA_eq {op : BinOp} {k yk : IntKind} {x y n : Int} (h : shiftA op k x y = some n) : Op.shift op k x yk y = pure (.int k n) := by
  unfold shiftA at h
  split at h
  · cases h
  · rename_i m
    simp only [minN_eq] at h
    have h0 : ¬ ((Int.ofNat m) < 0) := by simp
    have ht : (Int.ofNat m).toNat = m := rfl
    cases op <;> simp only [reduceCtorEq] at h
    · cases h
      simp only [Op.shift, h0, if_false, ht, wrapA_eq]
      congr 3
    · split at h
      · rename_i a
        cases h
        simp only [Op.shift, h0, if_false, ht]
        congr 2
        rw [Int.fdiv_eq_ediv_of_nonneg _ (Int.le_of_lt (Int.pow_pos (by decide)))]
        simp
      · cases h
        simp only [Op.shift, h0, if_false, ht]
theorem cmpA_eq {op : BinOp} {x y : Int} {b : Bool} (h : cmpA op x y = some b) : Op.intCmp op x y = pure (.bool b) := by
  unfold cmpA at h
  cases op <;> simp only [reduceCtorEq, Option.some.injEq] at h <;> subst h <;> simp only [Op.intCmp, ieq_eq, ile_eq]
  · rfl
  · congr 2; rw [Bool.eq_iff_iff]; simp
  · congr 2; rw [Bool.eq_iff_iff]; simp
theorem intOpK_sound {op : BinOp} {k : IntKind} {x y : Int} {K : AV → Option β} {r : β} (h : intOpK op k x y K = some r) (t : TypeId) :
    ∃ v z, K v = some r ∧ (∀ ρ, v.den ρ = some z) ∧ binOp op t (.int k x) (.int k y) = pure z := by
  have hi : ∀ {f : Option Int}, (match f with | some n => K (.int k n) | none => none) = some r → ∃ n, f = some n ∧ K (.int k n) = some r := by
    intro f h
    split at h
    · exact ⟨_, rfl, by simpa using h⟩
    · cases h
  unfold intOpK at h
  cases op <;> simp only [fI_eq, fB_eq, reduceCtorEq] at h
  case add => exact ⟨_, _, h, fun ρ => rfl, by rw [binOp_add, wrapA_eq]; rfl⟩
  case sub => exact ⟨_, _, h, fun ρ => rfl, by rw [binOp_sub, wrapA_eq]; rfl⟩
  case mul => exact ⟨_, _, h, fun ρ => rfl, by rw [binOp_mul, wrapA_eq]; rfl⟩
  case quo => obtain ⟨n, h1, h2⟩ := hi h; exact ⟨_, _, h2, fun ρ => rfl, by rw [binOp_quo]; exact divA_eq h1⟩
  case rem => obtain ⟨n, h1, h2⟩ := hi h; exact ⟨_, _, h2, fun ρ => rfl, by rw [binOp_rem]; exact divA_eq h1⟩
  case and => obtain ⟨n, h1, h2⟩ := hi h; exact ⟨_, _, h2, fun ρ => rfl, by rw [binOp_and]; exact bitsA_eq h1⟩
  case or => obtain ⟨n, h1, h2⟩ := hi h; exact ⟨_, _, h2, fun ρ => rfl, by rw [binOp_or]; exact bitsA_eq h1⟩
  case xor => obtain ⟨n, h1, h2⟩ := hi h; exact ⟨_, _, h2, fun ρ => rfl, by rw [binOp_xor]; exact bitsA_eq h1⟩
  case andNot => obtain ⟨n, h1, h2⟩ := hi h; exact ⟨_, _, h2, fun ρ => rfl, by rw [binOp_andNot]; exact bitsA_eq h1⟩
  all_goals
    split at h
    · rename_i n h1
      refine ⟨_, _, h, fun ρ => rfl, ?_⟩
      simp only [binOp, ne_eq, not_true_eq_false, if_false]
      exact cmpA_eq h1
    · cases h
end Go.Ai
