import Derived.Test.YthcbefolifpbpaaAiPure
namespace Go.Ai
open Go
set_option linter.unusedSimpArgs false
variable {P : Program} {β : Type}

theorem binK_sound {ρ : Ren} {op : BinOp} {t : TypeId} {x y : AV} {K : AV → Option β} {r : β} (h : binK P op t x y K = some r) {a b : Value} (ha : x.den ρ = some a) (hb : y.den ρ = some b) :
    ∃ v z, K v = some r ∧ v.den ρ = some z ∧ ∀ X Y, BinOk P op t X Y a b z := by
  unfold binK at h
  split at h
  · rename_i k p k' q
    cases den_int ha; cases den_int hb
    split at h
    · split at h
      · rename_i n hn
        rw [fI_eq] at h
        exact ⟨_, _, h, rfl, fun X Y w => by rw [eqGuard_at_int]; simp [binOp_shl, shiftA_eq hn]⟩
      · cases h
    · split at h
      · rename_i n hn
        rw [fI_eq] at h
        exact ⟨_, _, h, rfl, fun X Y w => by rw [eqGuard_at_int]; simp [binOp_shr, shiftA_eq hn]⟩
      · cases h
    · split at h
      · rename_i hk
        subst hk
        obtain ⟨v, z, h1, h2, h3⟩ := intOpK_sound h t
        exact ⟨v, z, h1, h2 ρ, fun X Y w => by rw [eqGuard_at_int]; simp [h3]⟩
      · cases h
  · rename_i s u
    cases den_str ha; cases den_str hb
    obtain ⟨v, z, h1, h2, h3⟩ := strOpK_sound (ρ := ρ) (P := P) h
    refine ⟨v, z, h1, h2, fun X Y w => ?_⟩
    rw [eqGuard_at_string]
    have : binOp op t (.string ⟨s.toArray⟩) (.string ⟨u.toArray⟩) = Op.stringOp op ⟨s.toArray⟩ ⟨u.toArray⟩ := by cases op <;> rfl
    simp [this, h3]
  · rename_i h1 h2
    have main : ∀ c, (∀ w, (Op.equal t a b).run P w = .ok c w) → (∀ w, (binOp .eql t a b).run P w = .ok (.bool c) w) ∧ (∀ w, (binOp .neq t a b).run P w = .ok (.bool (!c)) w) := by
      intro c hc
      have e1 : (∃ p q k k', a = .int k p ∧ b = .int k' q) ∨ (∃ s u, a = .string s ∧ b = .string u) ∨ (binOp .eql t a b = (do pure (.bool (← Op.equal t a b))) ∧ binOp .neq t a b = (do pure (.bool (!(← Op.equal t a b))))) := by
        cases a <;> cases b <;> first
          | exact .inl ⟨_, _, _, _, rfl, rfl⟩
          | exact .inr (.inl ⟨_, _, rfl, rfl⟩)
          | exact .inr (.inr ⟨rfl, rfl⟩)
          | skip
        all_goals
          exfalso
          cases x <;> simp only [AV.den, Option.map_eq_some_iff, Option.bind_eq_some_iff, Option.some.injEq, reduceCtorEq] at ha
          all_goals (first
            | (obtain ⟨_, _, ha⟩ := ha; cases ha; done)
            | (obtain ⟨_, _, _, _, ha⟩ := ha; cases ha; done)
            | (obtain ⟨_, _, ha⟩ := ha; split at ha <;> cases ha; done))
      rcases e1 with ⟨p, q, k, k', rfl, rfl⟩ | ⟨s, u, rfl, rfl⟩ | ⟨e1, e2⟩
      · exfalso
        cases x <;> simp only [AV.den, Option.map_eq_some_iff, Option.bind_eq_some_iff, Option.some.injEq, reduceCtorEq, and_false, exists_false, exists_const] at ha
        · cases y <;> simp only [AV.den, Option.map_eq_some_iff, Option.bind_eq_some_iff, Option.some.injEq, reduceCtorEq, and_false, exists_false, exists_const] at hb
          · exact h1 _ _ _ _ rfl rfl
          all_goals (obtain ⟨_, _, hb⟩ := hb; split at hb <;> cases hb)
        all_goals (obtain ⟨_, _, ha⟩ := ha; split at ha <;> cases ha)
      · exfalso
        cases x <;> simp only [AV.den, Option.map_eq_some_iff, Option.bind_eq_some_iff, Option.some.injEq, reduceCtorEq, and_false, exists_false, exists_const] at ha
        · cases y <;> simp only [AV.den, Option.map_eq_some_iff, Option.bind_eq_some_iff, Option.some.injEq, reduceCtorEq, and_false, exists_false, exists_const] at hb
          · exact h2 _ _ rfl rfl
          all_goals (obtain ⟨_, _, hb⟩ := hb; split at hb <;> cases hb)
        all_goals (obtain ⟨_, _, ha⟩ := ha; split at ha <;> cases ha)
      · exact ⟨fun w => by rw [e1]; simp [hc w], fun w => by rw [e2]; simp [hc w]⟩
    split at h
    · obtain ⟨c, g1, g2⟩ := eqlK_sound h ha hb
      obtain ⟨m1, m2⟩ := main c (fun w => (g2 w).1)
      exact ⟨_, _, g1, rfl, fun X Y w => by simp [(g2 w).2, m1]⟩
    · obtain ⟨c, g1, g2⟩ := eqlK_sound h ha hb
      obtain ⟨m1, m2⟩ := main c (fun w => (g2 w).1)
      refine ⟨.bool (!c), .bool (!c), ?_, rfl, fun X Y w => by simp [(g2 w).2, m2]⟩
      cases c <;> simpa using g1
    · cases h
theorem unA_sound {ρ : Ren} {op : UnOp} {x : AV} {K : AV → Option β} {r : β} (h : unA op x K = some r) {a : Value} (ha : x.den ρ = some a) :
    ∃ v z, K v = some r ∧ v.den ρ = some z ∧ Op.unary op a = pure z := by
  unfold unA at h
  split at h
  · rename_i b
    cases den_bool ha
    refine ⟨.bool (!b), .bool (!b), ?_, rfl, rfl⟩
    cases b <;> simpa using h
  · cases den_int ha
    rw [fI_eq, wrapA_eq] at h
    exact ⟨_, _, h, rfl, rfl⟩
  · cases den_int ha
    split at h
    · rename_i m hm
      rw [fI_eq] at h
      exact ⟨_, _, h, rfl, bitsA_eq hm⟩
    · cases h
  · cases h
theorem asI_some {v : AV} {K : Int → Option β} {r : β} (h : asI v K = some r) : ∃ k n, v = .int k n ∧ K n = some r := by
  unfold asI at h
  split at h
  · exact ⟨_, _, rfl, h⟩
  · cases h
theorem asN_some {v : AV} {K : Nat → Option β} {r : β} (h : asN v K = some r) : ∃ k n, v = .int k (.ofNat n) ∧ K n = some r := by
  unfold asN at h
  split at h
  · exact ⟨_, _, rfl, h⟩
  · cases h
theorem idxK_some {i : Int} {n : Nat} {K : Nat → Option β} {r : β} (h : idxK i n K = some r) : ∃ m, i = .ofNat m ∧ m < n ∧ K m = some r := by
  unfold idxK at h
  split at h
  · rename_i m
    split at h
    · rename_i hm
      exact ⟨m, rfl, by simpa [Nat.blt_eq] using hm, h⟩
    · cases h
  · cases h
theorem indexAddrK_sound {ρ : Ren} {t : TypeId} {x ix : AV} {K : AV → Option β} {r : β} (h : indexAddrK P t x ix K = some r) {a b : Value} (ha : x.den ρ = some a) (hb : ix.den ρ = some b) :
    ∃ v z, K v = some r ∧ v.den ρ = some z ∧ ∀ w, (Instr.indexAt t a b).run P w = .ok z w := by
  unfold indexAddrK at h
  replace h := asI_some h
  obtain ⟨k, n, rfl, h⟩ := h
  cases den_int hb
  replace h := unK_some h
  obtain ⟨d, hd, h⟩ := h
  split at h
  · rename_i len elem kk off
    obtain ⟨l, hl, rfl⟩ := den_ptr ha
    replace h := idxK_some h
    obtain ⟨m, rfl, hm, h⟩ := h
    replace h := szK_some h
    obtain ⟨i, hi, h⟩ := h
    rw [fN_eq] at h
    refine ⟨_, .pointer (some ⟨l.blk, l.off + (off + m * i.size), none⟩), h, by simp [AV.den, hl], fun w => ?_⟩
    have h1 : (0 : Int) ≤ (m : Int) ∧ (m : Int) < (len : Int) := by omega
    have h2 : ¬ len ≤ m := by omega
    simp [Instr.indexAt, asIntOf, run_underlying hd, Instr.sureAddr, h1, h2, hm, runSize elem hi, Addr.add_lit, Nat.add_assoc]
  · rename_i elem kk off len cap
    obtain ⟨l, hl, rfl⟩ := den_slice ha
    replace h := idxK_some h
    obtain ⟨m, rfl, hm, h⟩ := h
    replace h := szK_some h
    obtain ⟨i, hi, h⟩ := h
    rw [fN_eq] at h
    refine ⟨_, .pointer (some ⟨l.blk, l.off + (off + m * i.size), none⟩), h, by simp [AV.den, hl], fun w => ?_⟩
    have h1 : (0 : Int) ≤ (m : Int) ∧ (m : Int) < (len : Int) := by omega
    have h2 : ¬ len ≤ m := by omega
    simp [Instr.indexAt, asIntOf, run_underlying hd, Instr.sureAddr, h1, h2, hm, runSize elem hi, Addr.add_lit, Nat.add_assoc]
  · rename_i elem kk off i0 len
    obtain ⟨l, hl, _, rfl⟩ := den_eslice ha
    replace h := idxK_some h
    obtain ⟨m, rfl, hm, h⟩ := h
    replace h := szK_some h
    obtain ⟨i, hi, h⟩ := h
    rw [fN_eq] at h
    refine ⟨_, .pointer (some ⟨l.blk, l.off + (off + m * i.size), none⟩), h, by simp [AV.den, hl], fun w => ?_⟩
    have h1 : (0 : Int) ≤ (m : Int) ∧ (m : Int) < (len : Int) := by omega
    have h2 : ¬ len ≤ m := by omega
    simp [Instr.indexAt, asIntOf, run_underlying hd, Instr.sureAddr, h1, h2, hm, runSize elem hi, Addr.add_lit, Nat.add_assoc]
  · cases h
theorem fieldAddrK_sound {ρ : Ren} {t : TypeId} {x : AV} {f : Nat} {K : AV → Option β} {r : β} (h : fieldAddrK P t x f K = some r) {a : Value} (ha : x.den ρ = some a) :
    ∃ v z, K v = some r ∧ v.den ρ = some z ∧ ∀ w, (Instr.fieldAt t a f).run P w = .ok z w := by
  unfold fieldAddrK at h
  replace h := unK_some h
  obtain ⟨d, hd, h⟩ := h
  split at h
  · rename_i fs k off
    obtain ⟨l, hl, rfl⟩ := den_ptr ha
    split at h
    · rename_i fd hf
      replace h := szK_some h
      obtain ⟨i, hi, h⟩ := h
      split at h
      · cases h
      · rename_i hz
        rw [fN_eq] at h
        refine ⟨_, .pointer (some ⟨l.blk, l.off + (off + fd.offset), none⟩), h, by simp [AV.den, hl], fun w => ?_⟩
        have hf' : fs[f]? = some fd := by simpa using hf
        have hz' : ¬ i.size = 0 := fun e => hz e
        simp [Instr.fieldAt, run_underlying hd, hf', Instr.sureAddr, fieldPlace, runSize _ hi, hz', Addr.add_lit, Nat.add_assoc]
    · cases h
  · cases h
theorem partK_sound {ρ : Ren} {t : TypeId} {cs : List AV} {off : Nat} {K : AV → Option β} {r : β} (h : partK P t cs off K = some r) {l : List Value} (hl : denL ρ cs = some l) :
    ∃ v z, K v = some r ∧ v.den ρ = some z ∧ ∀ w, (part t l.toArray off).run P w = .ok z w := by
  unfold partK at h
  replace h := unK_some h
  obtain ⟨d, hd, h⟩ := h
  cases ha : isAggD d with
  | true =>
    simp only [ha] at h
    replace h := szK_some h
    obtain ⟨i, hi, h⟩ := h
    replace h := lcut_some h
    obtain ⟨_, h⟩ := h
    refine ⟨_, .agg ((l.drop off).take i.size).toArray, h, by simp [AV.den, denL_take _ (denL_drop _ hl)], fun w => ?_⟩
    have hex : l.toArray.extract off (off + i.size) = ((l.drop off).take i.size).toArray := by
      apply Array.ext'
      simp [List.extract_eq_take_drop]
    simp only [part, Sem.run_bind, runAgg t hd, Result.andThen_ok, ha, if_true, runSize t hi, Sem.run_pure]
    rw [hex]
  | false =>
    simp only [ha] at h
    replace h := lget_some h
    obtain ⟨v, hv, h⟩ := h
    obtain ⟨y, g1, g2⟩ := denL_get hl hv
    refine ⟨v, y, h, g2, fun w => ?_⟩
    simp [part, runAgg t hd, ha, g1]
theorem fieldK_sound {ρ : Ren} {t : TypeId} {x : AV} {f : Nat} {K : AV → Option β} {r : β} (h : fieldK P t x f K = some r) {a : Value} (ha : x.den ρ = some a) :
    ∃ v z, K v = some r ∧ v.den ρ = some z ∧ ∀ w, (Instr.field t a f).run P w = .ok z w := by
  unfold fieldK at h
  replace h := unK_some h
  obtain ⟨d, hd, h⟩ := h
  split at h
  · rename_i fs cs
    obtain ⟨l, hl, rfl⟩ := den_agg ha
    split at h
    · rename_i fd hf
      obtain ⟨v, z, h1, h2, h3⟩ := partK_sound h hl
      refine ⟨v, z, h1, h2, fun w => ?_⟩
      have hf' : fs[f]? = some fd := by simpa using hf
      simp [Instr.field, run_underlying hd, hf', asAgg, h3]
    · cases h
  · cases h
theorem indexK_sound {ρ : Ren} {t : TypeId} {x ix : AV} {K : AV → Option β} {r : β} (h : indexK P t x ix K = some r) {a b : Value} (ha : x.den ρ = some a) (hb : ix.den ρ = some b) :
    ∃ v z, K v = some r ∧ v.den ρ = some z ∧ ∀ w, (Instr.index t a b).run P w = .ok z w := by
  unfold indexK at h
  replace h := asI_some h
  obtain ⟨k, n, rfl, h⟩ := h
  cases den_int hb
  replace h := unK_some h
  obtain ⟨d, hd, h⟩ := h
  split at h
  · rename_i len elem cs
    obtain ⟨l, hl, rfl⟩ := den_agg ha
    replace h := idxK_some h
    obtain ⟨m, rfl, hm, h⟩ := h
    replace h := szK_some h
    obtain ⟨i, hi, h⟩ := h
    rw [fN_eq] at h
    obtain ⟨v, z, h1, h2, h3⟩ := partK_sound h hl
    refine ⟨v, z, h1, h2, fun w => ?_⟩
    have h1 : (0 : Int) ≤ (m : Int) ∧ (m : Int) < (len : Int) := by omega
    have h2 : ¬ len ≤ m := by omega
    simp [Instr.index, asIntOf, run_underlying hd, h1, h2, hm, runSize elem hi, h3]
  · rename_i s
    cases den_str ha
    split at h
    · rename_i i
      split at h
      · rename_i b hb
        rw [fN_eq] at h
        refine ⟨_, .int .u8 (b.toNat : Int), h, rfl, fun w => ?_⟩
        have hget : (⟨s.toArray⟩ : ByteArray)[i]? = some b := by
          obtain ⟨hlt, he⟩ := List.getElem?_eq_some_iff.1 hb
          rw [getElem?_pos _ i (by simpa [ByteArray.size] using hlt)]
          simp only [Option.some.injEq]
          rw [← he]; rfl
        simp [Instr.index, asIntOf, run_underlying hd, hget]
      · cases h
    · cases h
  · cases h
end Go.Ai
