import Derived.Test.YthcbefolifpbpaaAiPure2
namespace Go.Ai
open Go
set_option linter.unusedSimpArgs false
variable {P : Program} {β : Type}

def OptRel (ρ : Ren) (v : Option AV) (x : Option Value) : Prop := (v = none ∧ x = none) ∨ ∃ a y, v = some a ∧ x = some y ∧ (a = .bad ∨ a.den ρ = some y)
theorem ORel.opt {ρ : Ren} {e : Operand → AV} {ev : Operand → Value} (h : ORel ρ e ev) (o : Option Operand) : OptRel ρ (o.map e) (o.map ev) := by
  cases o with
  | none => exact .inl ⟨rfl, rfl⟩
  | some o => exact .inr ⟨_, _, rfl, rfl, h o⟩
theorem bndK_some {ρ : Ren} {v : Option AV} {x : Option Value} (hv : OptRel ρ v x) {d most : Nat} {K : Nat → Option β} {r : β} (h : bndK v d most K = some r) :
    ∃ n, K n = some r ∧ ((v = none ∧ x = none ∧ n = d) ∨ ∃ k, v.isSome = true ∧ x = some (.int k (n : Int)) ∧ n ≤ most) := by
  unfold bndK at h
  rcases hv with ⟨rfl, rfl⟩ | ⟨a, y, rfl, rfl, hay⟩
  · exact ⟨d, h, .inl ⟨rfl, rfl, rfl⟩⟩
  · simp only at h
    obtain ⟨k, i, rfl, h⟩ := asI_some h
    rcases hay with hay | hay
    · cases hay
    · cases den_int hay
      obtain ⟨m, rfl, hm, h⟩ := idxK_some h
      exact ⟨m, h, .inr ⟨k, rfl, rfl, by omega⟩⟩
theorem run_sliceBound {k : IntKind} {n most : Nat} (h : n ≤ most) (c : BoundsCode) (w : World) : (Instr.sliceBound (.int k (n : Int)) most c).run P w = .ok n w := by
  have h1 : (0 : Int) ≤ (n : Int) ∧ (n : Int) ≤ (most : Int) := by omega
  have h2 : ¬ most < n := by omega
  simp [Instr.sliceBound, asIntOf, h1, h2, h]
/-- the three bounds of a slice expression -/
theorem run_bounds {mx hi lo : Option AV} {mx' hi' lo' : Option Value} {m h l len cap : Nat} (isS : Bool)
    (hm : (mx = none ∧ mx' = none ∧ m = cap) ∨ ∃ k, mx.isSome = true ∧ mx' = some (.int k (m : Int)) ∧ m ≤ cap)
    (hh : (hi = none ∧ hi' = none ∧ h = len) ∨ ∃ k, hi.isSome = true ∧ hi' = some (.int k (h : Int)) ∧ h ≤ m)
    (hl : (lo = none ∧ lo' = none ∧ l = 0) ∨ ∃ k, lo.isSome = true ∧ lo' = some (.int k (l : Int)) ∧ l ≤ h)
    (hno : ¬ (mx.isSome = true ∧ hi = none)) (w : World) : (Instr.sliceBounds isS len cap lo' hi' mx').run P w = .ok (l, h, m) w := by
  rcases hm with ⟨rfl, rfl, rfl⟩ | ⟨km, hm0, rfl, hm⟩ <;> rcases hh with ⟨rfl, rfl, rfl⟩ | ⟨kh, hh0, rfl, hh⟩ <;> rcases hl with ⟨rfl, rfl, rfl⟩ | ⟨kl, hl0, rfl, hl⟩ <;>
    first
      | (simp [Instr.sliceBounds, run_sliceBound, *]; done)
      | (exfalso; exact hno ⟨hm0, rfl⟩)
theorem extract_bytes (s : List UInt8) (l n : Nat) : ((⟨s.toArray⟩ : ByteArray).extract l n).data = ((s.drop l).take (n - l)).toArray := by
  rw [ByteArray.data_extract]
  apply Array.ext'
  simp [List.extract_eq_take_drop]
theorem sliceK_sound {ρ : Ren} {t : TypeId} {x : AV} {lo hi mx : Option AV} {lo' hi' mx' : Option Value} {K : AV → Option β} {r : β} (h : sliceK P t x lo hi mx K = some r) {a : Value} (ha : x.den ρ = some a)
    (hlo : OptRel ρ lo lo') (hhi : OptRel ρ hi hi') (hmx : OptRel ρ mx mx') : ∃ v z, K v = some r ∧ v.den ρ = some z ∧ ∀ w, (Instr.sliceAt t a lo' hi' mx').run P w = .ok z w := by
  unfold sliceK at h
  replace h := unK_some h
  obtain ⟨d, hd, h⟩ := h
  split at h
  · rename_i s
    cases den_str ha
    split at h
    · cases h
    · rcases hmx with ⟨_, rfl⟩ | ⟨_, _, hc, _⟩
      · simp only [llen_eq, Nat.zero_add, fL_eq] at h
        replace h := bndK_some hhi h
        obtain ⟨n, h, hn⟩ := h
        replace h := bndK_some hlo h
        obtain ⟨l, h, hl⟩ := h
        refine ⟨_, .string ⟨((s.drop l).take (n - l)).toArray⟩, h, rfl, fun w => ?_⟩
        have hsz : (⟨s.toArray⟩ : ByteArray).size = s.length := by simp [ByteArray.size]
        have hb := run_bounds (P := P) (mx := none) (hi := hi) (lo := lo) (mx' := none) (m := s.length) false (.inl ⟨rfl, rfl, rfl⟩) hn hl (by simp) w
        have hex : (⟨s.toArray⟩ : ByteArray).extract l n = ⟨((s.drop l).take (n - l)).toArray⟩ := by
          apply ByteArray.ext
          exact extract_bytes s l n
        simp [Instr.sliceAt, Instr.slice, run_underlying hd, hsz, hb, hex]
      · cases hc
  · rename_i n elem k off
    obtain ⟨p, hp, rfl⟩ := den_ptr ha
    replace h := bndK_some hmx h
    obtain ⟨m, h, hm⟩ := h
    replace h := bndK_some hhi h
    obtain ⟨n', h, hn⟩ := h
    replace h := bndK_some hlo h
    obtain ⟨l, h, hl⟩ := h
    replace h := szK_some h
    obtain ⟨i, hi0, h⟩ := h
    split at h
    · cases h
    · rename_i hno
      simp only [fN_eq] at h
      refine ⟨_, .slice (some ⟨p.blk, p.off + (if m = l then off else off + l * i.size), none⟩) (n' - l) (m - l), h, ?_, fun w => ?_⟩
      · simp only [AV.den, hp, Option.map_some]
        congr 4
        split
        · rename_i e; rw [if_pos (Nat.eq_of_beq_eq_true e)]
        · rename_i e; rw [if_neg (Nat.ne_of_beq_eq_false e)]
      · have hb := run_bounds (P := P) (len := n) false hm hn hl (by
          intro ⟨c1, c2⟩
          obtain ⟨q, rfl⟩ := Option.isSome_iff_exists.1 c1
          exact hno _ rfl c2) w
        simp only [Instr.sliceAt, Sem.run_bind, run_underlying hd, Result.andThen_ok, Instr.sureAddr, Sem.run_pure, hb, runSize elem hi0]
        congr 3
        split <;> simp [Addr.add_lit, Nat.add_assoc]
  · rename_i elem k off len cap
    obtain ⟨p, hp, rfl⟩ := den_slice ha
    replace h := bndK_some hmx h
    obtain ⟨m, h, hm⟩ := h
    replace h := bndK_some hhi h
    obtain ⟨n', h, hn⟩ := h
    replace h := bndK_some hlo h
    obtain ⟨l, h, hl⟩ := h
    replace h := szK_some h
    obtain ⟨i, hi0, h⟩ := h
    split at h
    · cases h
    · rename_i hno
      simp only [fN_eq] at h
      refine ⟨_, .slice (some ⟨p.blk, p.off + (if m = l then off else off + l * i.size), none⟩) (n' - l) (m - l), h, ?_, fun w => ?_⟩
      · simp only [AV.den, hp, Option.map_some]
        congr 4
        split
        · rename_i e; rw [if_pos (Nat.eq_of_beq_eq_true e)]
        · rename_i e; rw [if_neg (Nat.ne_of_beq_eq_false e)]
      · have hb := run_bounds (P := P) (len := len) true hm hn hl (by
          intro ⟨c1, c2⟩
          obtain ⟨q, rfl⟩ := Option.isSome_iff_exists.1 c1
          exact hno _ rfl c2) w
        simp only [Instr.sliceAt, Instr.slice, Sem.run_bind, run_underlying hd, Result.andThen_ok, Sem.run_pure, hb, runSize elem hi0]
        congr 3
        split <;> simp [Addr.add_lit, Nat.add_assoc]
  · rename_i elem k off i0 len
    obtain ⟨p, hp, hcap, rfl⟩ := den_eslice ha
    split at h
    · rename_i mv hv
      replace h := bndK_some hmx h
      obtain ⟨m, h, hm⟩ := h
      replace h := bndK_some hhi h
      obtain ⟨n', h, hn⟩ := h
      replace h := bndK_some hlo h
      obtain ⟨l, h, hl⟩ := h
      replace h := szK_some h
      obtain ⟨i, hi0, h⟩ := h
      simp only [fN_eq] at h
      refine ⟨_, .slice (some ⟨p.blk, p.off + (if m = l then off else off + l * i.size), none⟩) (n' - l) (m - l), h, ?_, fun w => ?_⟩
      · simp only [AV.den, hp, Option.map_some]
        congr 4
        split
        · rename_i e; rw [if_pos (Nat.eq_of_beq_eq_true e)]
        · rename_i e; rw [if_neg (Nat.ne_of_beq_eq_false e)]
      · have hm' : (some mv = none ∧ mx' = none ∧ m = p.cap - i0) ∨ ∃ k, (some mv).isSome = true ∧ mx' = some (.int k (m : Int)) ∧ m ≤ p.cap - i0 := by
          rcases hm with ⟨c, _⟩ | ⟨k, c1, c2, c3⟩
          · cases c
          · exact .inr ⟨k, c1, c2, by omega⟩
        have hn' : (some hv = none ∧ hi' = none ∧ n' = len) ∨ ∃ k, (some hv).isSome = true ∧ hi' = some (.int k (n' : Int)) ∧ n' ≤ m := by
          rcases hn with ⟨c, _⟩ | hn
          · cases c
          · exact .inr hn
        have hb := run_bounds (P := P) (len := len) true hm' hn' hl (by simp) w
        simp only [Instr.sliceAt, Instr.slice, Sem.run_bind, run_underlying hd, Result.andThen_ok, Sem.run_pure, hb, runSize elem hi0]
        congr 3
        split <;> simp [Addr.add_lit, Nat.add_assoc]
    · cases h
    · rcases hmx with ⟨_, rfl⟩ | ⟨_, _, hc, _⟩
      · replace h := bndK_some hhi h
        obtain ⟨n', h, hn⟩ := h
        replace h := bndK_some hlo h
        obtain ⟨l, h, hl⟩ := h
        have hn' : (hi = none ∧ hi' = none ∧ n' = len) ∨ ∃ k, hi.isSome = true ∧ hi' = some (.int k (n' : Int)) ∧ n' ≤ p.cap - i0 := by
          rcases hn with hn | ⟨k, c1, c2, c3⟩
          · exact .inl hn
          · exact .inr ⟨k, c1, c2, by omega⟩
        have hnl : n' ≤ len := by
          rcases hn with ⟨_, _, rfl⟩ | ⟨k, c1, c2, c3⟩ <;> omega
        have hb := fun w => run_bounds (P := P) (len := len) (mx := none) (mx' := none) (m := p.cap - i0) true (.inl ⟨rfl, rfl, rfl⟩) hn' hl (by simp) w
        replace h := szK_some h
        obtain ⟨i, hi0, h⟩ := h
        split at h
        · refine ⟨_, .slice (some ⟨p.blk, p.off + off, none⟩) n' (p.cap - i0), h, by simp [AV.den, hp]; omega, fun w => ?_⟩
          simp only [Instr.sliceAt, Instr.slice, Sem.run_bind, run_underlying hd, Result.andThen_ok, Sem.run_pure, hb, runSize elem hi0]
          simp [Addr.add_lit]
        · rename_i l
          split at h
          · rename_i hlt
            have hlt : l + 1 < len := by simpa [Nat.blt_eq] using hlt
            simp only [fN_eq] at h
            have hln : l + 1 ≤ n' := by
              rcases hl with ⟨_, _, c⟩ | ⟨k, c1, c2, c3⟩
              · omega
              · exact c3
            refine ⟨_, .slice (some ⟨p.blk, p.off + (off + (l + 1) * i.size), none⟩) (n' - (l + 1)) (p.cap - (i0 + (l + 1))), h, by simp [AV.den, hp]; omega, fun w => ?_⟩
            simp only [Instr.sliceAt, Instr.slice, Sem.run_bind, run_underlying hd, Result.andThen_ok, Sem.run_pure, hb, runSize elem hi0]
            have e1 : ¬ (p.cap - i0 = l + 1) := by omega
            have e2 : p.cap - i0 - (l + 1) = p.cap - (i0 + (l + 1)) := by omega
            simp [e1, e2, Addr.add_lit, Nat.add_assoc]
          · cases h
      · cases hc
  · rename_i elem
    cases den_nilslice ha
    replace h := bndK_some hmx h
    obtain ⟨m, h, hm⟩ := h
    replace h := bndK_some hhi h
    obtain ⟨n', h, hn⟩ := h
    replace h := bndK_some hlo h
    obtain ⟨l, h, hl⟩ := h
    replace h := szK_some h
    obtain ⟨i, hi0, h⟩ := h
    split at h
    · cases h
    · rename_i hno
      have em : m = 0 := by rcases hm with ⟨_, _, c⟩ | ⟨k, c1, c2, c3⟩ <;> omega
      have en : n' = 0 := by rcases hn with ⟨_, _, c⟩ | ⟨k, c1, c2, c3⟩ <;> omega
      have el : l = 0 := by rcases hl with ⟨_, _, c⟩ | ⟨k, c1, c2, c3⟩ <;> omega
      subst em en el
      have hb := fun w => run_bounds (P := P) (len := 0) true hm hn hl (by
          intro ⟨c1, c2⟩
          obtain ⟨q, rfl⟩ := Option.isSome_iff_exists.1 c1
          exact hno _ rfl c2) w
      refine ⟨_, .slice none 0 0, h, rfl, fun w => ?_⟩
      simp only [Instr.sliceAt, Instr.slice, Sem.run_bind, run_underlying hd, Result.andThen_ok, Sem.run_pure, hb, runSize elem hi0]
      simp
  · cases h
  · cases h
end Go.Ai
