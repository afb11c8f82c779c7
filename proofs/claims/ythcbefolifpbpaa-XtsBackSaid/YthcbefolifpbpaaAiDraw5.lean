import Derived.Test.YthcbefolifpbpaaAiDraw4
namespace Go.Ai
open Go
set_option linter.unusedSimpArgs false
variable {P : Program} {β : Type}

theorem chkHs_some {l : Log} {K : Option β} {r : β} : ∀ {hs : List Heap}, chkHs P l hs K = some r → K = some r ∧ ∀ h ∈ hs, ∃ v0 h0, readK P l.fr.eval l.o h (fun v => some (v, h)) = some (v0, h0) ∧ l.v.same v0 = true
  | [], h => ⟨h, by simp⟩
  | x :: hs, h => by
    simp only [chkHs] at h
    split at h
    · rename_i v0 h0 hr
      split at h
      · rename_i hsm
        obtain ⟨h1, h2⟩ := chkHs_some h
        refine ⟨h1, fun y hy => ?_⟩
        rcases List.mem_cons.1 hy with rfl | hy
        · exact ⟨v0, h0, hr, hsm⟩
        · exact h2 y hy
      · cases h
    · cases h
theorem chkFl_some {lg : List (Option Log)} {hs : List Heap} {K : Option β} {r : β} : ∀ {fl : List (Nat × Nat × Nat)}, chkFl P lg hs fl K = some r →
    K = some r ∧ ∀ i lo hi l, (i, lo, hi) ∈ fl → lg[i]? = some (some l) → ∀ q h, lo ≤ q → q ≤ hi → hs[q]? = some h → ∃ v0 h0, readK P l.fr.eval l.o h (fun v => some (v, h)) = some (v0, h0) ∧ l.v.same v0 = true
  | [], h => ⟨h, by simp⟩
  | (i, lo, hi) :: fl, h => by
    simp only [chkFl] at h
    split at h
    · rename_i l hl
      obtain ⟨h1, h2⟩ := chkHs_some h
      obtain ⟨h3, h4⟩ := chkFl_some h1
      refine ⟨h3, fun i' lo' hi' l' hm hl' q y hq1 hq2 hy => ?_⟩
      rcases List.mem_cons.1 hm with hm | hm
      · cases hm
        rw [hl] at hl'
        cases hl'
        refine h2 y (List.mem_iff_getElem?.2 ⟨q - lo, ?_⟩)
        rw [List.getElem?_take, if_pos (by omega), List.getElem?_drop, show lo + (q - lo) = q by omega]
        exact hy
      · exact h4 i' lo' hi' l' hm hl' q y hq1 hq2 hy
    · rename_i hl
      obtain ⟨h3, h4⟩ := chkFl_some h
      refine ⟨h3, fun i' lo' hi' l' hm hl' q y hq1 hq2 hy => ?_⟩
      rcases List.mem_cons.1 hm with hm | hm
      · cases hm
        rw [hl] at hl'
        cases hl'
      · exact h4 i' lo' hi' l' hm hl' q y hq1 hq2 hy
    · cases h

/-- a region that draws its order: what the text's order comes to, every order comes to -/
theorem regionOk (hm : P.follows .mixedOrders = true) : RegionOk P := by
  intro β call hcall n ops id Q r K ρ fr h a w hf hr hd hk hq
  simp only [regionK, hd] at hk
  have D := drawOk_spec hd
  obtain ⟨fs, hp, vs, lg', ex, f0, p0, st, hK, ⟨ll, hl⟩, hqs, hx⟩ := opsDK_trace ops.toList hk
  simp only [List.append_nil] at hK
  obtain ⟨hfin, hfl⟩ := chkFl_some hK
  have st' : ∀ j o, ops[j]? = some o → StepAt P call n ops fs hp vs j o := fun j o ho => st j o (by simpa using ho)
  have hsz : ops.toList.length = ops.size := by simp
  simp only [List.length_nil, Nat.zero_add, hsz] at hqs
  have T : Trc P call n ops fs hp vs := by
    refine ⟨D, st', fun j o ho => hx j o (by simpa using ho), ?_⟩
    intro i o ho hR hw k hk hlo hhi
    have hi : i < ops.size := (Array.getElem?_eq_some_iff.1 ho).1
    have b1 : loOf P ops i ≤ cntX P ops.toList i := by
      rw [loOf_zip, cntX_zip]
      refine List.countP_mono_left fun x hxm hp => ?_
      simp only [Bool.and_eq_true, decide_eq_true_eq] at hp ⊢
      exact ⟨hp.1, D.mask_lt i o ho _ hp.2⟩
    have b2 : cntX P ops.toList i ≤ hiOf P ops i := by
      rw [hiOf_zip, cntX_zip]
      refine List.countP_mono_left fun x hxm hp => ?_
      simp only [Bool.and_eq_true, decide_eq_true_eq, Bool.not_eq_true'] at hp ⊢
      refine ⟨hp.1, ?_⟩
      cases hb : ((masks ops).getD x.2 0).testBit i with
      | false => rfl
      | true => have := D.mask_lt _ _ (of_zip hxm) i hb; omega
    by_cases hlt : loOf P ops i < hiOf P ops i
    · right
      have hm : (i, loOf P ops i, hiOf P ops i) ∈ floats P ops := by
        unfold floats
        rw [List.mem_filterMap]
        refine ⟨(o, i), ?_, by simp [hlt]⟩
        rw [List.mem_filter]
        exact ⟨mem_zipIdx ho, hR⟩
      have hlg : lg'.reverse[i]? = some (some ⟨o, fs i, vs i⟩) := by
        rw [hl i o (by simpa using ho)]
        simp [logOf, hw, hR]
      exact hfl i _ _ _ hm hlg _ _ hlo hhi (hqs k hk)
    · left
      have h1 := hqs k hk
      have h2 := hqs i (by omega)
      rw [show cntX P ops.toList k = cntX P ops.toList i by omega, h2] at h1
      exact (Option.some.inj h1).symm
  refine wp_region_any hm (T.any hcall (ρ₀ := ρ) (h₀ := h) (w₀ := w) (ds := a.defers) (fun ρ' a' w' hf' hd' hs' => ?_) ops.size _ 0 ρ a _ (by simp) (by simp) ?_)
  · rw [hsz] at hfin
    exact hq ρ' _ _ a' w' hf' hd' hs' hfin
  · have hS : ∀ j, (Array.replicate ops.size false).getD j false = false := fun j => by
      rw [Array.getD_eq_getD_getElem?, Array.getElem?_replicate]
      split <;> rfl
    refine ⟨fun j o _ hj => (by have h := hS j; rw [hj] at h; cases h), fun t => ?_, hf.size, rfl, fun j o _ _ => by simp [hS], by omega, ?_⟩
    · have : vAt ops fs vs (fun i => (Array.replicate ops.size false).getD i false) t = fr.eval (.tmp t) := by
        unfold vAt
        rw [lastW_above (i := 0) (by omega) (fun j _ _ _ => hS j)]
        simp [lastW, f0]
      rw [this]
      exact hf.den t
    · rw [p0]
      exact Stp.draw _ hr
end Go.Ai
