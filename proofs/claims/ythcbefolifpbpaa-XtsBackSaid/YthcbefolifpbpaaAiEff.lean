import Derived.Test.YthcbefolifpbpaaAiOps3
namespace Go.Ai
open Go
set_option linter.unusedSimpArgs false
variable {P : Program} {β : Type}

/-! a block given up, a block that goes on under another number -/
theorem Stp.drop {ρ : Ren} {h : Heap} {w : World} (r : HRel ρ h w) (k : Nat) : Stp ρ h w ρ (h.put k none) w := by
  have g : ∀ {j b}, (h.put k none).get j = some b → h.get j = some b := by
    intro j b e
    by_cases hj : j = k
    · subst hj; rw [put_same] at e; cases e
    · rwa [put_ne _ _ hj] at e
  refine ⟨Ext.refl _, ⟨fun j b e => r.blk j b (g e), r.new, fun i j b c l m e1 e2 => r.inj i j b c l m (g e1) (g e2)⟩, rfl, rfl, rfl, Nat.le_refl _, fun _ _ _ => rfl, ?_, Nat.le_refl _⟩
  rintro b ⟨j, c, l, e, q⟩ _
  exact ⟨j, c, l, g e, q⟩
theorem Stp.move {ρ : Ren} {h : Heap} {w w' : World} {k : Nat} {b b' : Blk} {l l' : Loc} (r : HRel ρ h w) (hk : h.get k = some b) (hl : ρ k = some l) (hrw : b.rw) (hll : l'.blk = l.blk)
    (hs : w'.heap.size = w.heap.size) (hold : ∀ j, j ≠ l.blk → w'.heap[j]? = w.heap[j]?) (ht : w'.tape = w.tape) (hos : w'.os = w.os) (ho : w'.output = w.output)
    (hb : BlkRel (ρ.add h.next l') w' l' b') : Stp ρ h w (ρ.add h.next l') ((h.put k none).new b') w' := by
  have he : Ext ρ (ρ.add h.next l') := Ren.ext_add _ (r.new _ (Nat.le_refl _))
  have hkn : k ≠ h.next := fun e => by have := r.new k (by omega); rw [hl] at this; cases this
  have g : ∀ {j c}, j ≠ h.next → ((h.put k none).new b').get j = some c → j ≠ k ∧ h.get j = some c := by
    intro j c hj e
    have e' : (h.put k none).get j = some c := by rw [← e]; exact (new_ne (h.put k none) b' hj).symm
    by_cases hjk : j = k
    · subst hjk; rw [put_same] at e'; cases e'
    · exact ⟨hjk, by rwa [put_ne _ _ hjk] at e'⟩
  have gs : ((h.put k none).new b').get h.next = some b' := new_same (h.put k none) b'
  refine ⟨he, ⟨?_, ?_, ?_⟩, hos, ht, ho, by omega, fun c _ no => hold c (fun e => no ⟨k, b, l, hk, hrw, hl, e.symm⟩), ?_, by simp⟩
  · intro j c e
    by_cases hj : j = h.next
    · subst hj; rw [gs] at e; cases e
      exact ⟨_, Ren.add_same _ _ _, hb⟩
    · obtain ⟨hjk, e⟩ := g hj e
      obtain ⟨m, h1, h2⟩ := r.blk j c e
      exact ⟨m, he _ _ h1, h2.mono he (hold _ (fun q => r.inj k j b c l m hk e hl h1 hrw (fun z => hjk z.symm) q.symm))⟩
  · intro j hj
    simp only [new_next, put_next] at hj
    rw [Ren.add_ne _ _ (by omega)]
    exact r.new _ (by omega)
  · intro i j c d m n g1 g2 e1 e2 hrw1 hne
    by_cases hi : i = h.next
    · subst hi
      rw [Ren.add_same] at e1; cases e1
      obtain ⟨hjk, g2⟩ := g (fun z => hne z.symm) g2
      rw [Ren.add_ne _ _ (fun z => hne z.symm)] at e2
      rw [hll]
      exact r.inj k j b d l n hk g2 hl e2 hrw (fun z => hjk z.symm)
    · obtain ⟨hik, g1⟩ := g hi g1
      rw [Ren.add_ne _ _ hi] at e1
      by_cases hj : j = h.next
      · subst hj
        rw [Ren.add_same] at e2; cases e2
        rw [hll]
        exact fun z => r.inj k i b c l m hk g1 hl e1 hrw (fun z => hik z.symm) z.symm
      · obtain ⟨hjk, g2⟩ := g hj g2
        rw [Ren.add_ne _ _ hj] at e2
        exact r.inj i j c d m n g1 g2 e1 e2 hrw1 hne
  · rintro c ⟨j, d, m, e, hrw1, e1, rfl⟩ hlt
    by_cases hj : j = h.next
    · subst hj
      rw [Ren.add_same] at e1; cases e1
      exact ⟨k, b, l, hk, hrw, hl, hll.symm⟩
    · obtain ⟨_, e⟩ := g hj e
      rw [Ren.add_ne _ _ hj] at e1
      exact ⟨j, d, m, e, hrw1, e1, rfl⟩

/-! maps written -/
theorem updK_sound {ρ : Ren} {es : List (AV × AV)} {a v : AV} {K : List (AV × AV) → Option β} {r : β} (h : updK es a v K = some r) {L : List MapEntry} (hm : MRel ρ es L) {x y : Value} (hx : a.den ρ = some x) (hy : v.den ρ = some y)
    {d : TypeDesc} (hk : KeyOk d a) (i : Nat) : ∃ es', K es' = some r ∧ ((Instr.findNow d x L i = some none ∧ ∀ c, MRel ρ es' (L ++ [⟨x, y, c⟩])) ∨
      ∃ j z old, Instr.findNow d x L i = some (some (i + j, z)) ∧ L[j]? = some old ∧ Instr.sameNow d x old.key = some true ∧ MRel ρ es' (L.modify j fun e => { e with key := x, val := y })) := by
  induction es generalizing L i K with
  | nil => cases L with
    | nil => exact ⟨_, h, .inl ⟨rfl, fun c => ⟨hx, hy, trivial⟩⟩⟩
    | cons _ _ => exact hm.elim
  | cons p es ih =>
    obtain ⟨k, u⟩ := p
    cases L with
    | nil => exact hm.elim
    | cons e L =>
      obtain ⟨h1, h2, h3⟩ := hm
      simp only [updK] at h
      split at h
      · rename_i hs
        have hsn := den_inj_sc hs hx h1 d hk
        exact ⟨_, h, .inr ⟨0, e.val, e, by simp [Instr.findNow, hsn], rfl, hsn, ⟨hx, hy, h3⟩⟩⟩
      · rename_i hs
        have hsn := den_inj_sc hs hx h1 d hk
        obtain ⟨es', g1, g2⟩ := ih h h3 (i + 1)
        refine ⟨_, g1, ?_⟩
        rcases g2 with ⟨g2, g3⟩ | ⟨j, z, old, g2, g3, g4, g5⟩
        · exact .inl ⟨by simpa [Instr.findNow, hsn] using g2, fun c => ⟨h1, h2, g3 c⟩⟩
        · refine .inr ⟨j + 1, z, old, ?_, by simpa using g3, g4, ⟨h1, h2, g5⟩⟩
          simp only [Instr.findNow, hsn]
          rw [g2]; congr 3; omega
      · cases h
theorem sameBits_of {d : TypeDesc} {x y : Value} (h : Instr.sameNow d x y = some true) : Instr.sameBits 10000 y x = true := by
  unfold Instr.sameNow at h
  split at h
  · rename_i k a k' b
    split at h
    · rename_i e; subst e
      have e : a = b := by simpa using h
      subst e
      simp [Instr.sameBits]
    · cases h
  · rename_i a b
    have e : (a == b) = true := by simpa using h
    rw [beq_toListBytes] at e
    have e := eq_of_beq e
    simp [Instr.sameBits, beq_toListBytes, e]
  · rename_i a b
    have e : a = b := by simpa using h
    subst e
    simp [Instr.sameBits]
  · cases h
theorem mapUpdateK_sound {ρ : Ren} {h : Heap} {w : World} (hr : HRel ρ h w) {t : TypeId} {m k v : AV} {K : Heap → Option β} {r : β} (e : mapUpdateK P h t m k v K = some r) {a x y : Value} (ha : m.den ρ = some a) (hx : k.den ρ = some x) (hy : v.den ρ = some y) :
    ∃ h' w', K h' = some r ∧ Stp ρ h w ρ h' w' ∧ (Instr.mapUpdate t a x y).run P w = .ok () w' := by
  unfold mapUpdateK at e
  replace e := unK_some e
  obtain ⟨d, hd, e⟩ := e
  split at e
  · rename_i kt et rr
    obtain ⟨l, hl, rfl⟩ := den_mapv ha
    replace e := keyK_some e
    obtain ⟨kd, hkd, hko, e⟩ := e
    obtain ⟨b, hb, e⟩ := hget_some e
    obtain ⟨l', hl', hrel⟩ := hr.blk _ b hb
    rw [hl] at hl'; cases hl'
    split at e
    · rename_i es
      obtain ⟨E, c, g1, g2⟩ := hrel
      obtain ⟨es', e1, e2⟩ := updK_sound e g2 hx hy hko 0
      rw [hputK_eq] at e1
      have hg : (getObj l.blk).run P w = .ok (.map E c) w := by simp [getObj, Sem.run, g1]
      have hset : ∀ o w, w.heap[l.blk]? = some (.map E c) → (setObj l.blk o).run P w = .ok () { w with heap := w.heap.setIfInBounds l.blk o } := by
        intro o w hw; simp [setObj, Sem.run, hw]
      have fin : ∀ E' c', MRel ρ es' E'.toList → Stp ρ h w ρ (h.put rr (some (.map es' false))) { w with heap := w.heap.setIfInBounds l.blk (.map E' c') } := by
        intro E' c' hm
        have hlt := (Array.getElem?_eq_some_iff.1 g1).1
        refine Stp.put hr hb hl rfl (by simp) (fun j hj => by simp [Array.getElem?_setIfInBounds, Ne.symm hj]) rfl rfl rfl ⟨E', c', ?_, hm⟩
        simp [Array.getElem?_setIfInBounds, hlt]
      rcases e2 with ⟨f1, f2⟩ | ⟨j, z, old, f1, f2, f3, f4⟩
      · refine ⟨_, _, e1, fin (E.push ⟨x, y, c⟩) (c + 1) (by simpa using f2 c), ?_⟩
        simp [Instr.mapUpdate, run_underlying hd, hg, run_checkKey hkd hko, Instr.findKey, run_underlying hkd, f1, hset _ w g1]
      · refine ⟨_, _, e1, fin (E.modify j fun e => { e with key := x, val := y }) c (by simpa using f4), ?_⟩
        have hold : E[j]? = some old := by simpa using f2
        rw [Nat.zero_add] at f1
        simp [Instr.mapUpdate, run_underlying hd, hg, run_checkKey hkd hko, Instr.findKey, run_underlying hkd, f1, hold, Instr.keyThatStays, sameBits_of f3, hset _ w g1]
    · cases e
  · cases e
theorem delK_sound {ρ : Ren} {es : List (AV × AV)} {a : AV} {K : List (AV × AV) → Option β} {r : β} (h : delK es a K = some r) {L : List MapEntry} (hm : MRel ρ es L) {x : Value} (hx : a.den ρ = some x)
    {d : TypeDesc} (hk : KeyOk d a) (i : Nat) : ∃ es', K es' = some r ∧ ((Instr.findNow d x L i = some none ∧ MRel ρ es' L) ∨ ∃ j z, Instr.findNow d x L i = some (some (i + j, z)) ∧ MRel ρ es' (L.eraseIdx j)) := by
  induction es generalizing L i K with
  | nil => cases L with
    | nil => exact ⟨_, h, .inl ⟨rfl, trivial⟩⟩
    | cons _ _ => exact hm.elim
  | cons p es ih =>
    obtain ⟨k, u⟩ := p
    cases L with
    | nil => exact hm.elim
    | cons e L =>
      obtain ⟨h1, h2, h3⟩ := hm
      simp only [delK] at h
      split at h
      · rename_i hs
        have hsn := den_inj_sc hs hx h1 d hk
        exact ⟨_, h, .inr ⟨0, e.val, by simp [Instr.findNow, hsn], h3⟩⟩
      · rename_i hs
        have hsn := den_inj_sc hs hx h1 d hk
        obtain ⟨es', g1, g2⟩ := ih h h3 (i + 1)
        refine ⟨_, g1, ?_⟩
        rcases g2 with ⟨g2, g3⟩ | ⟨j, z, g2, g5⟩
        · exact .inl ⟨by simpa [Instr.findNow, hsn] using g2, ⟨h1, h2, g3⟩⟩
        · refine .inr ⟨j + 1, z, ?_, ⟨h1, h2, g5⟩⟩
          simp only [Instr.findNow, hsn]
          rw [g2]; congr 3; omega
      · cases h
theorem deleteK_sound {ρ : Ren} {h : Heap} {w : World} (hr : HRel ρ h w) {t : TypeId} {m k : AV} {K : Heap → Option β} {r : β} (e : deleteK P h t m k K = some r) {a x : Value} (ha : m.den ρ = some a) (hx : k.den ρ = some x)
    (ts : Array TypeId) (ht : ts[0]? = some t) (ty : TypeId) (as : Array Value) (h0 : as[0]? = some a) (h1 : as[1]? = some x) :
    ∃ h' w', K h' = some r ∧ Stp ρ h w ρ h' w' ∧ (Builtin.delete_ ts ty as).run P w = .ok undef w' := by
  unfold deleteK at e
  replace e := unK_some e
  obtain ⟨d, hd, e⟩ := e
  split at e
  · rename_i kt et
    cases den_nilmap ha
    replace e := keyK_some e
    obtain ⟨kd, hkd, hko, e⟩ := e
    exact ⟨h, w, e, Stp.refl hr, by simp [Builtin.delete_, ht, h0, h1, run_underlying hd, run_checkKey hkd hko]; rfl⟩
  · rename_i kt et rr
    obtain ⟨l, hl, rfl⟩ := den_mapv ha
    replace e := keyK_some e
    obtain ⟨kd, hkd, hko, e⟩ := e
    obtain ⟨b, hb, e⟩ := hget_some e
    obtain ⟨l', hl', hrel⟩ := hr.blk _ b hb
    rw [hl] at hl'; cases hl'
    split at e
    · rename_i es
      obtain ⟨E, c, g1, g2⟩ := hrel
      obtain ⟨es', e1, e2⟩ := delK_sound e g2 hx hko 0
      rw [hputK_eq] at e1
      have hg : (getObj l.blk).run P w = .ok (.map E c) w := by simp [getObj, Sem.run, g1]
      have hset : ∀ o w, w.heap[l.blk]? = some (.map E c) → (setObj l.blk o).run P w = .ok () { w with heap := w.heap.setIfInBounds l.blk o } := by
        intro o w hw; simp [setObj, Sem.run, hw]
      have fin : ∀ E' c', MRel ρ es' E'.toList → Stp ρ h w ρ (h.put rr (some (.map es' false))) { w with heap := w.heap.setIfInBounds l.blk (.map E' c') } := by
        intro E' c' hm
        have hlt := (Array.getElem?_eq_some_iff.1 g1).1
        refine Stp.put hr hb hl rfl (by simp) (fun j hj => by simp [Array.getElem?_setIfInBounds, Ne.symm hj]) rfl rfl rfl ⟨E', c', ?_, hm⟩
        simp [Array.getElem?_setIfInBounds, hlt]
      rcases e2 with ⟨f1, f2⟩ | ⟨j, z, f1, f4⟩
      · refine ⟨_, _, e1, fin E c f2, ?_⟩
        simp [Builtin.delete_, ht, h0, h1, run_underlying hd, hg, run_checkKey hkd hko, Instr.findKey, run_underlying hkd, f1, hset _ w g1]
        rfl
      · refine ⟨_, _, e1, fin (E.eraseIdxIfInBounds j) c ?_, ?_⟩
        · have : (E.eraseIdxIfInBounds j).toList = E.toList.eraseIdx j := by
            unfold Array.eraseIdxIfInBounds
            split
            · simp
            · rename_i hj
              rw [List.eraseIdx_of_length_le (by simp at hj ⊢; omega)]
          rw [this]; exact f4
        · rw [Nat.zero_add] at f1
          simp [Builtin.delete_, ht, h0, h1, run_underlying hd, hg, run_checkKey hkd hko, Instr.findKey, run_underlying hkd, f1, hset _ w g1]
          rfl
    · cases e
  · cases e
end Go.Ai
