import Derived.Test.YthcbefolifpbpaaAiEff2
namespace Go.Ai
open Go
set_option linter.unusedSimpArgs false
variable {P : Program} {β : Type}

theorem HRel.drew {ρ : Ren} {h : Heap} {w : World} (r : HRel ρ h w) : HRel ρ h w.drew := r.draw _
theorem Stp.drew {ρ : Ren} {h : Heap} {w : World} (r : HRel ρ h w) : Stp ρ h w ρ h w.drew := Stp.draw _ r
theorem grow_step {ρ : Ren} {h : Heap} {w : World} (hr : HRel ρ h w) {size need newCap : Nat} {old new : List AV} {xo xn : List Value} (ho : denL ρ old = some xo) (hn : denL ρ new = some xn)
    (hl : xo.length + xn.length = need * size) (hc : need ≤ newCap) {zv : Value} (hz : zv.cells.size = size) (elem : TypeId) :
    Stp ρ h w (ρ.add h.next ⟨w.heap.size, 0, newCap⟩) (h.new (.cells (old ++ new) size false)) (w.drew.alloc (.cells (xo.toArray ++ xn.toArray ++ Builtin.zeroCells zv.cells (newCap - need)) elem)) ∧
    (AV.eslice h.next 0 0 need).den (ρ.add h.next ⟨w.heap.size, 0, newCap⟩) = some (.slice (some ⟨w.heap.size, 0, none⟩) need newCap) := by
  refine ⟨(Stp.drew hr).trans (Stp.new (w := w.drew) (w' := w.drew.alloc (.cells (xo.toArray ++ xn.toArray ++ Builtin.zeroCells zv.cells (newCap - need)) elem)) hr.drew rfl rfl rfl rfl newCap ?_), ?_⟩
  · refine ⟨xo.toArray ++ xn.toArray ++ Builtin.zeroCells zv.cells (newCap - need), elem, (0, 0), xo ++ xn, by show (w.heap.push _)[w.heap.size]? = _; simp, denL_mono (Ren.ext_add _ (hr.new _ (Nat.le_refl _))) _ _ (denL_app ho hn), ?_, fun _ => .inl rfl, fun _ => ?_⟩
    · intro i x hi
      have hlt := (List.getElem?_eq_some_iff.1 hi).1
      simp only [Nat.zero_add]
      rw [Array.getElem?_append_left (by simpa using hlt)]
      simpa using hi
    · have hzs : (Builtin.zeroCells zv.cells (newCap - need)).size = (newCap - need) * size := by simp [Builtin.zeroCells, hz]
      simp only [Array.size_append, hzs, List.size_toArray, hl, Nat.zero_add]
      rw [← Nat.add_mul]; congr 1; omega
  · simp [AV.den, Ren.add_same, hc]
theorem appendCap_le (need sCap : Nat) (elem : TypeId) (t : Nat) : need ≤ (Question.appendCap need sCap elem).cut t := by
  simp only [Question.cut]; omega
theorem lenOf_slice {base : Option Addr} {sl c n : Nat} {w : World} (h : (Builtin.lenOf (.slice base sl c)).run P w = .ok n w) : n = sl := by
  simp [Builtin.lenOf] at h; exact h.symm
theorem appendK_sound {ρ : Ren} {h : Heap} {w : World} (hr : HRel ρ h w) {t : TypeId} {s x : AV} {K : AV → Heap → Option β} {r : β} (e : appendK P h t s x K = some r) {a b : Value} (ha : s.den ρ = some a) (hb : x.den ρ = some b)
    (ts : Array TypeId) (ht : ts[0]? = some t) (hz : NoZeros P ts) (ty : TypeId) (as : Array Value) (h0 : as[0]? = some a) (h1 : as[1]? = some b) :
    ∃ v h' ρ' z w', K v h' = some r ∧ Stp ρ h w ρ' h' w' ∧ v.den ρ' = some z ∧ (Builtin.append_ ts ty as).run P w = .ok z w' := by
  unfold appendK at e
  replace e := unK_some e
  obtain ⟨d, hd, e⟩ := e
  split at e
  · rename_i elem
    split at e
    · rename_i ie hi
      split at e
      · rename_i zv hzv
        split at e
        · rename_i size hzs hsz
          have hzs := Nat.eq_of_beq_eq_true hzs
          have hpos : 0 < ie.size := by omega
          obtain ⟨S, hS⟩ : ∃ S, S = size + 1 := ⟨_, rfl⟩
          have hsz1 : size + 2 = S + 1 := by omega
          rw [hsz1] at e
          rw [← hS] at e
          have hSi : ie.size = S := by omega
          split at e
          · rename_i n sl hn hs
            simp only [fN_eq] at e
            split at e
            · rename_i hbd
              have hbd := Nat.le_of_ble_eq_true hbd
              have hlx := lenA_sound (P := P) hn hb w
              have hb1 : sl + n ≤ 1073741824 := by
                have : (sl + n + 1) * 1 ≤ (sl + n + 1) * (S + 1) * (ie.bytes + 1) := by
                  rw [Nat.mul_assoc]; exact Nat.mul_le_mul_left _ (Nat.mul_pos (by omega) (by omega))
                simp only [mostCells] at hbd; omega
              have hbb : (sl + n + 1) * (ie.bytes + 1) ≤ 1073741824 := by
                have : (sl + n + 1) * (ie.bytes + 1) ≤ (sl + n + 1) * (S + 1) * (ie.bytes + 1) := by
                  rw [Nat.mul_right_comm]; exact Nat.le_mul_of_pos_right _ (by omega)
                simp only [mostCells] at hbd; omega
              have hb2 : (sl + n + 200) * ie.bytes ≤ 1099511627776 := by
                have e1 : ie.bytes ≤ 1073741824 := by
                  have : 1 * (ie.bytes + 1) ≤ (sl + n + 1) * (ie.bytes + 1) := Nat.mul_le_mul_right _ (by omega)
                  omega
                have e2 : (sl + n) * ie.bytes ≤ (sl + n + 1) * (ie.bytes + 1) := Nat.mul_le_mul (by omega) (by omega)
                rw [Nat.add_mul]; omega
              replace e := firstK_sound (P := P) hr e hb
              obtain ⟨nw, xn, e, hnd, hnrun, _⟩ := e
              simp only [llen_eq, Nat.zero_add] at e
              split at e
              · rename_i hnl hsc
                have hnl := Nat.eq_of_beq_eq_true hnl
                have hxl : xn.length = n * S := by rw [denL_len hnd, hnl]
                have hone := one_all hsc hnd
                have hzS : zv.cells.size = S := by omega
                have hSpos : 0 < S := by omega
                split at e
                · -- a slice at the end of a block that may have room
                  rename_i k off i0 len
                  obtain ⟨l, hl, hcap, rfl⟩ := den_eslice ha
                  have hsl : sl = len := by simpa [lenA] using hs.symm
                  subst hsl
                  replace e := hget_some e
                  obtain ⟨bk, hbk, e⟩ := e
                  split at e
                  · rename_i cs ext
                    split at e
                    · rename_i hee
                      simp only [Bool.and_eq_true] at hee
                      have hext := Nat.eq_of_beq_eq_true hee.1
                      have hoff := Nat.eq_of_beq_eq_true hee.2
                      replace e := lcut_some e
                      obtain ⟨hle, e⟩ := e
                      split at e
                      · rename_i hall
                        have hall := Nat.eq_of_beq_eq_true hall
                        simp only [hdropK_eq, growK, lapp_eq, hnewK_eq] at e
                        obtain ⟨l', hl', hrel⟩ := hr.blk k _ hbk
                        rw [hl] at hl'; cases hl'
                        obtain ⟨xo, hod, hol, hold⟩ := runCells (P := P) hrel hle
                        have hrel' := hrel
                        obtain ⟨C, T, fz, ys, c1, c2, c3, c4, c5⟩ := hrel'
                        have hly := denL_len c2
                        have c5 := c5 (by omega)
                        by_cases hin : sl + n ≤ l.cap - i0
                        · -- in place
                          have hmul : (l.cap - i0) * S = l.cap * S - i0 * S := Nat.sub_mul _ _ _
                          have hfit : (sl + n) * S ≤ (l.cap - i0) * S := Nat.mul_le_mul_right _ hin
                          have hi0 : i0 * S ≤ l.cap * S := Nat.mul_le_mul_right _ (by omega)
                          have hadd : (sl + n) * S = sl * S + n * S := Nat.add_mul _ _ _
                          have hsz' : l.off + off + sl * S + xn.length ≤ C.size := by rw [c5, hext]; omega
                          have hrun := run_storeCells_cells (P := P) l.blk (l.off + off + sl * S) xn 0 w
                            (fun j hj => by simp only [World.cell?, c1, Nat.add_zero]; simp; omega)
                            (fun j hj => by
                              have c4 := c4 rfl
                              simp only [World.frozen?, c1, Nat.add_zero]
                              simp; omega) hone
                          rw [Nat.add_zero] at hrun
                          obtain ⟨C', g1, g2, g3, g4, g5⟩ := setCells_blk l.blk xn (l.off + off + sl * S) w C T fz c1 hsz'
                          obtain ⟨e1, e2, e3⟩ := setCells_rest l.blk xn (l.off + off + sl * S) w
                          have hx : Ext ρ (ρ.add h.next ⟨l.blk, l.off + off, l.cap - i0⟩) := Ren.ext_add _ (hr.new _ (Nat.le_refl _))
                          refine ⟨_, _, ρ.add h.next ⟨l.blk, l.off + off, l.cap - i0⟩, .slice (some ⟨l.blk, l.off + off, none⟩) (sl + n) (l.cap - i0), _, e,
                            Stp.move hr hbk hl rfl rfl (setCells_size _ _ _ _) (fun j hj => setCells_heap _ _ _ _ _ hj) e1 e2 e3 ?_, by simp [AV.den, Ren.add_same, hin], ?_⟩
                          · refine ⟨C', T, fz, xo ++ xn, g1, denL_mono hx _ _ (denL_app hod hnd), ?_, ?_, ?_⟩
                            · intro i x hi
                              by_cases hlt : i < sl * S
                              · rw [List.getElem?_append_left (by omega)] at hi
                                rw [g3 _ (by simp only; omega)]
                                have hxo : xo = (ys.drop off).take (sl * S) := by
                                  have := denL_take (sl * S) (denL_drop off c2)
                                  rw [hod] at this; simpa using this
                                rw [hxo, List.getElem?_take_of_lt hlt, List.getElem?_drop] at hi
                                have := c3 _ _ hi
                                simpa [Nat.add_assoc] using this
                              · rw [List.getElem?_append_right (by omega), hol] at hi
                                have := g5 _ _ hi
                                have e9 : l.off + off + sl * S + (i - sl * S) = l.off + off + i := by omega
                                rw [e9] at this
                                exact this
                            · intro _
                              rw [g2]
                              exact c4 rfl
                            · intro _
                              rw [g2, c5, hext]
                              simp only
                              omega
                          · refine append_in hd hi ts ht hz ty as _ sl _ b h0 h1 hlx hin (hSi ▸ hnrun w rfl) ⟨fun p hp => ?_, fun c => by cases c⟩
                            cases hp
                            rw [addLit, hSi]
                            simpa using hrun
                        · -- in a new block
                          have hdrop := Stp.drop hr k
                          have hlen : xo.length + xn.length = (sl + n) * S := by rw [hol, hxl, Nat.add_mul]
                          obtain ⟨g1, g2⟩ := grow_step hdrop.rel (newCap := (Question.appendCap (sl + n) (l.cap - i0) elem).cut (w.tape w.drawn (.appendCap (sl + n) (l.cap - i0) elem))) hod hnd hlen (appendCap_le _ _ _ _) hzS elem
                          refine ⟨_, _, _, _, _, e, hdrop.trans g1, g2, ?_⟩
                          have hold' : (Builtin.firstCells S sl (.slice (some ⟨l.blk, l.off + off, none⟩) sl (l.cap - i0))).run P w.drew = .ok xo.toArray w.drew := by
                            obtain ⟨xo', f1, _, f2⟩ := runCells (P := P) (hrel.mono (w' := w.drew) (Ext.refl _) rfl) hle
                            rw [hod] at f1; cases f1
                            exact f2
                          exact append_grow hd hi hzv ts ht hz ty as _ sl _ b h0 h1 hlx hin hb1 hb2 rfl (hSi ▸ hold') (hSi ▸ hnrun w.drew rfl)
                      · cases e
                    · cases e
                  · cases e
                · -- a slice whose room is known
                  rename_i k off len cap
                  obtain ⟨l, hl, rfl⟩ := den_slice ha
                  have hsl : sl = len := by simpa [lenA] using hs.symm
                  subst hsl
                  split at e
                  · rename_i hle
                    have hle := Nat.le_of_ble_eq_true hle
                    replace e := storeCK_sound (P := P) hr e hl hnd
                    obtain ⟨h', w', e, g1, g2⟩ := e
                    refine ⟨_, h', ρ, .slice (some ⟨l.blk, l.off + off, none⟩) (sl + n) cap, w', e, g1, by simp only [AV.den, hl, Option.map_some], ?_⟩
                    refine append_in hd hi ts ht hz ty as _ sl _ b h0 h1 hlx hle (hSi ▸ hnrun w rfl) ⟨fun p hp => ?_, fun c => by cases c⟩
                    cases hp
                    rw [addLit, hSi]
                    simpa [Nat.add_assoc] using g2
                  · rename_i hle
                    have hle : ¬ sl + n ≤ cap := fun c => by rw [Nat.ble_eq_true_of_le c] at hle; cases hle
                    replace e := firstK_sound (P := P) hr e ha
                    obtain ⟨od, xo, e, hod, hold, hol⟩ := e
                    simp only [growK, lapp_eq, hnewK_eq] at e
                    have hlen : xo.length + xn.length = (sl + n) * S := by rw [hol _ _ _ _ rfl, hxl, Nat.add_mul]
                    obtain ⟨g1, g2⟩ := grow_step hr (newCap := (Question.appendCap (sl + n) cap elem).cut (w.tape w.drawn (.appendCap (sl + n) cap elem))) hod hnd hlen (appendCap_le _ _ _ _) hzS elem
                    exact ⟨_, _, _, _, _, e, g1, g2, append_grow hd hi hzv ts ht hz ty as _ sl _ b h0 h1 hlx hle hb1 hb2 rfl (hSi ▸ hold w.drew rfl) (hSi ▸ hnrun w.drew rfl)⟩
                · cases den_nilslice ha
                  have hsl : sl = 0 := by simpa [lenA] using hs.symm
                  subst hsl
                  split at e
                  · rename_i hn0
                    have hn0 : n = 0 := by omega
                    subst hn0
                    refine ⟨_, h, ρ, _, w, e, Stp.refl hr, rfl, ?_⟩
                    have := append_in hd hi ts ht hz ty as none 0 0 b h0 h1 hlx (by omega) (hSi ▸ hnrun w rfl) (w' := w) ⟨fun p hp => (by cases hp), fun _ => rfl⟩
                    simpa using this
                  · rename_i m hm
                    simp only [growK, lapp_eq, hnewK_eq] at e
                    have hmn : m + 1 = 0 + n := by omega
                    rw [hmn] at e
                    obtain ⟨g1, g2⟩ := grow_step hr (old := []) (xo := []) (newCap := (Question.appendCap (0 + n) 0 elem).cut (w.tape w.drawn (.appendCap (0 + n) 0 elem))) (denL_nil ρ) hnd (by simp [hxl]) (appendCap_le _ _ _ _) hzS elem
                    exact ⟨_, _, _, _, _, e, g1, g2, append_grow hd hi hzv ts ht hz ty as none 0 0 b h0 h1 hlx (by omega) hb1 hb2 rfl (by simp [Builtin.firstCells]) (hSi ▸ hnrun w.drew rfl)⟩
                · cases e
              · cases e
            · cases e
          · cases e
        · cases e
      · cases e
    · cases e
  · cases e
end Go.Ai
