import Derived.Test.YthcbefolifpbpaaAiDen
namespace Go.Ai
open Go
variable {P : Program} {β : Type}

theorem isInfo (t : TypeId) {i : TypeInfo} (h : P.info? t = some i) (w : World) : (typeInfo t).run P w = .ok i w := by simp [typeInfo, h]
theorem runSize (t : TypeId) {i : TypeInfo} (h : P.info? t = some i) (w : World) : (sizeOf t).run P w = .ok i.size w := by simp [sizeOf, isInfo t h]
theorem runAgg (t : TypeId) {d : TypeDesc} (h : P.underlying t = some d) (w : World) : (isAgg t).run P w = .ok (isAggD d) w := by
  simp only [isAgg, Sem.run_bind, run_underlying h, Result.andThen_ok]
  cases d <;> rfl
theorem runZero (t : TypeId) {i : TypeInfo} {v : Value} (h : P.info? t = some i) (hz : i.zero = some v) (w : World) : (zeroValue t).run P w = .ok v w := by
  simp [zeroValue, isInfo t h, hz]
theorem szK_some {t : TypeId} {K : Nat → Option β} {r : β} (h : szK P t K = some r) : ∃ i, P.info? t = some i ∧ K i.size = some r := by
  unfold szK at h
  split at h
  · exact ⟨_, by assumption, by simpa using h⟩
  · cases h
theorem unK_some {t : TypeId} {K : TypeDesc → Option β} {r : β} (h : unK P t K = some r) : ∃ d, P.underlying t = some d ∧ K d = some r := by
  unfold unK at h
  split at h
  · exact ⟨_, by assumption, h⟩
  · cases h
theorem ofS_den (ρ : Ren) {v : Value} (h : ofS v ≠ .bad) : (ofS v).den ρ = some v := by
  unfold ofS at h ⊢
  split <;> simp_all [AV.den]
theorem ofS_cell {v : Value} (h : ofS v ≠ .bad) : v.oneCell' = true := by
  unfold ofS at h
  split at h <;> simp_all [Value.oneCell']
theorem ofSs_den (ρ : Ren) {vs : List Value} {l : List AV} (h : ofSs vs = some l) : denL ρ l = some vs := by
  induction vs generalizing l with
  | nil => simp [ofSs] at h; subst h; exact denL_nil ρ
  | cons v vs ih =>
    simp only [ofSs] at h
    split at h
    · cases h
    · rename_i hb
      split at h
      · rename_i xs hx
        cases h
        exact denL_cons.2 ⟨v, vs, ofS_den ρ (fun e => hb e), ih hx, rfl⟩
      · cases h
theorem ofV_den (ρ : Ren) {v : Value} (h : ofV v ≠ .bad) : (ofV v).den ρ = some v := by
  unfold ofV at h ⊢
  split
  · rename_i cs
    split
    · rename_i xs hx
      simp [AV.den, ofSs_den ρ hx]
    · rename_i hx; simp [hx] at h
  · rename_i cs
    split
    · rename_i hc
      simp only [AV.den, denL_nil, Option.map_some]
      rw [Array.eq_empty_of_size_eq_zero hc]
    · rename_i hc; simp [hc] at h
  · rename_i h1 h2
    refine ofS_den ρ ?_
    split at h
    · exact absurd rfl (h1 _)
    · exact absurd rfl (h2 _)
    · exact h
theorem fSs_some {vs : List Value} {K : List AV → Option β} {r : β} (h : fSs vs K = some r) : ∃ l, (∀ ρ, denL ρ l = some vs) ∧ (∀ v ∈ vs, v.oneCell' = true) ∧ K l = some r := by
  induction vs generalizing K with
  | nil => exact ⟨[], fun ρ => denL_nil ρ, by simp, h⟩
  | cons v vs ih =>
    obtain ⟨h1, h2⟩ := fK_some h
    obtain ⟨l, h3, h4, h5⟩ := ih h2
    refine ⟨_, fun ρ => denL_cons.2 ⟨v, vs, ofS_den ρ h1, h3 ρ, rfl⟩, ?_, h5⟩
    intro x hx
    rcases List.mem_cons.1 hx with rfl | hx
    · exact ofS_cell h1
    · exact h4 x hx
theorem cells_den {ρ : Ren} {v : AV} {x : Value} (h : v.den ρ = some x) : denL ρ v.cells = some x.cells.toList := by
  have one : ∀ (v : AV) (x : Value), v.den ρ = some x → v.cells = [v] → x.cells = #[x] → denL ρ v.cells = some x.cells.toList := by
    intro v x h1 h2 h3
    rw [h2, h3]
    exact denL_cons.2 ⟨x, [], h1, denL_nil ρ, rfl⟩
  cases v
  case agg cs =>
    simp only [AV.den, Option.map_eq_some_iff] at h
    obtain ⟨l, h1, rfl⟩ := h
    simpa [AV.cells, Value.cells] using h1
  all_goals
    refine one _ _ h rfl ?_
    simp only [AV.den, Option.map_eq_some_iff, Option.bind_eq_some_iff, Option.some.injEq, reduceCtorEq] at h
    first
      | (subst h; rfl)
      | (obtain ⟨l, _, rfl⟩ := h; rfl)
      | (obtain ⟨l, _, m, _, rfl⟩ := h; rfl)
      | (obtain ⟨l, _, h⟩ := h; split at h <;> simp at h; subst h; rfl)
      | skip
theorem fV_some {v : Value} {K : AV → Option β} {r : β} (h : fV v K = some r) : ∃ a, (∀ ρ, a.den ρ = some v) ∧ K a = some r := by
  unfold fV at h
  split at h
  · obtain ⟨l, h1, _, h2⟩ := fSs_some h
    exact ⟨_, fun ρ => by simp [AV.den, h1 ρ], h2⟩
  · split at h
    · rename_i cs hc
      exact ⟨_, fun ρ => by simp only [AV.den, denL_nil, Option.map_some]; rw [Array.eq_empty_of_size_eq_zero hc], h⟩
    · cases h
  · obtain ⟨h1, h2⟩ := fK_some h
    exact ⟨_, fun ρ => ofS_den ρ h1, h2⟩
theorem zeroK_some {t : TypeId} {K : AV → Option β} {r : β} (h : zeroK P t K = some r) :
    ∃ i v a, P.info? t = some i ∧ i.zero = some v ∧ (∀ ρ, a.den ρ = some v) ∧ K a = some r := by
  unfold zeroK at h
  split at h
  · split at h
    · obtain ⟨a, h1, h2⟩ := fV_some h
      exact ⟨_, _, a, by assumption, by assumption, h1, h2⟩
    · cases h
  · cases h
theorem isSc_cell {ρ : Ren} {v : AV} {x : Value} (h : isSc v = true) (g : v.den ρ = some x) : x.oneCell' = true := by
  cases v <;> simp only [isSc, Bool.false_eq_true] at h <;> simp only [AV.den, Option.map_eq_some_iff, Option.bind_eq_some_iff, Option.some.injEq] at g <;>
    first
      | (subst g; rfl)
      | (obtain ⟨l, _, rfl⟩ := g; rfl)
      | (obtain ⟨l, _, m, _, rfl⟩ := g; rfl)
      | (obtain ⟨l, _, g⟩ := g; split at g <;> simp at g; subst g; rfl)

/-- operands read alike -/
def ORel (ρ : Ren) (e : Operand → AV) (ev : Operand → Value) : Prop := ∀ x, e x = .bad ∨ (e x).den ρ = some (ev x)
theorem ORel.den {ρ : Ren} {e : Operand → AV} {ev : Operand → Value} (h : ORel ρ e ev) {x : Operand} (g : e x ≠ .bad) : (e x).den ρ = some (ev x) := (h x).resolve_left g
theorem ORel.of {ρ : Ren} {e : Operand → AV} {ev : Operand → Value} (h : ORel ρ e ev) {x : Operand} {v : AV} (g : e x = v) (hv : v ≠ .bad) : v.den ρ = some (ev x) := by
  subst g; exact h.den hv
theorem ORel.mono {ρ ρ' : Ren} {e : Operand → AV} {ev : Operand → Value} (g : Ext ρ ρ') (h : ORel ρ e ev) : ORel ρ' e ev := fun x => (h x).imp id (den_mono g _ _)

theorem addLit (b o n : Nat) : Addr.add ⟨b, o, none⟩ n = ⟨b, o + n, none⟩ := Addr.add_lit b o n

/-! reading cells -/
theorem runCells {ρ : Ren} {w : World} {l : Loc} {cs : List AV} {ext : Nat} {ro : Bool} (hb : BlkRel ρ w l (.cells cs ext ro)) {off n : Nat} (h : off + n ≤ cs.length) :
    ∃ xs, denL ρ ((cs.drop off).take n) = some xs ∧ xs.length = n ∧ (loadCells ⟨l.blk, l.off + off, none⟩ n).run P w = .ok xs.toArray w := by
  obtain ⟨C, T, fz, ys, h1, h2, h3, h4, h5⟩ := hb
  have hl := denL_len h2
  refine ⟨(ys.drop off).take n, denL_take n (denL_drop off h2), by simp; omega, ?_⟩
  have hn : ((ys.drop off).take n).length = n := by simp; omega
  have := run_loadCells_list (P := P) w ⟨l.blk, l.off + off, none⟩ ((ys.drop off).take n) (fun j v hj => by
    rw [addLit]
    have hj' : j < n := by
      have := (List.getElem?_eq_some_iff.1 hj).1
      omega
    rw [List.getElem?_take_of_lt hj', List.getElem?_drop] at hj
    have := h3 _ _ hj
    simp only [World.cell?, h1]
    simpa [Nat.add_assoc] using this)
  rwa [hn] at this
theorem runCell {ρ : Ren} {w : World} {l : Loc} {cs : List AV} {ext : Nat} {ro : Bool} (hb : BlkRel ρ w l (.cells cs ext ro)) {off : Nat} {v : AV} (h : cs[off]? = some v) :
    ∃ x, v.den ρ = some x ∧ w.cell? ⟨l.blk, l.off + off, none⟩ = some x := by
  obtain ⟨C, T, fz, ys, h1, h2, h3, h4, h5⟩ := hb
  obtain ⟨x, g1, g2⟩ := denL_get h2 h
  refine ⟨x, g2, ?_⟩
  simp only [World.cell?, h1]
  simpa using h3 _ _ g1
theorem loadK_sound {ρ : Ren} {h : Heap} {w : World} (hr : HRel ρ h w) {t : TypeId} {a : AV} {K : AV → Option β} {r : β} (e : loadK P h t a K = some r) {x : Value} (hx : a.den ρ = some x) :
    ∃ v y, K v = some r ∧ v.den ρ = some y ∧ (Instr.loadAt t x).run P w = .ok y w ∧ ∃ b, x = .pointer (some b) ∧ (loadVar t b).run P w = .ok y w := by
  unfold loadK at e
  split at e
  · rename_i k off
    simp only [AV.den, Option.map_eq_some_iff] at hx
    obtain ⟨l, hl, rfl⟩ := hx
    obtain ⟨b, hb, e⟩ := hget_some e
    obtain ⟨l', hl', hrel⟩ := hr.blk k b hb
    rw [hl] at hl'; cases hl'
    cases b with
    | map es ro => cases e
    | cells cs ext ro =>
      obtain ⟨d, hd, e⟩ := unK_some e
      cases hagg : isAggD d with
      | true =>
        simp only [hagg] at e
        obtain ⟨i, hi, e⟩ := szK_some e
        obtain ⟨hle, e⟩ := lcut_some e
        obtain ⟨xs, g1, _, g2⟩ := runCells (P := P) hrel hle
        refine ⟨_, .agg xs.toArray, e, by simp [AV.den, g1], ?_, _, rfl, ?_⟩
        · simp [Instr.loadAt, Instr.sureAddr, loadVar, runAgg t hd, hagg, runSize t hi, g2]
        · simp [loadVar, runAgg t hd, hagg, runSize t hi, g2]
      | false =>
        simp only [hagg] at e
        obtain ⟨v, hv, e⟩ := lget_some e
        obtain ⟨y, g1, g2⟩ := runCell hrel hv
        refine ⟨v, y, e, g1, ?_, _, rfl, ?_⟩
        · simp [Instr.loadAt, Instr.sureAddr, loadVar, runAgg t hd, hagg, g2]
        · simp [loadVar, runAgg t hd, hagg, g2]
  · cases e

/-! writing cells -/
theorem setCells_heap (b : Nat) : ∀ (vs : List Value) (o : Nat) (w : World) (j : Nat), j ≠ b → (w.setCells b o vs).heap[j]? = w.heap[j]?
  | [], _, _, _, _ => rfl
  | v :: vs, o, w, j, h => by rw [World.setCells, setCells_heap b vs (o + 1) _ j h, RowKit.Below.heap_setCell _ _ _ _ h]
theorem setCells_size (b : Nat) : ∀ (vs : List Value) (o : Nat) (w : World), (w.setCells b o vs).heap.size = w.heap.size
  | [], _, _ => rfl
  | v :: vs, o, w => by rw [World.setCells, setCells_size b vs (o + 1)]; simp [World.setCell]
theorem setCells_rest (b : Nat) : ∀ (vs : List Value) (o : Nat) (w : World), (w.setCells b o vs).tape = w.tape ∧ (w.setCells b o vs).os = w.os ∧ (w.setCells b o vs).output = w.output
  | [], _, _ => ⟨rfl, rfl, rfl⟩
  | v :: vs, o, w => by rw [World.setCells]; exact setCells_rest b vs (o + 1) _
theorem setCells_blk (b : Nat) : ∀ (vs : List Value) (o : Nat) (w : World) (C : Array Value) (T : TypeId) (fz : Nat × Nat), w.heap[b]? = some (.cells C T fz) → o + vs.length ≤ C.size →
    ∃ C', (w.setCells b o vs).heap[b]? = some (.cells C' T fz) ∧ C'.size = C.size ∧ (∀ i, i < o → C'[i]? = C[i]?) ∧ (∀ i, o + vs.length ≤ i → C'[i]? = C[i]?) ∧ ∀ j (x : Value), vs[j]? = some x → C'[o + j]? = some x
  | [], _, _, C, T, fz, h, _ => ⟨C, h, rfl, fun _ _ => rfl, fun _ _ => rfl, by simp⟩
  | v :: vs, o, w, C, T, fz, h, hle => by
    have h1 : (w.setCell ⟨b, o, none⟩ v).heap[b]? = some (.cells (C.setIfInBounds o v) T fz) := by
      simp only [World.setCell, Array.getElem?_modify]
      simp [h]
    obtain ⟨C', g1, g2, g3, g4, g5⟩ := setCells_blk b vs (o + 1) _ _ T fz h1 (by simp at hle ⊢; omega)
    refine ⟨C', by rw [World.setCells]; exact g1, by simpa using g2, ?_, ?_, ?_⟩
    · intro i hi
      rw [g3 i (by omega), Array.getElem?_setIfInBounds, if_neg (by omega)]
    · intro i hi
      simp at hi
      rw [g4 i (by omega), Array.getElem?_setIfInBounds, if_neg (by omega)]
    · intro j x hj
      cases j with
      | zero =>
        simp at hj; subst hj
        rw [show o + 0 = o from rfl, g3 o (by omega), Array.getElem?_setIfInBounds]
        simp at hle ⊢; omega
      | succ j =>
        have := g5 j x (by simpa using hj)
        rwa [show o + (j + 1) = o + 1 + j by omega]
/-- a row of cells written into a block of ours -/
theorem storeCK_sound {ρ : Ren} {h : Heap} {w : World} (hr : HRel ρ h w) {k off : Nat} {vs : List AV} {K : Heap → Option β} {r : β} (e : storeCK h k off vs K = some r) {l : Loc} (hl : ρ k = some l)
    {xs : List Value} (hx : denL ρ vs = some xs) : ∃ h' w', K h' = some r ∧ Stp ρ h w ρ h' w' ∧ (storeCells ⟨l.blk, l.off + off, none⟩ xs).run P w = .ok () w' := by
  unfold storeCK at e
  split at e
  · rw [denL_nil] at hx; cases hx
    exact ⟨h, w, e, Stp.refl hr, rfl⟩
  · obtain ⟨b, hb, e⟩ := hget_some e
    obtain ⟨l', hl', hrel⟩ := hr.blk k b hb
    rw [hl] at hl'; cases hl'
    split at e
    · rename_i cs ext
      obtain ⟨hle, hsc, e⟩ := lput_some e
      rw [hputK_eq] at e
      have hrel' := hrel
      obtain ⟨C, T, fz, ys, h1, h2, h3, h4, h5⟩ := hrel'
      have hlen := denL_len h2
      have hlx := denL_len hx
      have hC : ∀ i, i < ys.length → (l.off + i < C.size) := by
        intro i hi
        have := h3 i _ (List.getElem?_eq_getElem hi)
        exact (Array.getElem?_eq_some_iff.1 this).1
      have hsz : xs.length ≠ 0 → l.off + off + xs.length ≤ C.size := by
        intro hne
        have := hC (off + xs.length - 1) (by omega)
        omega
      have hone : ∀ x ∈ xs, x.oneCell' = true := by
        intro x hm
        obtain ⟨j, hj, rfl⟩ := List.mem_iff_getElem.1 hm
        obtain ⟨y, g1, g2⟩ := denL_get hx (List.getElem?_eq_getElem (show j < vs.length by omega))
        rw [List.getElem?_eq_getElem hj] at g1; cases g1
        exact isSc_cell (hsc _ (List.getElem_mem _)) g2
      have hrun := run_storeCells_cells (P := P) l.blk (l.off + off) xs 0 w
        (fun j hj => by
          simp only [World.cell?, h1, Nat.add_zero]
          have := hsz (by omega)
          simp; omega)
        (fun j hj => by
          have := hsz (by omega)
          have h4 := h4 rfl
          simp only [World.frozen?, h1, Nat.add_zero]
          simp; omega) hone
      rw [Nat.add_zero] at hrun
      refine ⟨_, _, e, ?_, hrun⟩
      by_cases hne : xs.length = 0
      · have hxs : xs = [] := List.length_eq_zero_iff.1 hne
        have hvs : vs = [] := List.length_eq_zero_iff.1 (by omega)
        subst hxs hvs
        refine Stp.put hr hb hl rfl rfl (fun _ _ => rfl) rfl rfl rfl ?_
        simpa [World.setCells] using hrel
      · obtain ⟨C', g1, g2, g3, g4, g5⟩ := setCells_blk l.blk xs (l.off + off) w C T fz h1 (hsz hne)
        obtain ⟨e1, e2, e3⟩ := setCells_rest l.blk xs (l.off + off) w
        refine Stp.put hr hb hl rfl (setCells_size _ _ _ _) (fun j hj => setCells_heap _ _ _ _ _ hj) e1 e2 e3 ?_
        refine ⟨C', T, fz, ys.take off ++ xs ++ ys.drop (off + xs.length), g1, ?_, ?_, ?_, ?_⟩
        · rw [hlx]
          exact denL_app (denL_app (denL_take off h2) hx) (denL_drop _ h2)
        · intro i x hi
          have hto : (ys.take off).length = off := by simp; omega
          by_cases c1 : i < off
          · rw [List.append_assoc, List.getElem?_append_left (by omega), List.getElem?_take_of_lt c1] at hi
            rw [g3 _ (by omega)]
            exact h3 i x hi
          · by_cases c2 : i < off + xs.length
            · rw [List.append_assoc, List.getElem?_append_right (by omega), hto, List.getElem?_append_left (by omega)] at hi
              have := g5 _ _ hi
              rwa [show l.off + off + (i - off) = l.off + i by omega] at this
            · rw [List.getElem?_append_right (by simp; omega)] at hi
              rw [show (ys.take off ++ xs).length = off + xs.length by simp; omega, List.getElem?_drop, show off + xs.length + (i - (off + xs.length)) = i by omega] at hi
              rw [g4 _ (by omega)]
              exact h3 i x hi
        · rw [g2]; exact h4
        · rw [g2]; exact h5
    · cases e
theorem storeK_sound {ρ : Ren} {h : Heap} {w : World} (hr : HRel ρ h w) {t : TypeId} {a v : AV} {K : Heap → Option β} {r : β} (e : storeK P h t a v K = some r)
    {x y : Value} (hx : a.den ρ = some x) (hy : v.den ρ = some y) : ∃ h' w', K h' = some r ∧ Stp ρ h w ρ h' w' ∧ (Instr.storeAt t x y).run P w = .ok () w' := by
  unfold storeK at e
  split at e
  · rename_i k off
    simp only [AV.den, Option.map_eq_some_iff] at hx
    obtain ⟨l, hl, rfl⟩ := hx
    obtain ⟨i, hi, e⟩ := szK_some e
    simp only [cellsK_eq, llen_eq, Nat.zero_add] at e
    split at e
    · rename_i hn
      have hn := Nat.eq_of_beq_eq_true hn
      have hc := cells_den hy
      obtain ⟨h', w', e1, e2, e3⟩ := storeCK_sound (P := P) hr e hl hc
      refine ⟨h', w', e1, e2, ?_⟩
      have hs : y.cells.size = i.size := by rw [hn, ← denL_len hc]; simp
      simp [Instr.storeAt, Instr.sureAddr, storeVar, runSize t hi, hs, e3]
    · cases e
  · cases e
end Go.Ai
