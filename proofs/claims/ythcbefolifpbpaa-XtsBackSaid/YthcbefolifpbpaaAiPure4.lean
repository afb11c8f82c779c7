import Derived.Test.YthcbefolifpbpaaAiPure3
namespace Go.Ai
open Go
set_option linter.unusedSimpArgs false
variable {P : Program} {β : Type}

theorem foldl_lay (off : Nat) : ∀ (vs : List Value) (k : Nat) (C : Array Value), off + k + vs.length ≤ C.size →
    ((vs.zipIdx k).foldl (fun cs (c, j) => cs.setIfInBounds (off + j) c) C).toList = C.toList.take (off + k) ++ vs ++ C.toList.drop (off + k + vs.length)
  | [], k, C, _ => by simp
  | v :: vs, k, C, h => by
    simp only [List.length_cons] at h
    have ih := foldl_lay off vs (k + 1) (C.setIfInBounds (off + k) v) (by simp; omega)
    simp only [List.zipIdx_cons, List.foldl_cons, ih]
    have hk : off + k < C.toList.length := by simp; omega
    have e1 : (C.setIfInBounds (off + k) v).toList = C.toList.set (off + k) v := by simp
    rw [e1]
    have e2 : (C.toList.set (off + k) v).take (off + (k + 1)) = C.toList.take (off + k) ++ [v] := by
      rw [show off + (k + 1) = (off + k) + 1 by omega, List.take_add_one, List.take_set_of_le (Nat.le_refl _), List.getElem?_set_self hk]
      rfl
    have e3 : (C.toList.set (off + k) v).drop (off + (k + 1) + vs.length) = C.toList.drop (off + k + (v :: vs).length) := by
      rw [List.drop_set_of_lt (by omega)]
      congr 1; simp; omega
    rw [e2, e3]
    simp
theorem fill_lay {off : Nat} {v : Value} {C : Array Value} (h : off + v.cells.size ≤ C.size) :
    (v.cells.zipIdx.foldl (fun cs (c, j) => cs.setIfInBounds (off + j) c) C) = (C.toList.take off ++ v.cells.toList ++ C.toList.drop (off + v.cells.size)).toArray := by
  apply Array.ext'
  rw [← Array.foldl_toList, Array.toList_zipIdx]
  have := foldl_lay off v.cells.toList 0 C (by simpa using h)
  simpa using this
theorem fillK_some {ρ : Ren} {place : Nat → Option (Nat × Nat)} {is : List Nat} {vs : List AV} {xs : List Value} (hv : denL ρ vs = some xs) {cells : List AV} {X : List Value} (hX : denL ρ cells = some X)
    {K : List AV → Option β} {r : β} (h : fillK place (is.zip vs) cells K = some r) : ∃ cells' X', K cells' = some r ∧ denL ρ cells' = some X' ∧ Instr.fill place X.toArray (is.zip xs) = some X'.toArray ∧ (∀ v ∈ X', v.oneCell' = true ∨ v ∈ X) := by
  induction is generalizing vs xs cells X with
  | nil => exact ⟨cells, X, by simpa [fillK] using h, hX, by simp [Instr.fill], fun v hv => .inr hv⟩
  | cons i is ih =>
    cases vs with
    | nil => rw [denL_nil] at hv; cases hv; exact ⟨cells, X, by simpa [fillK] using h, hX, by simp [Instr.fill], fun v hv => .inr hv⟩
    | cons v vs =>
      obtain ⟨x, xs', h1, h2, rfl⟩ := denL_cons.1 hv
      simp only [List.zip_cons_cons, fillK] at h
      split at h
      · cases h
      · rename_i off size hpl
        simp only [cellsK_eq, llen_eq, Nat.zero_add] at h
        split at h
        · rename_i hn
          have hn := Nat.eq_of_beq_eq_true hn
          replace h := lput_some h
          obtain ⟨hle, hsc, h⟩ := h
          have hc := cells_den h1
          have hlc := denL_len hc
          have hlX := denL_len hX
          have hnew := denL_app (denL_app (denL_take off hX) hc) (denL_drop (off + v.cells.length) hX)
          obtain ⟨c', X', g1, g2, g3, g4⟩ := ih h2 hnew h
          have hxs : x.cells.size = size := by rw [← hn, ← hlc]; simp
          have hxl : x.cells.toList.length = v.cells.length := hlc
          refine ⟨c', X', g1, g2, ?_, ?_⟩
          · simp only [List.zip_cons_cons, Instr.fill, hpl]
            have c1 : ¬ ((x.cells.size ≠ size || decide (off + x.cells.size > X.toArray.size)) = true) := by
              simp at hxl ⊢; omega
            rw [if_neg c1, fill_lay (by simp at hxl ⊢; omega)]
            simp at hxl
            rw [hxl]
            simpa using g3
          · intro y hy
            rcases g4 y hy with g | g
            · exact .inl g
            · simp only [List.mem_append] at g
              rcases g with (g | g) | g
              · exact .inr (List.mem_of_mem_take g)
              · left
                obtain ⟨j, hj, rfl⟩ := List.mem_iff_getElem.1 g
                obtain ⟨y, q1, q2⟩ := denL_get hc (List.getElem?_eq_getElem (show j < v.cells.length by omega))
                rw [List.getElem?_eq_getElem hj] at q1; cases q1
                exact isSc_cell (hsc _ (List.getElem_mem _)) q2
              · exact .inr (List.mem_of_mem_drop g)
        · cases h
theorem parts_vals (parts : Array (Nat × Operand)) (ev : Operand → Value) : (parts.map fun (i, x) => (i, ev x)).toList = (parts.toList.map (·.1)).zip ((parts.toList.map (·.2)).map ev) := by
  rw [Array.toList_map]
  induction parts.toList with
  | nil => rfl
  | cons p ps ih => simp [ih]
theorem buildK_sound {ρ : Ren} {t : TypeId} {is : List Nat} {vs : List AV} {xs : List Value} (hv : denL ρ vs = some xs) {K : AV → Option β} {r : β} (h : buildK P t (is.zip vs) K = some r)
    (parts : Array (Nat × Value)) (hp : parts.toList = is.zip xs) : ∃ v z, K v = some r ∧ v.den ρ = some z ∧ ∀ w, (Instr.build t parts).run P w = .ok z w := by
  unfold buildK at h
  replace h := zeroK_some h
  obtain ⟨i, zv, z, hi, hz, hd, h⟩ := h
  replace h := unK_some h
  obtain ⟨d, hu, h⟩ := h
  split at h
  · rename_i fs
    split at h
    · rename_i hall
      rw [cellsK_eq] at h
      obtain ⟨c, X, g1, g2, g3, _⟩ := fillK_some hv (cells_den (hd ρ)) h
      refine ⟨_, .agg X.toArray, g1, by simp [AV.den, g2], fun w => ?_⟩
      have hm : (fs.mapM (m := Sem) fun f => do pure (f.offset, ← sizeOf f.type)).run P w = .ok (fs.map fun f => (f.offset, P.cellsOf f.type)) w := by
        rw [Array.mapM_eq_mapM_toList]
        have hl : ∀ l : List Field, (∀ f ∈ l, (P.info? f.type).isSome = true) → (l.mapM (m := Sem) fun f => do pure (f.offset, ← sizeOf f.type)).run P w = .ok (l.map fun f => (f.offset, P.cellsOf f.type)) w := by
          intro l
          induction l with
          | nil => intro _; rfl
          | cons f rest ih =>
            intro hf
            obtain ⟨ti, hti⟩ := Option.isSome_iff_exists.1 (hf f (by simp))
            have ih := ih (fun g hg => hf g (by simp [hg]))
            simp only [List.mapM_cons, Sem.run_bind, runSize f.type hti, Result.andThen_ok, Sem.run_pure, ih, List.map_cons]
            simp [Program.cellsOf, hti]
        rw [Sem.run_map, hl fs.toList (fun f hf => List.all_eq_true.1 hall f hf)]
        simp only [Result.andThen_ok]
        congr 1
        apply Array.ext'
        simp
      have hplace : fsPlace P fs.toList = ((fs.map fun (f : Field) => (f.offset, P.cellsOf f.type))[·]?) := by
        funext i
        unfold fsPlace
        rw [Array.getElem?_map, ← Array.getElem?_toList]
        cases hfi : fs.toList[i]? with
        | none => rfl
        | some f =>
          obtain ⟨ti, hti⟩ := Option.isSome_iff_exists.1 (List.all_eq_true.1 hall f (List.mem_of_getElem? hfi))
          simp [hti, Program.cellsOf]
      rw [hplace] at g3
      simp only [Instr.build, Sem.run_bind, runZero t hi hz, Result.andThen_ok, run_underlying hu, hm, hp]
      have e : zv.cells = (zv.cells.toList).toArray := by simp
      rw [e, g3]
      simp
    · cases h
  · rename_i n elem
    replace h := szK_some h
    obtain ⟨ie, hie, h⟩ := h
    rw [cellsK_eq] at h
    obtain ⟨c, X, g1, g2, g3, _⟩ := fillK_some hv (cells_den (hd ρ)) h
    refine ⟨_, .agg X.toArray, g1, by simp [AV.den, g2], fun w => ?_⟩
    simp only [Instr.build, Sem.run_bind, runZero t hi hz, Result.andThen_ok, run_underlying hu, runSize elem hie, hp]
    have e : zv.cells = (zv.cells.toList).toArray := by simp
    rw [e, g3]
    simp
  · cases h
end Go.Ai
