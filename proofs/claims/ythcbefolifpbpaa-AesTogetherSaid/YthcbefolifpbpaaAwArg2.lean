/- Runs with arguments in memory; a slice of arrays of bytes as an argument. No program. No condition but those in the theorems. -/
import Derived.Test.YthcbefolifpbpaaAwArgs
import Derived.DataReads
import Derived.ChangeArms
import Derived.WideShapes
namespace Go.Aw
open Go Go.Ai Go.RowKit
set_option linter.unusedSimpArgs false
set_option linter.unusedVariables false
/-- what a run over a heap that is not to be written to comes to -/
theorem calls_of_at {E : Env} (ok : E.Ok) {d : Nat} {f : FuncId} {fn : Func} (ho : E.ora f = none) (hf : E.P.funcs[f]? = some fn) (hb : fn.body.isSome = true) {ρ₀ : Ren} {h₀ : Heap} {w : World} (hr : HRel ρ₀ h₀ w) (hno : ∀ b, ¬ Own ρ₀ h₀ b)
    {avs : List AV} {xs : List Value} (hx : denL ρ₀ avs = some xs) {h' : Heap} (hk : callD E (d + 1) f avs h₀ = some (.bool true, h')) : Calls E.P f xs.toArray w fun e w' => e = .returned (.bool true) ∧ Below w.heap.size w w' := by
  obtain ⟨c, hb⟩ := Option.isSome_iff_exists.1 hb
  have hf : E.P.funcs.toList[f]? = some fn := by simpa using hf
  have := callD_body ok (callD_ok ok d) ho hf hb avs h₀ _ h' hk ρ₀ w xs hx hr
  refine this.mono ?_
  rintro e w' ⟨ρ', z, he, hz, hs⟩
  simp only [AV.den, Option.some.injEq] at hz
  subst hz
  exact ⟨he, hs.os, hs.tape, hs.output, hs.size, fun k hk => hs.frm k hk (hno k)⟩
/-- one block that is read alone -/
def heap1 (cs : List AV) : Heap := (⟨0, .leaf⟩ : Heap).new (.cells cs 0 true)
def ren1 (l : Ai.Loc) : Ren := fun k => if k = 0 then some l else none
theorem heap1_get (cs : List AV) : (heap1 cs).get 0 = some (.cells cs 0 true) := new_same (⟨0, .leaf⟩ : Heap) _
theorem heap1_next (cs : List AV) : (heap1 cs).next = 1 := rfl
theorem heap1_rel {cs : List AV} {l : Ai.Loc} {w : World} (hb : BlkRel (ren1 l) w l (.cells cs 0 true)) : HRel (ren1 l) (heap1 cs) w := by
  have g : ∀ {k b}, (heap1 cs).get k = some b → k = 0 ∧ b = .cells cs 0 true := by
    intro k b e
    by_cases hk : k = 0
    · subst hk; rw [heap1_get] at e; cases e; exact ⟨rfl, rfl⟩
    · have : (heap1 cs).get k = (⟨0, .leaf⟩ : Heap).get k := new_ne _ _ hk
      rw [this] at e
      simp [Heap.get, get_leaf] at e
  refine ⟨fun k b e => ?_, fun k hk => ?_, fun k j b c l m e1 e2 _ _ _ hne => ?_⟩
  · obtain ⟨rfl, rfl⟩ := g e
    exact ⟨l, by simp [ren1], hb⟩
  · rw [heap1_next] at hk
    simp [ren1]; omega
  · obtain ⟨rfl, _⟩ := g e1
    obtain ⟨rfl, _⟩ := g e2
    exact absurd rfl hne
theorem heap1_own (cs : List AV) (l : Ai.Loc) (b : Nat) : ¬ Own (ren1 l) (heap1 cs) b := by
  rintro ⟨k, c, m, e, hrw, _⟩
  by_cases hk : k = 0
  · subst hk; rw [heap1_get] at e; cases e; exact absurd hrw (by simp [Blk.rw])
  · have : (heap1 cs).get k = (⟨0, .leaf⟩ : Heap).get k := new_ne _ _ hk
    rw [this] at e
    simp [Heap.get, get_leaf] at e
theorem trod_byte {H : Type} {enc : TypeId × Value → H} {P : Program} {w : World} {base : Nat} {sp : Nat → Bool} {held : Bool} {fuel u : Nat} {cs : List Value} {y : DataW H × List MemPlace} (hu : P.underlying u = some (.int .u8)) (h : DataW.trod enc P w base sp held fuel u cs = some y) : ∃ n : Nat, n < 256 ∧ cs = [.int .u8 (n : Int)] := by
  obtain ⟨z, rfl, _, h2⟩ := DataW.trod_int hu h
  simp [Lit.wf, IntKind.min, IntKind.max, IntKind.signed, IntKind.bits] at h2
  exact ⟨z.toNat, by omega, by rw [Int.toNat_of_nonneg (by omega)]⟩
theorem trod_bytes {H : Type} {enc : TypeId × Value → H} {P : Program} {w : World} {base : Nat} {sp : Nat → Bool} {held : Bool} {fuel e u m : Nat} {cs : List Value} {y : DataW H × List MemPlace} (he : P.underlying e = some (.array m u)) (hu : P.underlying u = some (.int .u8)) (hc : P.cellsOf u = 1) (h : DataW.trod enc P w base sp held fuel e cs = some y) (hl : cs.length = m) :
    ∀ i, i < m → ∃ n : Nat, n < 256 ∧ cs[i]? = some (.int .u8 (n : Int)) := by
  cases fuel with
  | zero => simp [DataW.trod] at h
  | succ q =>
    unfold DataW.trod at h
    rw [he] at h
    simp only [hc, Nat.mul_one] at h
    split at h
    · simp only [Option.map_eq_some_iff] at h
      obtain ⟨xs, hx, _⟩ := h
      intro i hi
      have hlen := mapM_some_length hx
      simp only [List.length_range] at hlen
      have := mapM_some_get hx i i (by simp [hi])
      rw [List.getElem?_eq_getElem (by omega)] at this
      obtain ⟨n, hn, e⟩ := trod_byte hu this
      refine ⟨n, hn, ?_⟩
      rw [List.take_one, List.head?_drop] at e
      cases hg : cs[i]? with
      | none => rw [hg] at e; simp at e
      | some z => rw [hg] at e; simp at e; rw [e]
    · cases h
/-- a slice of arrays of bytes, as an argument -/
theorem slice_arg {H : Type} {enc : TypeId × Value → H} {P : Program} {w : World} {r : Reach} {b0 base : Nat} {sp : Nat → Bool} {held : Bool} {t e u m : Nat} {v : Value} {d : DataW H} {ps : List MemPlace}
    (ht : P.underlying t = some (.slice e)) (he : P.underlying e = some (.array m u)) (hu : P.underlying u = some (.int .u8)) (hc : P.cellsOf u = 1) (hm : P.cellsOf e = m) (hm0 : 0 < m) (hval : Value.okWide P w r b0 t v) (hd : DataW.Trod enc P w base sp held t v d ps) :
    v = .slice none 0 0 ∨ ∃ (l : Ai.Loc) (len cap : Nat) (L : List Nat), v = .slice (some ⟨l.blk, l.off, none⟩) len cap ∧ L.length = m * len ∧ (∀ i, L.getD i 0 < 256) ∧ BlkRel (ren1 l) w l (.cells (B L) 0 true) := by
  obtain ⟨a, len, cap, rfl⟩ := WideShapes.okWide_slice ht hval
  obtain ⟨fuel, hf⟩ := hd
  have hok : Cell.ok P w r b0 t (.slice a len cap) := by
    have := hval
    simp only [Value.okWide, ht, Cell.okWide] at this
    exact this
  rcases DataW.trod_slice ht hf with ⟨h, _⟩ | ⟨a', len', cap', elems, rest, n, _, h, hx, _, hl, hmx, hlen, hel, _⟩
  · simp [Value.cells] at h
    obtain ⟨rfl, rfl, rfl⟩ := h
    exact .inl rfl
  · simp [Value.cells] at h
    obtain ⟨rfl, rfl, rfl⟩ := h
    obtain ⟨blk, off, spot⟩ := a'
    simp only [Cell.ok, ht] at hok
    obtain ⟨_, _, _, hsp, row, cells, hsh, _⟩ := hok
    simp only at hsp
    subst hsp
    obtain ⟨C, T, fz, hC⟩ : ∃ C T fz, w.heap[blk]? = some (.cells C T fz) := by
      unfold World.shape? at hsh
      simp only at hsh
      split at hsh
      · rename_i c t f hh; exact ⟨_, _, _, hh⟩
      all_goals first | cases hsh | (simp at hsh)
    have hcell : ∀ i, i < m * len → ∃ n : Nat, n < 256 ∧ C[off + i]? = some (.int .u8 (n : Int)) := by
      intro i hi
      have hq : i / m < len := Nat.div_lt_of_lt_mul hi
      have hee := hel (i / m) hq
      rw [hm, List.getElem?_eq_getElem (by omega)] at hee
      simp only [Option.bind_eq_some_iff] at hee
      obtain ⟨cs, h1, h2⟩ := hee
      obtain ⟨_, h3, h4⟩ := World.cells?_some h1
      obtain ⟨n, hn, e1⟩ := trod_bytes he hu hc h2 h3 (i % m) (Nat.mod_lt _ hm0)
      refine ⟨n, hn, ?_⟩
      rw [← e1, ← h4 (i % m) (Nat.mod_lt _ hm0)]
      have e2 : off + i / m * m + i % m = off + i := by
        have := Nat.div_add_mod' i m
        omega
      have e3 : ((⟨blk, off, none⟩ : Addr).add (i / m * m)).add (i % m) = ⟨blk, off + i, none⟩ := by
        rw [Addr.add_lit, Addr.add_lit, e2]
      rw [e3]
      simp [World.cell?, hC]
    let L : List Nat := (List.range (m * len)).map fun i => numV ((C[off + i]?).getD (.bool false))
    have hL : ∀ i, i < m * len → ∃ n : Nat, n < 256 ∧ C[off + i]? = some (.int .u8 (n : Int)) ∧ L[i]? = some n := by
      intro i hi
      obtain ⟨n, hn, e1⟩ := hcell i hi
      refine ⟨n, hn, e1, ?_⟩
      simp only [L, List.getElem?_map, List.getElem?_range hi, Option.map_some, e1, Option.getD_some, numV, Int.toNat_natCast]
    have hLl : L.length = m * len := by simp [L]
    refine .inr ⟨⟨blk, off, cap⟩, len, cap, L, rfl, hLl, fun i => ?_, ?_⟩
    · by_cases hi : i < m * len
      · obtain ⟨n, hn, _, e1⟩ := hL i hi
        rw [List.getD_eq_getElem?_getD, e1]; exact hn
      · rw [List.getD_eq_getElem?_getD, List.getElem?_eq_none (by omega)]; simp
    · refine ⟨C, T, fz, L.map (fun n : Nat => Value.int .u8 (n : Int)), hC, ?_, ?_, (fun h => by cases h), (fun h => by exact absurd rfl h)⟩
      · have key : ∀ l : List Nat, (∀ x ∈ l, x < 256) → denL (ren1 ⟨blk, off, cap⟩) (B l) = some (l.map (fun n : Nat => Value.int .u8 (n : Int))) := by
          intro l
          induction l with
          | nil => intro _; rfl
          | cons x l ih =>
            intro hx
            have := hx x (by simp)
            show denL _ (b8 x :: B l) = _
            rw [denL, ih fun y hy => hx y (by simp [hy])]
            simp only [b8, AV.den, Nat.mod_eq_of_lt this, Option.bind_some, Option.map_some, List.map_cons]
        refine key L fun x hx => ?_
        obtain ⟨i, hi⟩ := List.mem_iff_getElem?.1 hx
        have hlt := (List.getElem?_eq_some_iff.1 hi).1
        obtain ⟨n, hn, _, e1⟩ := hL i (by omega)
        rw [e1] at hi; cases hi; exact hn
      · intro i x hx
        rw [List.getElem?_map] at hx
        have hlt : i < m * len := by
          cases hg : L[i]? with
          | none => rw [hg] at hx; cases hx
          | some z => have := (List.getElem?_eq_some_iff.1 hg).1; omega
        obtain ⟨n, hn, e1, e2⟩ := hL i hlt
        rw [e2] at hx; cases hx
        exact e1
end Go.Aw
