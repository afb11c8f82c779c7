import Derived.Test.YthcbefolifpbpaaAiOps2
namespace Go.Ai
open Go
set_option linter.unusedSimpArgs false
variable {P : Program} {β : Type}

theorem den_inj_sc {ρ : Ren} {a b : AV} {x y : Value} {c : Bool} (h : scEq a b = some c) (ha : a.den ρ = some x) (hb : b.den ρ = some y) :
    ∀ d : TypeDesc, ((∃ k, d = .int k) ∧ (∃ k n, a = .int k n)) ∨ (d = .string ∧ ∃ s, a = .str s) ∨ (d = .bool ∧ ∃ s, a = .bool s) → Instr.sameNow d x y = some c := by
  intro d hd
  unfold scEq at h
  split at h
  · cases den_int ha; cases den_int hb
    rcases hd with ⟨⟨k, rfl⟩, _⟩ | ⟨rfl, s, hs⟩ | ⟨rfl, s, hs⟩
    · simpa [Instr.sameNow, ieq_eq] using h
    · cases hs
    · cases hs
  · cases den_bool ha; cases den_bool hb
    rcases hd with ⟨⟨k, rfl⟩, _, _, hs⟩ | ⟨rfl, s, hs⟩ | ⟨rfl, s, hs⟩
    · cases hs
    · cases hs
    · simpa [Instr.sameNow] using h
  · rename_i s u
    cases den_str ha; cases den_str hb
    rcases hd with ⟨⟨k, rfl⟩, _, _, hs⟩ | ⟨rfl, s', hs⟩ | ⟨rfl, s', hs⟩
    · cases hs
    · have e : ((⟨s.toArray⟩ : ByteArray) == ⟨u.toArray⟩) = (s == u) := by
        have := beq_toListBytes ⟨s.toArray⟩ ⟨u.toArray⟩
        rw [this]; exact strEq
      simpa [Instr.sameNow, e] using h
    · cases hs
  · cases h
/-- a key of a kind that is held against others at once -/
def KeyOk (d : TypeDesc) (a : AV) : Prop := ((∃ k, d = .int k) ∧ (∃ k n, a = .int k n)) ∨ (d = .string ∧ ∃ s, a = .str s) ∨ (d = .bool ∧ ∃ s, a = .bool s)
theorem keyK_some {t : TypeId} {a : AV} {K : Unit → Option β} {r : β} (h : keyK P t a K = some r) : ∃ d, P.underlying t = some d ∧ KeyOk d a ∧ K () = some r := by
  unfold keyK at h
  replace h := unK_some h
  obtain ⟨d, hd, h⟩ := h
  refine ⟨d, hd, ?_⟩
  split at h
  · exact ⟨.inl ⟨⟨_, rfl⟩, _, _, rfl⟩, h⟩
  · exact ⟨.inr (.inl ⟨rfl, _, rfl⟩), h⟩
  · exact ⟨.inr (.inr ⟨rfl, _, rfl⟩), h⟩
  · cases h
theorem run_checkKey {t : TypeId} {d : TypeDesc} {a : AV} (hd : P.underlying t = some d) (hk : KeyOk d a) (e : Bool) (x : Value) (w : World) : (Instr.checkKey e 10000 t x).run P w = .ok () w := by
  rw [show (10000 : Nat) = 9999 + 1 from rfl, Instr.checkKey]
  rcases hk with ⟨⟨k, rfl⟩, _⟩ | ⟨rfl, _⟩ | ⟨rfl, _⟩ <;> simp [run_underlying hd]
theorem findK_sound {ρ : Ren} {es : List (AV × AV)} {a : AV} {K : Option AV → Option β} {r : β} (h : findK es a K = some r) {L : List MapEntry} (hm : MRel ρ es L) {x : Value} (hx : a.den ρ = some x) {d : TypeDesc} (hk : KeyOk d a) (i : Nat) :
    ∃ res, K res = some r ∧ ((res = none ∧ Instr.findNow d x L i = some none) ∨ ∃ v y j, res = some v ∧ v.den ρ = some y ∧ Instr.findNow d x L i = some (some (j, y))) := by
  induction es generalizing L i with
  | nil => cases L with
    | nil => exact ⟨none, h, .inl ⟨rfl, rfl⟩⟩
    | cons _ _ => exact hm.elim
  | cons p es ih =>
    obtain ⟨k, v⟩ := p
    cases L with
    | nil => exact hm.elim
    | cons e L =>
      obtain ⟨h1, h2, h3⟩ := hm
      simp only [findK] at h
      split at h
      · rename_i hs
        exact ⟨some v, h, .inr ⟨v, e.val, i, rfl, h2, by simp [Instr.findNow, den_inj_sc hs hx h1 d hk]⟩⟩
      · rename_i hs
        obtain ⟨res, g1, g2⟩ := ih h h3 (i + 1)
        refine ⟨res, g1, ?_⟩
        simp only [Instr.findNow, den_inj_sc hs hx h1 d hk]
        exact g2
      · cases h
theorem lookupK_sound {ρ : Ren} {h : Heap} {w : World} (hr : HRel ρ h w) {t : TypeId} {x k : AV} {ok : Bool} {K : AV → Option β} {r : β} (e : lookupK P h t x k ok K = some r) {a b : Value} (ha : x.den ρ = some a) (hb : k.den ρ = some b) :
    ∃ v z, K v = some r ∧ v.den ρ = some z ∧ (Instr.lookup t a b ok).run P w = .ok z w := by
  unfold lookupK at e
  replace e := unK_some e
  obtain ⟨d, hd, e⟩ := e
  split at e
  · rename_i kt et
    replace e := keyK_some e
    obtain ⟨kd, hkd, hko, e⟩ := e
    have fin : ∀ (res : Option AV) (L : List MapEntry), lookFinK P et ok K res = some r →
        ((res = none ∧ Instr.findNow kd b L 0 = some none) ∨ ∃ v y j, res = some v ∧ v.den ρ = some y ∧ Instr.findNow kd b L 0 = some (some (j, y))) →
        ∃ v z, K v = some r ∧ v.den ρ = some z ∧ ((∃ j y, (Instr.findKey kt b L).run P w = .ok (some (j, y)) w ∧ z = if ok then .tuple #[y, .bool true] else y) ∨
          ∃ y, (Instr.findKey kt b L).run P w = .ok none w ∧ (zeroValue et).run P w = .ok y w ∧ z = if ok then .tuple #[y, .bool false] else y) := by
      intro res L hres hfind
      unfold lookFinK at hres
      rcases hfind with ⟨rfl, hf⟩ | ⟨v, y, j, rfl, hy, hf⟩
      · simp only at hres
        replace hres := zeroK_some hres
        obtain ⟨i, zv, z, hi, hz, hden, hres⟩ := hres
        refine ⟨if ok then .tup [z, .bool false] else z, if ok then .tuple #[zv, .bool false] else zv, ?_, ?_, ?_⟩
        · cases ok <;> simpa using hres
        · cases ok <;> simp [AV.den, denL, hden]
        · exact .inr ⟨zv, by simp [Instr.findKey, run_underlying hkd, hf], runZero et hi hz w, rfl⟩
      · simp only at hres
        refine ⟨if ok then .tup [v, .bool true] else v, if ok then .tuple #[y, .bool true] else y, ?_, ?_, ?_⟩
        · cases ok <;> simpa using hres
        · cases ok <;> simp [AV.den, denL, hy]
        · exact .inl ⟨j, y, by simp [Instr.findKey, run_underlying hkd, hf], rfl⟩
    split at e
    · cases den_nilmap ha
      obtain ⟨v, z, h1, h2, h3⟩ := fin none [] e (.inl ⟨rfl, rfl⟩)
      refine ⟨v, z, h1, h2, ?_⟩
      rcases h3 with ⟨j, y, g1, rfl⟩ | ⟨y, g1, g2, rfl⟩ <;> simp [Instr.lookup, run_underlying hd, run_checkKey hkd hko, *]
    · obtain ⟨l, hl, rfl⟩ := den_mapv ha
      obtain ⟨bk, hbk, e⟩ := hget_some e
      obtain ⟨l', hl', hrel⟩ := hr.blk _ bk hbk
      rw [hl] at hl'; cases hl'
      cases bk with
      | cells cs ext ro => cases e
      | map es ro =>
        obtain ⟨E, c, g1, g2⟩ := hrel
        obtain ⟨res, e1, e2⟩ := findK_sound e g2 hb hko 0
        obtain ⟨v, z, h1, h2, h3⟩ := fin res E.toList e1 e2
        refine ⟨v, z, h1, h2, ?_⟩
        have hg : (getObj l.blk).run P w = .ok (.map E c) w := by simp [getObj, Sem.run, g1]
        rcases h3 with ⟨j, y, q1, rfl⟩ | ⟨y, q1, q2, rfl⟩ <;> simp [Instr.lookup, run_underlying hd, hg, run_checkKey hkd hko, *]
    · cases e
  · cases e
theorem lenMapK_sound {ρ : Ren} {h : Heap} {w : World} (hr : HRel ρ h w) {t : TypeId} {x : AV} {K : AV → Option β} {r : β} (e : lenMapK P h t x K = some r) {a : Value} (ha : x.den ρ = some a) (ts : Array TypeId) (ht : ts[0]? = some t) (ty : TypeId) (as : Array Value) (has : as[0]? = some a) :
    ∃ v z, K v = some r ∧ v.den ρ = some z ∧ (Builtin.len_ ts ty as).run P w = .ok z w := by
  unfold lenMapK at e
  replace e := unK_some e
  obtain ⟨d, hd, e⟩ := e
  split at e
  · cases den_nilmap ha
    simp only [fN_eq] at e
    exact ⟨_, _, e, rfl, by simp [Builtin.len_, ht, has, run_underlying hd, goInt]⟩
  · obtain ⟨l, hl, rfl⟩ := den_mapv ha
    obtain ⟨bk, hbk, e⟩ := hget_some e
    obtain ⟨l', hl', hrel⟩ := hr.blk _ bk hbk
    rw [hl] at hl'; cases hl'
    cases bk with
    | cells cs ext ro => cases e
    | map es ro =>
      obtain ⟨E, c, g1, g2⟩ := hrel
      simp only [llen_eq, fN_eq, Nat.zero_add] at e
      have hg : (getObj l.blk).run P w = .ok (.map E c) w := by simp [getObj, Sem.run, g1]
      refine ⟨_, .int .i64 (es.length : Int), e, rfl, ?_⟩
      have hlen : E.size = es.length := by rw [g2.len]; simp
      simp [Builtin.len_, ht, has, run_underlying hd, goInt, hg, hlen]
  · cases e
theorem readK_sound {ρ : Ren} {e : Operand → AV} {ev : Operand → Value} (ho : ORel ρ e ev) {o : Oper} {h : Heap} {w : World} (hr : HRel ρ h w) {K : AV → Option β} {r : β} (hk : readK P e o h K = some r) :
    ∃ v z, K v = some r ∧ v.den ρ = some z ∧ (execOp ev o).run P w = .ok (.value z) w := by
  unfold readK at hk
  split at hk
  · rename_i t x hop
    obtain ⟨hx, hk⟩ := okK_some hk
    obtain ⟨v, z, h1, h2, h3, _⟩ := loadK_sound (P := P) hr hk (ho.den hx)
    exact ⟨v, z, h1, h2, by simp only [execOp, hop, Sem.run_bind, h3, Result.andThen_ok]; rfl⟩
  · rename_i t x i ok hop
    obtain ⟨hx, hk⟩ := okK_some hk
    obtain ⟨hi, hk⟩ := okK_some hk
    obtain ⟨v, z, h1, h2, h3⟩ := lookupK_sound (P := P) hr hk (ho.den hx) (ho.den hi)
    exact ⟨v, z, h1, h2, by simp only [execOp, hop, Sem.run_bind, h3, Result.andThen_ok]; rfl⟩
  · rename_i s d x hop
    obtain ⟨hx, hk⟩ := okK_some hk
    obtain ⟨v, z, h1, h2, h3⟩ := convStrK_sound (P := P) hr hk (ho.den hx)
    exact ⟨v, z, h1, h2, by simp only [execOp, hop, Sem.run_bind, h3, Result.andThen_ok]; rfl⟩
  · rename_i c hop
    split at hk
    · rename_i hc
      split at hk
      · rename_i t x ht hx0
        obtain ⟨hx, hk⟩ := okK_some hk
        obtain ⟨v, z, h1, h2, h3⟩ := lenMapK_sound (P := P) hr hk (ho.den hx) c.argTypes ht o.type (c.args.map ev) (by simp [hx0])
        exact ⟨v, z, h1, h2, by simp [execOp, hop, resolve, hc, invoke, builtin, h3]⟩
      · cases hk
    · cases hk
  · cases hk

/-! new blocks -/
/-- what a new block holds -/
def ObjRel (ρ : Ren) : Blk → Obj → Prop
  | .cells cs ext ro, .cells C _ fz => denL ρ cs = some C.toList ∧ ext = 0 ∧ ro = false ∧ fz = (0, 0)
  | .map es ro, .map E _ => MRel ρ es E.toList ∧ ro = false
  | _, _ => False
theorem ObjRel.blk {ρ ρ' : Ren} {b : Blk} {o : Obj} (h : ObjRel ρ b o) (x : Ext ρ ρ') {w : World} {n cap : Nat} (hw : w.heap[n]? = some o) : BlkRel ρ' w ⟨n, 0, cap⟩ b := by
  cases b with
  | cells cs ext ro => cases o with
    | cells C T fz =>
      obtain ⟨h1, rfl, rfl, rfl⟩ := h
      exact ⟨C, T, (0, 0), C.toList, hw, denL_mono x _ _ h1, fun i x hi => by simpa using hi, fun _ => .inl rfl, fun c => absurd rfl c⟩
    | _ => exact h.elim
  | map es ro => cases o with
    | map E c => exact ⟨E, c, hw, h.1.mono x⟩
    | _ => exact h.elim
theorem ObjRel.rw {ρ : Ren} {b : Blk} {o : Obj} (h : ObjRel ρ b o) : b.rw := by
  cases b with
  | cells cs ext ro => cases o with
    | cells C T fz => exact h.2.2.1
    | _ => exact h.elim
  | map es ro => cases o with
    | map E c => exact h.2
    | _ => exact h.elim
/-- the value behind the making of a block -/
def NewVal (mk : Nat → AV) (X : Nat → Value) : Prop := ∀ (ρ : Ren) (k n cap : Nat), ρ k = some ⟨n, 0, cap⟩ → mk k ≠ .bad ∧ (mk k).den ρ = some (X n)
theorem repK_some {n : Nat} {l : List AV} {K : List AV → Option β} {r : β} (h : repK n l K = some r) : K (repL n l) = some r := by
  induction n generalizing K with
  | zero => exact h
  | succ n ih => have := ih h; simpa [repL] using this
theorem repL_den {ρ : Ren} {l : List AV} {xs : List Value} (h : denL ρ l = some xs) (n : Nat) : denL ρ (repL n l) = some (repL n xs) := by
  induction n with
  | zero => exact denL_nil ρ
  | succ n ih => exact denL_app h ih
theorem repL_range (zero : Array Value) (m : Nat) (hz : zero.size = m) (n : Nat) : ((Array.range (n * m)).map fun i => zero[i % zero.size]!) = (repL n zero.toList).toArray := by
  apply Array.ext'
  simp only [Array.toList_map, Array.toList_range]
  induction n with
  | zero => simp [repL]
  | succ n ih =>
    have h1 : List.range ((n + 1) * m) = List.range m ++ (List.range (n * m)).map (m + ·) := by
      rw [Nat.succ_mul, Nat.add_comm, List.range_add]
    rw [h1, List.map_append, List.map_map]
    simp only [repL]
    congr 1
    · apply List.ext_getElem
      · simp [hz]
      · intro i h1 h2
        simp at h1
        have : i % zero.size = i := Nat.mod_eq_of_lt (by omega)
        rw [List.getElem_map, List.getElem_range, this]
        simp [getElem!_pos, hz, h1]
    · have e : ((fun i => zero[i % zero.size]!) ∘ fun x => m + x) = fun i => zero[i % zero.size]! := by
        funext i
        simp only [Function.comp]
        rw [← hz, Nat.add_mod_left]
      rw [e, ih]
theorem allocK_sound {ρ : Ren} {e : Operand → AV} {ev : Operand → Value} (ho : ORel ρ e ev) {o : Oper} {K : Blk → (Nat → AV) → Option β} {r : β} (h : allocK P e o K = some r) :
    ∃ b mk obj X, K b mk = some r ∧ ObjRel ρ b obj ∧ NewVal mk X ∧ ∀ w, (execOp ev o).run P w = .ok (.value (X w.heap.size)) { w with heap := w.heap.push obj } := by
  unfold allocK at h
  split at h
  · rename_i t hop
    replace h := zeroK_some h
    obtain ⟨i, zv, z, hi, hz, hd, h⟩ := h
    rw [cellsK_eq] at h
    refine ⟨_, _, .cells zv.cells t, fun n => .pointer (some ⟨n, 0, none⟩), h, ⟨cells_den (hd ρ), rfl, rfl, rfl⟩, fun ρ k n cap hk => ⟨by simp, by simp [AV.den, hk]⟩, fun w => ?_⟩
    simp [execOp, hop, Instr.alloc, runZero t hi hz, newVar, newRow]
  · rename_i t x hop
    obtain ⟨hx, h⟩ := fK_some h
    rw [cellsK_eq] at h
    refine ⟨_, _, .cells (ev x).cells t, fun n => .pointer (some ⟨n, 0, none⟩), h, ⟨cells_den (ho.den hx), rfl, rfl, rfl⟩, fun ρ k n cap hk => ⟨by simp, by simp [AV.den, hk]⟩, fun w => ?_⟩
    simp [execOp, hop, Instr.box, newVar, newRow]
  · rename_i t len parts hop
    replace h := fArgs_some ho h
    obtain ⟨vs, h, hv⟩ := h
    unfold buildSliceK at h
    replace h := unK_some h
    obtain ⟨d, hd, h⟩ := h
    split at h
    · rename_i elem
      replace h := szK_some h
      obtain ⟨i, hi, h⟩ := h
      split at h
      · cases h
      · cases h
      · rename_i hle hsz
        replace h := zeroK_some h
        obtain ⟨ie, zv, z, hi', hz, hden, h⟩ := h
        rw [hi] at hi'; cases hi'
        simp only [cellsK_eq, llen_eq, Nat.zero_add] at h
        split at h
        · rename_i hzn
          have hzn := Nat.eq_of_beq_eq_true hzn
          replace h := repK_some h
          have hcz := cells_den (hden ρ)
          have hlz := denL_len hcz
          obtain ⟨c, X, g1, g2, g3, _⟩ := fillK_some hv (repL_den hcz len) h
          have hne : i.size ≠ 0 := fun c => hsz c
          have hsz' := Nat.le_of_ble_eq_true hle
          refine ⟨_, _, .cells X.toArray elem, fun n => .slice (some ⟨n, 0, none⟩) len len, g1, ⟨by simpa using g2, rfl, rfl, rfl⟩, fun ρ k n cap hk => ⟨by simp, by simp [AV.den, hk]⟩, fun w => ?_⟩
          have hsize : zv.cells.size = i.size := by rw [← hzn, ← hlz]; simp
          have hbound : ¬ (len * i.size > 2 ^ 24) := by
            simp [buildCells] at hsz'; omega
          have hcells : ∀ (zr : Array Value), (len ≠ 0 → zr = zv.cells) → ((Array.range (len * i.size)).map fun q => zr[q % zr.size]!) = (repL len zv.cells.toList).toArray := by
            intro zr hzr
            by_cases hl0 : len = 0
            · subst hl0; simp [repL]
            · rw [hzr hl0]
              have := repL_range zv.cells i.size hsize len
              rwa [hsize] at this ⊢
          by_cases hl0 : len = 0
          · have hz0 : len * i.size = 0 := by rw [hl0, Nat.zero_mul]
            have hc := hcells #[] (fun c => absurd hl0 c)
            have hb0 : ¬ ((0 : Nat) > 2 ^ 24) := by decide
            simp only [execOp, hop, Instr.buildSlice, Sem.run_bind, run_underlying hd, Result.andThen_ok, runSize elem hi, hb0, if_false, Sem.run_pure, parts_vals, hz0, if_true]
            rw [hz0] at hc
            rw [hc, g3]
            simp [newRow]
          · have hz0 : ¬ len * i.size = 0 := Nat.mul_ne_zero hl0 hne
            have hc := hcells zv.cells (fun _ => rfl)
            simp only [execOp, hop, Instr.buildSlice, Sem.run_bind, run_underlying hd, Result.andThen_ok, runSize elem hi, hbound, if_false, Sem.run_pure, parts_vals, hz0, runZero elem hi hz]
            rw [hc, g3]
            simp [newRow]
        · cases h
    · cases h
  · rename_i t l c hop
    obtain ⟨hl, h⟩ := okK_some h
    obtain ⟨hc, h⟩ := okK_some h
    unfold makeSliceK at h
    replace h := unK_some h
    obtain ⟨d, hd, h⟩ := h
    split at h
    · rename_i elem
      replace h := asN_some h
      obtain ⟨kl, ln, hle, h⟩ := h
      replace h := asN_some h
      obtain ⟨kc, cp, hce, h⟩ := h
      have hev1 := den_int (ho.of hle (by simp))
      have hev2 := den_int (ho.of hce (by simp))
      replace h := szK_some h
      obtain ⟨i, hi, h⟩ := h
      split at h
      · rename_i ie hie
        rw [hi] at hie; cases hie
        split at h
        · rename_i sz _ _ hsz hb1 hb2
          have hb1 := Nat.le_of_ble_eq_true hb1
          have hb2 := Nat.le_of_ble_eq_true hb2
          replace h := zeroK_some h
          obtain ⟨ie, zv, z, hi', hz, hden, h⟩ := h
          rw [hi] at hi'; cases hi'
          simp only [cellsK_eq, llen_eq, Nat.zero_add] at h
          split at h
          · rename_i hzn
            have hzn := Nat.eq_of_beq_eq_true hzn
            replace h := repK_some h
            have hcz := cells_den (hden ρ)
            have hlz := denL_len hcz
            have hsize : zv.cells.size = i.size := by rw [← hzn, ← hlz]; simp
            refine ⟨_, _, .cells (repL cp zv.cells.toList).toArray elem, fun n => .slice (some ⟨n, 0, none⟩) ln cp, h, ⟨by simpa using repL_den hcz cp, rfl, rfl, rfl⟩, fun ρ k n cap hk => ⟨by simp, by simp [AV.den, hk]⟩, fun w => ?_⟩
            have hm : (cp + 1) * (i.bytes + 1) ≤ 1073741824 := by
              have h1 : (cp + 1) * (i.bytes + 1) ≤ (cp + 1) * (i.size + 1) * (i.bytes + 1) := by
                rw [Nat.mul_right_comm]
                exact Nat.le_mul_of_pos_right _ (Nat.succ_pos _)
              exact Nat.le_trans h1 hb1
            have hcp : cp < 1073741824 := by
              have : (cp + 1) * 1 ≤ (cp + 1) * (i.bytes + 1) := Nat.mul_le_mul_left _ (by omega)
              omega
            have hbc : i.bytes * cp ≤ 1073741824 := by
              have : i.bytes * cp ≤ (cp + 1) * (i.bytes + 1) := by rw [Nat.mul_comm]; exact Nat.mul_le_mul (by omega) (by omega)
              omega
            have hwl : IntKind.i64.wrap (ln : Int) = ln := wrap_top .i64 ln (by simp only [top]; omega)
            have hwc : IntKind.i64.wrap (cp : Int) = cp := wrap_top .i64 cp (by simp only [top]; omega)
            have hcells : ∀ (zr : Array Value), (cp ≠ 0 → zr = zv.cells) → ((Array.range (cp * i.size)).map fun q => zr[q % zr.size]!) = (repL cp zv.cells.toList).toArray := by
              intro zr hzr
              by_cases hl0 : cp = 0
              · subst hl0; simp [repL]
              · rw [hzr hl0]
                have := repL_range zv.cells i.size hsize cp
                rwa [hsize] at this ⊢
            have c1 : ¬ ((decide ((cp : Int) < 0) || decide ((i.bytes : Int) * (cp : Int) > 2 ^ 48) || decide ((ln : Int) < 0) || decide ((ln : Int) > (cp : Int))) = true) := by
              have : (i.bytes : Int) * (cp : Int) ≤ 1073741824 := by rw [← Int.natCast_mul]; omega
              simp; omega
            have hop' : (execOp ev o).run P w = ((Instr.makeSlice t (.int kl (ln : Int)) (.int kc (cp : Int))).run P w).andThen fun a w' => .ok (.value a) w' := by
              simp only [execOp, hop, hev1, hev2, Sem.run_bind]
              rfl
            rw [hop']
            simp only [Instr.makeSlice, Sem.run_bind, run_underlying hd, Result.andThen_ok, asInt, asIntOf, Sem.run_pure, isInfo elem hi, hwl, hwc]
            rw [if_neg c1]
            simp only [Sem.run_bind, run_askRoom, Result.andThen_ok, runSize elem hi, Int.toNat_natCast]
            by_cases hl0 : cp = 0
            · have hz0 : cp * i.size = 0 := by rw [hl0, Nat.zero_mul]
              have hc := hcells #[] (fun c => absurd hl0 c)
              rw [hz0] at hc
              simp only [Sem.run_bind, hz0, if_true, Sem.run_pure, Result.andThen_ok]
              rw [hc]
              simp [newRow]
            · have hz0 : ¬ cp * i.size = 0 := Nat.mul_ne_zero hl0 (fun c => by simp [c] at hsz)
              have hc := hcells zv.cells (fun _ => rfl)
              simp only [hz0, if_false, Sem.run_bind, runZero elem hi hz, Sem.run_pure, Result.andThen_ok]
              rw [hc]
              simp [newRow]
          · cases h
        · cases h
      · cases h
    · cases h
  · rename_i t hop
    replace h := unK_some h
    obtain ⟨d, hd, h⟩ := h
    split at h
    · exact ⟨_, _, .map #[] 0, fun n => .map (some n), h, ⟨trivial, rfl⟩, fun ρ k n cap hk => ⟨by simp, by simp [AV.den, hk]⟩, fun w => by simp [execOp, hop, Instr.makeMap]⟩
    · cases h
  · rename_i t x hop
    replace h := unK_some h
    obtain ⟨d, hd, h⟩ := h
    split at h
    · rename_i hm
      obtain ⟨hx, h⟩ := okK_some h
      obtain ⟨k, n, hxe, h⟩ := asI_some h
      have hev := den_int (ho.of hxe (by simp))
      refine ⟨_, _, .map #[] 0, fun n => .map (some n), h, ⟨trivial, rfl⟩, fun ρ k n cap hk => ⟨by simp, by simp [AV.den, hk]⟩, fun w => ?_⟩
      cases d <;> simp only [isMapD, Bool.false_eq_true] at hm
      simp [execOp, hop, Instr.makeMap, run_underlying hd, hev, asInt, asIntOf]
    · cases h
  · cases h
end Go.Ai
