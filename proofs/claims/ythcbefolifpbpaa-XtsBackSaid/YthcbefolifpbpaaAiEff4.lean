import Derived.Test.YthcbefolifpbpaaAiEff3
namespace Go.Ai
open Go
set_option linter.unusedSimpArgs false
variable {P : Program} {β : Type}

theorem copyK_sound {ρ : Ren} {h : Heap} {w : World} (hr : HRel ρ h w) {t : TypeId} {d x : AV} {K : AV → Heap → Option β} {r : β} (e : copyK P h t d x K = some r) {a b : Value} (ha : d.den ρ = some a) (hb : x.den ρ = some b)
    (ts : Array TypeId) (ht : ts[0]? = some t) (ty : TypeId) (as : Array Value) (h0 : as[0]? = some a) (h1 : as[1]? = some b) :
    ∃ v h' z w', K v h' = some r ∧ Stp ρ h w ρ h' w' ∧ (∀ ρ', v.den ρ' = some z) ∧ (Builtin.copy_ ts ty as).run P w = .ok z w' := by
  unfold copyK at e
  replace e := unK_some e
  obtain ⟨dd, hd, e⟩ := e
  split at e
  · rename_i elem
    replace e := szK_some e
    obtain ⟨i, hi, e⟩ := e
    split at e
    · rename_i n m hn hm
      simp only [fN_eq] at e
      have hlx := lenA_sound (P := P) hn hb w
      rw [minN_eq] at e
      have hlm := lenA_sound (P := P) hm ha w
      replace e := firstK_sound (P := P) hr e hb
      obtain ⟨cs, xs, e, g1, g2, _⟩ := e
      have g2 := g2 w rfl
      split at e
      · cases den_nilslice ha
        have : m = 0 := by simpa [lenA] using hm.symm
        subst this
        refine ⟨_, h, _, w, e, Stp.refl hr, fun ρ' => rfl, ?_⟩
        simp [Builtin.copy_, ht, h0, h1, run_underlying hd, hlx, runSize elem hi] at g2 ⊢
        simp [g2, goInt]
      · rename_i k off len cap
        obtain ⟨l, hl, rfl⟩ := den_slice ha
        have : m = len := by simpa [lenA] using hm.symm
        subst this
        replace e := storeCK_sound (P := P) hr e hl g1
        obtain ⟨h', w', e, q1, q2⟩ := e
        refine ⟨_, h', _, w', e, q1, fun ρ' => rfl, ?_⟩
        simp [Builtin.copy_, ht, h0, h1, run_underlying hd, hlx, runSize elem hi, g2, q2, goInt, Nat.min_def] at g2 ⊢
      · rename_i k off i0 len
        obtain ⟨l, hl, _, rfl⟩ := den_eslice ha
        have : m = len := by simpa [lenA] using hm.symm
        subst this
        replace e := storeCK_sound (P := P) hr e hl g1
        obtain ⟨h', w', e, q1, q2⟩ := e
        refine ⟨_, h', _, w', e, q1, fun ρ' => rfl, ?_⟩
        simp [Builtin.copy_, ht, h0, h1, run_underlying hd, hlx, runSize elem hi, g2, q2, goInt, Nat.min_def] at g2 ⊢
      · cases e
    · cases e
  · cases e

theorem freeze_blk {w : World} {b : Nat} {C : Array Value} {T : TypeId} {fz : Nat × Nat} (h : w.heap[b]? = some (.cells C T fz)) (n : Nat) :
    (w.freeze ⟨b, n, none⟩ 1).heap[b]? = some (.cells C T (if fz.1 == fz.2 then (n, n + 1) else (min fz.1 n, max fz.2 (n + 1)))) := by
  obtain ⟨lo, hi⟩ := fz
  simp [World.freeze, Array.getElem?_modify, h]
theorem freeze_ne {w : World} {b j : Nat} (h : j ≠ b) (n : Nat) : (w.freeze ⟨b, n, none⟩ 1).heap[j]? = w.heap[j]? := by
  simp [World.freeze, Array.getElem?_modify, Ne.symm h]
theorem bytes_den (ρ : Ren) (s : List UInt8) : denL ρ (s.map fun b => AV.int .u8 (b.toNat : Int)) = some (s.map fun b => Value.int .u8 (b.toNat : Int)) := by
  induction s with
  | nil => exact denL_nil ρ
  | cons c s ih => exact denL_cons.2 ⟨_, _, rfl, ih, rfl⟩
theorem convBytesK_sound {ρ : Ren} {h : Heap} {w : World} (hr : HRel ρ h w) {s d : TypeId} {x : AV} {K : AV → Heap → Option β} {r : β} (e : convBytesK P h s d x K = some r) {a : Value} (ha : x.den ρ = some a) :
    ∃ v h' ρ' z w', K v h' = some r ∧ Stp ρ h w ρ' h' w' ∧ v.den ρ' = some z ∧ (convert s d a).run P w = .ok z w' := by
  unfold convBytesK at e
  replace e := unK_some e
  obtain ⟨sd, hs, e⟩ := e
  replace e := unK_some e
  obtain ⟨dd, hd, e⟩ := e
  split at e
  · rename_i se el k o l c
    obtain ⟨lc, hl, rfl⟩ := den_slice ha
    replace e := unK_some e
    obtain ⟨ed, he, e⟩ := e
    split at e
    · rename_i hsd
      have hsd := Nat.eq_of_beq_eq_true hsd
      subst hsd
      rw [hs] at hd; cases hd
      replace e := hget_some e
      obtain ⟨b, hb, e⟩ := e
      split at e
      · rename_i cs ext
        rw [hputK_eq] at e
        obtain ⟨l', hl', hrel⟩ := hr.blk _ _ hb
        rw [hl] at hl'; cases hl'
        obtain ⟨C, T, fz, ys, c1, c2, c3, c4, c5⟩ := hrel
        refine ⟨_, _, ρ, .slice (some ⟨lc.blk, lc.off + o, none⟩) l c, w.freeze ⟨lc.blk, C.size, none⟩ 1, e, ?_, by simp only [AV.den, hl, Option.map_some], ?_⟩
        · refine Stp.put hr hb hl rfl (by simp [World.freeze]) (fun j hj => freeze_ne hj _) rfl rfl rfl ?_
          refine ⟨C, T, _, ys, freeze_blk c1 _, c2, c3, fun _ => ?_, c5⟩
          have c4 := c4 rfl
          split
          · exact .inr (Nat.le_refl _)
          · rename_i hne
            right
            simp only
            have : fz.1 ≠ fz.2 := by simpa using hne
            omega
        · have hsh : w.shape? lc.blk = some (T, C.size) := by simp [World.shape?, c1]
          simp [convert, run_underlying hs, run_underlying he, markStringish, hsh]
      · cases e
    · cases e
  · rename_i el u
    cases den_str ha
    replace e := unK_some e
    obtain ⟨ed, he, e⟩ := e
    split at e
    · simp only [llen_eq, fL_eq, hnewK_eq, Nat.zero_add] at e
      have hf : (Question.appendCap u.length 0 el).forced = false := rfl
      obtain ⟨cap, hcap⟩ : ∃ cap, cap = (Question.appendCap u.length 0 el).cut (w.tape w.drawn (.appendCap u.length 0 el)) := ⟨_, rfl⟩
      have hle : u.length ≤ cap := by rw [hcap]; exact appendCap_le _ _ _ _
      obtain ⟨C, hC⟩ : ∃ C : Array Value, C = (u.map fun b => Value.int .u8 (b.toNat : Int)).toArray ++ Array.replicate (cap - u.length) (.int .u8 0) := ⟨_, rfl⟩
      have hCs : C.size = cap := by rw [hC]; simp; omega
      let w' : World := { w.drew with heap := w.heap.push (.cells C el (C.size, C.size + 1)) }
      refine ⟨_, _, ρ.add h.next ⟨w.heap.size, 0, cap⟩, .slice (some ⟨w.heap.size, 0, none⟩) u.length cap, w', e, ?_, by simp [AV.den, Ren.add_same, hle], ?_⟩
      · refine (Stp.drew hr).trans (Stp.new (w := w.drew) (w' := w') hr.drew rfl rfl rfl rfl cap ?_)
        refine ⟨C, el, (C.size, C.size + 1), u.map fun b => Value.int .u8 (b.toNat : Int), ?_, bytes_den _ u, ?_, fun _ => .inr (Nat.le_refl _), fun _ => by simp [hCs]⟩
        · show (w.heap.push _)[w.heap.size]? = _
          simp
        · intro i x hi
          have hlt := (List.getElem?_eq_some_iff.1 hi).1
          rw [hC]
          simp only [Nat.zero_add]
          rw [Array.getElem?_append_left (by simpa using hlt)]
          simpa using hi
      · have hsz : (⟨u.toArray⟩ : ByteArray).size = u.length := by simp [ByteArray.size]
        have hmap : (Array.map (fun b : UInt8 => Value.int .u8 (b.toNat : Int)) u.toArray) = (u.map fun b => Value.int .u8 (b.toNat : Int)).toArray := by simp
        have hconv : (convert s d (.string ⟨u.toArray⟩)).run P w = (Conv.stringToBytes el ⟨u.toArray⟩).run P w := by
          simp [convert, run_underlying hs, run_underlying hd, run_underlying he]
        have hw : (w.drew.alloc (.cells C el)).freeze ⟨w.heap.size, C.size, none⟩ 1 = w' := by
          have hm : ((w.heap.push (.cells C el)).modify w.heap.size fun
              | .cells c elem (lo, hi) => .cells c elem (if lo == hi then (C.size, C.size + 1) else (min lo C.size, max hi (C.size + 1)))
              | o => o) = w.heap.push (.cells C el (C.size, C.size + 1)) := by
            apply Array.ext_getElem?
            intro j
            rw [Array.getElem?_modify, Array.getElem?_push, Array.getElem?_push]
            by_cases hj : j = w.heap.size
            · subst hj; simp
            · rw [if_neg (fun c => hj c.symm), if_neg hj, if_neg hj]
          show World.mk _ _ _ _ _ = World.mk _ _ _ _ _
          congr 1
        have hrun : (do
            let a ← newRow el C
            markStringish a
            pure (.slice (some a) u.length cap) : Sem Value).run P w.drew = .ok (.slice (some ⟨w.heap.size, 0, none⟩) u.length cap) w' := by
          have e1 : (newRow el C).run P w.drew = .ok ⟨w.heap.size, 0, none⟩ (w.drew.alloc (.cells C el)) := rfl
          have e2 : (w.drew.alloc (.cells C el)).shape? w.heap.size = some (el, C.size) := by
            show (match (w.heap.push (.cells C el))[w.heap.size]? with | some (.cells c elem _) => some (elem, c.size) | _ => none) = _
            simp
          simp only [Sem.run_bind, e1, Result.andThen_ok, markStringish, run_shape, e2, run_freeze, hw, Sem.run_pure]
        rw [hconv]
        unfold Conv.stringToBytes
        simp only [Sem.run_bind, run_choose, hf, Bool.false_eq_true, if_false, ← hcap, Result.andThen_ok, hsz, hmap, ← hC]
        simp only [Sem.run_bind] at hrun
        exact hrun
    · cases e
  · cases e
end Go.Ai
