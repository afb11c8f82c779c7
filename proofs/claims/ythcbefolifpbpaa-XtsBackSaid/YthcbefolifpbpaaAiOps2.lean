import Derived.Test.YthcbefolifpbpaaAiOps
import Derived.Laws.BytesString
namespace Go.Ai
open Go
set_option linter.unusedSimpArgs false
variable {P : Program} {β : Type}

/-! a slice's first cells -/
theorem firstK_sound {ρ : Ren} {h : Heap} {w : World} (hr : HRel ρ h w) {size n : Nat} {x : AV} {K : List AV → Option β} {r : β} (e : firstK h size n x K = some r) {a : Value} (ha : x.den ρ = some a) :
    ∃ cs xs, K cs = some r ∧ denL ρ cs = some xs ∧ (∀ w', w'.heap = w.heap → (Builtin.firstCells size n a).run P w' = .ok xs.toArray w') ∧ ∀ k o l c, x = .slice k o l c → xs.length = n * size := by
  have slc : ∀ {k off : Nat} {l : Loc}, ρ k = some l → (match n * size with
      | 0 => K []
      | m => h.getK k none fun b => match b with
        | .cells cs _ _ => lcut off m cs none K
        | .map _ _ => none) = some r → ∃ cs xs, K cs = some r ∧ denL ρ cs = some xs ∧ (∀ w', w'.heap = w.heap → (loadCells ⟨l.blk, l.off + off, none⟩ (n * size)).run P w' = .ok xs.toArray w') ∧ xs.length = n * size := by
    intro k off l hl e
    split at e
    · rename_i hz
      exact ⟨[], [], e, denL_nil ρ, fun w' _ => by rw [hz]; rfl, by simp [hz]⟩
    · obtain ⟨b, hb, e⟩ := hget_some e
      obtain ⟨l', hl', hrel⟩ := hr.blk k b hb
      rw [hl] at hl'; cases hl'
      cases b with
      | map es ro => cases e
      | cells cs ext ro =>
        obtain ⟨hle, e⟩ := lcut_some e
        obtain ⟨xs, g1, gl, g2⟩ := runCells (P := P) hrel hle
        refine ⟨_, xs, e, g1, fun w' hw => ?_, gl⟩
        obtain ⟨ys, f1, _, f2⟩ := runCells (P := P) (hrel.mono (Ext.refl _) (by rw [hw])) hle
        rw [g1] at f1; cases f1
        exact f2
  unfold firstK at e
  simp only at e
  split at e
  · cases den_nilslice ha
    exact ⟨[], [], e, denL_nil ρ, fun w' _ => rfl, fun _ _ _ _ c => by cases c⟩
  · obtain ⟨l, hl, rfl⟩ := den_slice ha
    obtain ⟨cs, xs, f1, f2, f3, f4⟩ := slc hl e
    exact ⟨cs, xs, f1, f2, f3, fun _ _ _ _ _ => f4⟩
  · obtain ⟨l, hl, _, rfl⟩ := den_eslice ha
    obtain ⟨cs, xs, f1, f2, f3, f4⟩ := slc hl e
    exact ⟨cs, xs, f1, f2, f3, fun _ _ _ _ _ => f4⟩
  · rename_i s
    cases den_str ha
    rw [fL_eq] at e
    refine ⟨_, (s.take n).map fun b => .int .u8 (b.toNat : Int), e, ?_, fun w' _ => ?_, fun _ _ _ _ c => by cases c⟩
    · generalize s.take n = l
      induction l with
      | nil => exact denL_nil ρ
      | cons c l ih => exact denL_cons.2 ⟨_, _, rfl, ih, rfl⟩
    · have hex : ((⟨s.toArray⟩ : ByteArray).extract 0 n).data = (s.take n).toArray := by
        have := extract_bytes s 0 n
        simpa only [List.drop_zero, Nat.sub_zero] using this
      simp only [Builtin.firstCells, hex, Sem.run_pure]
      congr 1
      simp
  · cases e
theorem lenA_sound {ρ : Ren} {x : AV} {n : Nat} (h : lenA x = some n) {a : Value} (ha : x.den ρ = some a) (w : World) : (Builtin.lenOf a).run P w = .ok n w := by
  unfold lenA at h
  split at h
  · cases h; cases den_nilslice ha; rfl
  · cases h; obtain ⟨l, hl, rfl⟩ := den_slice ha; rfl
  · cases h; obtain ⟨l, hl, _, rfl⟩ := den_eslice ha; rfl
  · cases h; cases den_str ha; simp [Builtin.lenOf, ByteArray.size]
  · cases h

theorem intBytes_some {ρ : Ren} {cs : List AV} {s : List UInt8} (h : intBytes cs = some s) {xs : List Value} (hx : denL ρ cs = some xs) :
    ∃ ns : List Int, xs = ns.map (Value.int .u8) ∧ s = ns.map fun n => UInt8.ofNat n.toNat := by
  induction cs generalizing s xs with
  | nil => simp [intBytes] at h; subst h; rw [denL_nil] at hx; cases hx; exact ⟨[], rfl, rfl⟩
  | cons c cs ih =>
    unfold intBytes at h
    split at h
    · cases ‹_ :: _ = []›
    · rename_i n r heq
      cases heq
      simp only [Option.map_eq_some_iff] at h
      obtain ⟨s', h1, rfl⟩ := h
      obtain ⟨y, ys, g1, g2, rfl⟩ := denL_cons.1 hx
      cases den_int g1
      obtain ⟨ns, rfl, rfl⟩ := ih h1 g2
      exact ⟨(n : Int) :: ns, rfl, rfl⟩
    · cases h
theorem foldl_push (ns : List Int) : ∀ (s : ByteArray), (ns.foldl (fun r n => r.push (UInt8.ofNat n.toNat)) s) = ⟨s.data ++ (ns.map fun n => UInt8.ofNat n.toNat).toArray⟩ := by
  induction ns with
  | nil => intro s; simp
  | cons n ns ih =>
    intro s
    simp only [List.foldl_cons, ih, List.map_cons]
    apply ByteArray.ext
    simp [ByteArray.push, ByteArray.data_push]
theorem convStrK_sound {ρ : Ren} {h : Heap} {w : World} (hr : HRel ρ h w) {s d : TypeId} {x : AV} {K : AV → Option β} {r : β} (e : convStrK P h s d x K = some r) {a : Value} (ha : x.den ρ = some a) :
    ∃ v z, K v = some r ∧ v.den ρ = some z ∧ (convert s d a).run P w = .ok z w := by
  unfold convStrK at e
  replace e := unK_some e
  obtain ⟨sd, hs, e⟩ := e
  replace e := unK_some e
  obtain ⟨dd, hd, e⟩ := e
  split at e
  · rename_i el
    replace e := unK_some e
    obtain ⟨ed, he, e⟩ := e
    split at e
    · rename_i n hn
      obtain ⟨cs, xs, e, g1, g2, _⟩ := firstK_sound (P := P) hr e ha
      replace g2 := g2 w rfl
      split at e
      · rename_i bs hbs
        rw [fL_eq] at e
        obtain ⟨ns, rfl, rfl⟩ := intBytes_some hbs g1
        refine ⟨_, _, e, rfl, ?_⟩
        have fin : ∀ (p : Option Addr) (l c : Nat), a = .slice p l c → (convert s d (.slice p l c)).run P w = .ok (.string ⟨(ns.map fun n => UInt8.ofNat n.toNat).toArray⟩) w := by
          intro p l c hp
          rw [run_convert_bytes_string w s d el p l c hs he hd]
          have hlen : n = l := by
            subst hp
            have := lenA_sound (P := P) (show lenA x = some n by cases x <;> simp_all [lenA, sliceLenA]) ha w
            simp [Builtin.lenOf] at this
            exact this.symm
          cases p with
          | none =>
            subst hp
            simp [Builtin.firstCells] at g2
            subst g2
            simp [Conv.bytesToString]
            rfl
          | some p =>
            subst hp
            simp only [Builtin.firstCells, Nat.mul_one, hlen] at g2
            rw [run_bytesToString w p l c ns g2, foldl_push]
            congr 3
            simp
        cases x <;> simp only [sliceLenA, reduceCtorEq] at hn
        · obtain ⟨l, hl, rfl⟩ := den_slice ha; exact fin _ _ _ rfl
        · obtain ⟨l, hl, _, rfl⟩ := den_eslice ha; exact fin _ _ _ rfl
        · cases den_nilslice ha; exact fin _ _ _ rfl
      · cases e
    · cases e
  · cases e
end Go.Ai
