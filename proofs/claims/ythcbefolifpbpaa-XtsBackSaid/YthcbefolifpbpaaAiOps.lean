import Derived.Test.YthcbefolifpbpaaAiPure4
namespace Go.Ai
open Go
set_option linter.unusedSimpArgs false
variable {P : Program} {β : Type}

theorem convPureK_sound {ρ : Ren} {s d : TypeId} {x : AV} {K : AV → Option β} {r : β} (h : convPureK P s d x K = some r) {a : Value} (ha : x.den ρ = some a) :
    ∃ v z, K v = some r ∧ v.den ρ = some z ∧ ∀ w, (convert s d a).run P w = .ok z w := by
  unfold convPureK at h
  replace h := unK_some h
  obtain ⟨sd, hs, h⟩ := h
  replace h := unK_some h
  obtain ⟨dd, hd, h⟩ := h
  split at h
  · cases h
  · cases den_int ha
    rw [fI_eq, wrapA_eq] at h
    refine ⟨_, _, h, rfl, fun w => ?_⟩
    cases sd <;> simp [convert, run_underlying hs, run_underlying hd, Conv.intToInt]
  · rename_i hno
    cases den_str ha
    refine ⟨_, _, h, rfl, fun w => ?_⟩
    cases sd <;> first
      | (simp [convert, run_underlying hs, run_underlying hd]; done)
      | (exact absurd rfl (hno _))
  · cases h
theorem arrayAtK_sound {ρ : Ren} {t : TypeId} {x : AV} {K : AV → Option β} {r : β} (h : arrayAtK P t x K = some r) {a : Value} (ha : x.den ρ = some a) :
    ∃ v z, K v = some r ∧ v.den ρ = some z ∧ ∀ w, (Instr.arrayAt t a).run P w = .ok z w := by
  unfold arrayAtK at h
  replace h := unK_some h
  obtain ⟨d, hd, h⟩ := h
  split at h
  · rename_i kk off len cap
    obtain ⟨l, hl, rfl⟩ := den_slice ha
    split at h
    · rename_i hle
      have hle := Nat.le_of_ble_eq_true hle
      exact ⟨_, .pointer (some ⟨l.blk, l.off + off, none⟩), h, by simp only [AV.den, hl, Option.map_some], fun w => by simp [Instr.arrayAt, run_underlying hd, Nat.not_lt.2 hle]⟩
    · cases h
  · rename_i kk off i0 len
    obtain ⟨l, hl, _, rfl⟩ := den_eslice ha
    split at h
    · rename_i hle
      have hle := Nat.le_of_ble_eq_true hle
      exact ⟨_, .pointer (some ⟨l.blk, l.off + off, none⟩), h, by simp only [AV.den, hl, Option.map_some], fun w => by simp [Instr.arrayAt, run_underlying hd, Nat.not_lt.2 hle]⟩
    · cases h
  · cases h
theorem lenK_sound {ρ : Ren} {t : TypeId} {x : AV} {K : AV → Option β} {r : β} (h : lenK P t x K = some r) {a : Value} (ha : x = .bad ∨ x.den ρ = some a) (ts : Array TypeId) (ht : ts[0]? = some t) (ty : TypeId) (as : Array Value) (has : as[0]? = some a) :
    ∃ v z, K v = some r ∧ v.den ρ = some z ∧ ∀ w, (Builtin.len_ ts ty as).run P w = .ok z w := by
  unfold lenK at h
  replace h := unK_some h
  obtain ⟨d, hd, h⟩ := h
  split at h
  · rcases ha with ha | ha
    · cases ha
    · rename_i s
      cases den_str ha
      simp only [llen_eq, fN_eq] at h
      have hsz : (⟨s.toArray⟩ : ByteArray).size = s.length := by simp [ByteArray.size]
      refine ⟨_, .int .i64 (s.length : Int), h, by simp [AV.den], fun w => ?_⟩
      simp [Builtin.len_, ht, has, run_underlying hd, goInt, hsz]
  · simp only [fN_eq] at h
    exact ⟨_, _, h, rfl, fun w => by simp [Builtin.len_, ht, has, run_underlying hd, goInt]⟩
  · replace h := unK_some h
    obtain ⟨e, he, h⟩ := h
    split at h
    · simp only [fN_eq] at h
      exact ⟨_, _, h, rfl, fun w => by simp [Builtin.len_, ht, has, run_underlying hd, run_underlying he, goInt]⟩
    · cases h
  · rcases ha with ha | ha
    · cases ha
    · cases den_nilslice ha
      simp only [fN_eq] at h
      exact ⟨_, _, h, rfl, fun w => by simp [Builtin.len_, ht, has, run_underlying hd, goInt]⟩
  · rcases ha with ha | ha
    · cases ha
    · obtain ⟨l, hl, rfl⟩ := den_slice ha
      simp only [fN_eq] at h
      exact ⟨_, _, h, rfl, fun w => by simp [Builtin.len_, ht, has, run_underlying hd, goInt]⟩
  · rcases ha with ha | ha
    · cases ha
    · obtain ⟨l, hl, _, rfl⟩ := den_eslice ha
      simp only [fN_eq] at h
      exact ⟨_, _, h, rfl, fun w => by simp [Builtin.len_, ht, has, run_underlying hd, goInt]⟩
  · cases h
theorem minMaxK_sound {ρ : Ren} {m : Bool} {vs : List AV} {K : AV → Option β} {r : β} (h : minMaxK m vs K = some r) {xs : List Value} (hx : denL ρ vs = some xs) :
    ∃ v z, K v = some r ∧ v.den ρ = some z ∧ (m = false → ∀ ts ty w, (Builtin.min_ ts ty xs.toArray).run P w = .ok z w) ∧ (m = true → ∀ ts ty w, (Builtin.max_ ts ty xs.toArray).run P w = .ok z w) := by
  unfold minMaxK at h
  split at h
  · obtain ⟨x, xs, h1, h2, rfl⟩ := denL_cons.1 hx
    obtain ⟨y, ys, h3, h4, rfl⟩ := denL_cons.1 h2
    rw [denL_nil] at h4; cases h4
    cases den_int h1; cases den_int h3
    split at h
    · rename_i k p k' q hk
      subst hk
      simp only [ile_eq] at h
      cases m <;> by_cases hle : p ≤ q <;> simp only [hle, decide_true, decide_false] at h
      · exact ⟨_, _, h, rfl, fun _ ts ty w => by simp [Builtin.min_, Builtin.min2]; omega, by simp⟩
      · exact ⟨_, _, h, rfl, fun _ ts ty w => by simp [Builtin.min_, Builtin.min2]; omega, by simp⟩
      · exact ⟨_, _, h, rfl, by simp, fun _ ts ty w => by simp [Builtin.max_, Builtin.max2]; omega⟩
      · exact ⟨_, _, h, rfl, by simp, fun _ ts ty w => by simp [Builtin.max_, Builtin.max2]; omega⟩
    · cases h
  · cases h

theorem pureK_sound {ρ : Ren} {e : Operand → AV} {ev : Operand → Value} (ho : ORel ρ e ev) {o : Oper} {K : AV → Option β} {r : β} (h : pureK P e o K = some r) :
    ∃ v z, K v = some r ∧ v.den ρ = some z ∧ ∀ w, (execOp ev o).run P w = .ok (.value z) w := by
  unfold pureK at h
  split at h
  · rename_i x hop
    obtain ⟨h1, h2⟩ := fK_some h
    exact ⟨_, _, h2, ho.den h1, fun w => by simp [execOp, hop]⟩
  · rename_i x hop
    obtain ⟨h1, h2⟩ := fK_some h
    exact ⟨_, _, h2, ho.den h1, fun w => by simp [execOp, hop]⟩
  · rename_i c a b hop
    split at h
    · rename_i hc
      have hc := den_bool (ho.of hc (by simp))
      obtain ⟨h1, h2⟩ := fK_some h
      exact ⟨_, _, h2, ho.den h1, fun w => by simp [execOp, hop, hc, asBool]⟩
    · rename_i hc
      have hc := den_bool (ho.of hc (by simp))
      obtain ⟨h1, h2⟩ := fK_some h
      exact ⟨_, _, h2, ho.den h1, fun w => by simp [execOp, hop, hc, asBool]⟩
    · cases h
  · rename_i t parts hop
    replace h := fArgs_some ho h
    obtain ⟨vs, h, hv⟩ := h
    obtain ⟨v, z, h1, h2, h3⟩ := buildK_sound hv h (parts.map fun (i, x) => (i, ev x)) (parts_vals parts ev)
    exact ⟨v, z, h1, h2, fun w => by simp only [execOp, hop, Sem.run_bind, h3, Result.andThen_ok]; rfl⟩
  · rename_i x hop
    split at h
    · rename_i hx
      obtain ⟨l, hl, hx'⟩ := den_ptr (ho.of hx (by simp))
      exact ⟨_, ev x, h, by rw [hx']; simp [AV.den, hl], fun w => by simp [execOp, hop, hx']⟩
    · rename_i hx
      obtain ⟨p, q, h1, h2, hx'⟩ := den_func (ho.of hx (by simp))
      exact ⟨_, ev x, h, by rw [hx']; simp [AV.den, h1, h2], fun w => by simp [execOp, hop, hx']⟩
    · cases h
  · rename_i op t x y yt hop
    obtain ⟨hx, h⟩ := okK_some h
    obtain ⟨hy, h⟩ := okK_some h
    obtain ⟨v, z, h1, h2, h3⟩ := binK_sound h (ho.den hx) (ho.den hy)
    exact ⟨v, z, h1, h2, fun w => by
      have := h3 x y w
      simp only [Sem.run_bind] at this
      simp only [execOp, hop, Sem.run_bind, this, Result.andThen_ok]; rfl⟩
  · rename_i op t x hop
    obtain ⟨hx, h⟩ := okK_some h
    obtain ⟨v, z, h1, h2, h3⟩ := unA_sound h (ho.den hx)
    exact ⟨v, z, h1, h2, fun w => by simp [execOp, hop, h3]⟩
  · rename_i t x hop
    obtain ⟨hx, h⟩ := okK_some h
    obtain ⟨v, z, h1, h2, h3⟩ := arrayAtK_sound h (ho.den hx)
    exact ⟨v, z, h1, h2, fun w => by simp only [execOp, hop, Sem.run_bind, h3, Result.andThen_ok]; rfl⟩
  · rename_i t x hop
    replace h := unK_some h
    obtain ⟨d, hd, h⟩ := h
    split at h
    · cases h
    · rename_i hno
      obtain ⟨hx, h⟩ := fK_some h
      refine ⟨_, .iface t (ev x), h, by simp [AV.den, ho.den hx], fun w => ?_⟩
      cases d <;> first
        | (exact absurd rfl (hno _))
        | (simp [execOp, hop, Instr.makeInterface, run_underlying hd])
  · rename_i fn first cap hop
    replace h := fArgs_some ho h
    obtain ⟨vs, h, hv⟩ := h
    replace h := fArgs_some ho h
    obtain ⟨us, h, hu⟩ := h
    refine ⟨_, .func fn (first.map ev) (cap.map ev), h, ?_, fun w => by simp [execOp, hop, Instr.makeFunc]⟩
    simp only [AV.den, hv, hu, Option.bind_some, Option.map_some]
    congr 2
    · apply Array.ext'; simp
    · apply Array.ext'; simp
  · rename_i t x lo hi mx hop
    obtain ⟨hx, h⟩ := okK_some h
    obtain ⟨v, z, h1, h2, h3⟩ := sliceK_sound h (ho.den hx) (ho.opt lo) (ho.opt hi) (ho.opt mx)
    exact ⟨v, z, h1, h2, fun w => by simp only [execOp, hop, Sem.run_bind, h3, Result.andThen_ok]; rfl⟩
  · rename_i s x f hop
    obtain ⟨hx, h⟩ := okK_some h
    obtain ⟨v, z, h1, h2, h3⟩ := fieldAddrK_sound h (ho.den hx)
    exact ⟨v, z, h1, h2, fun w => by simp only [execOp, hop, Sem.run_bind, h3, Result.andThen_ok]; rfl⟩
  · rename_i s x f hop
    obtain ⟨hx, h⟩ := okK_some h
    obtain ⟨v, z, h1, h2, h3⟩ := fieldK_sound h (ho.den hx)
    exact ⟨v, z, h1, h2, fun w => by simp only [execOp, hop, Sem.run_bind, h3, Result.andThen_ok]; rfl⟩
  · rename_i t x i hop
    obtain ⟨hx, h⟩ := okK_some h
    obtain ⟨hi, h⟩ := okK_some h
    obtain ⟨v, z, h1, h2, h3⟩ := indexAddrK_sound h (ho.den hx) (ho.den hi)
    exact ⟨v, z, h1, h2, fun w => by simp only [execOp, hop, Sem.run_bind, h3, Result.andThen_ok]; rfl⟩
  · rename_i t x i hop
    obtain ⟨hx, h⟩ := okK_some h
    obtain ⟨hi, h⟩ := okK_some h
    obtain ⟨v, z, h1, h2, h3⟩ := indexK_sound h (ho.den hx) (ho.den hi)
    exact ⟨v, z, h1, h2, fun w => by simp only [execOp, hop, Sem.run_bind, h3, Result.andThen_ok]; rfl⟩
  · rename_i x i hop
    split at h
    · rename_i vs hx
      obtain ⟨l, hl, hx'⟩ := den_tup (ho.of hx (by simp))
      replace h := lget_some h
      obtain ⟨v, hv, h⟩ := h
      obtain ⟨y, g1, g2⟩ := denL_get hl hv
      exact ⟨v, y, h, g2, fun w => by simp [execOp, hop, hx', Instr.extract, g1]⟩
    · cases h
  · rename_i x xt t ok hop
    replace h := unK_some h
    obtain ⟨d, hd, h⟩ := h
    split at h
    · cases h
    · rename_i d1 _ _ u v hno hx
      obtain ⟨y, hy, hx'⟩ := den_iface (ho.of hx (by simp))
      split at h
      · rename_i hut
        subst hut
        refine ⟨_, if ok then .tuple #[y, .bool true] else y, h, ?_, fun w => ?_⟩
        · cases ok <;> simp [AV.den, denL, hy]
        · cases d1 <;> first
            | (exact absurd rfl (hno _))
            | (simp [execOp, hop, Instr.typeAssert, run_underlying hd, hx'])
      · cases h
    · cases h
  · rename_i s d x hop
    obtain ⟨hx, h⟩ := okK_some h
    obtain ⟨v, z, h1, h2, h3⟩ := convPureK_sound h (ho.den hx)
    exact ⟨v, z, h1, h2, fun w => by simp only [execOp, hop, Sem.run_bind, h3, Result.andThen_ok]; rfl⟩
  · rename_i c hop
    split at h
    · rename_i hc
      split at h
      · rename_i t x ht hx0
        obtain ⟨hx, h⟩ := okK_some h
        obtain ⟨v, z, h1, h2, h3⟩ := lenK_sound h (.inr (ho.den hx)) c.argTypes ht o.type (c.args.map ev) (by simp [hx0])
        exact ⟨v, z, h1, h2, fun w => by simp [execOp, hop, resolve, hc, invoke, builtin, h3]⟩
      · cases h
    · rename_i hc
      replace h := fArgs_some ho h
      obtain ⟨vs, h, hv⟩ := h
      obtain ⟨v, z, h1, h2, h3, h4⟩ := minMaxK_sound h hv
      refine ⟨v, z, h1, h2, fun w => ?_⟩
      have := h3 rfl c.argTypes o.type w
      have ea : (c.args.toList.map ev).toArray = c.args.map ev := by apply Array.ext'; simp
      rw [ea] at this
      have hr : (execOp ev o).run P w = ((Builtin.min_ c.argTypes o.type (c.args.map ev)).run P w).andThen fun a w' => .ok (.value a) w' := by
        simp [execOp, hop, resolve, hc, invoke, builtin]
      rw [hr]
      exact congrArg (fun q : Result Value => q.andThen fun a w' => Result.ok (Next.value a) w') this
    · rename_i hc
      replace h := fArgs_some ho h
      obtain ⟨vs, h, hv⟩ := h
      obtain ⟨v, z, h1, h2, h3, h4⟩ := minMaxK_sound h hv
      refine ⟨v, z, h1, h2, fun w => ?_⟩
      have := h4 rfl c.argTypes o.type w
      have ea : (c.args.toList.map ev).toArray = c.args.map ev := by apply Array.ext'; simp
      rw [ea] at this
      have hr : (execOp ev o).run P w = ((Builtin.max_ c.argTypes o.type (c.args.map ev)).run P w).andThen fun a w' => .ok (.value a) w' := by
        simp [execOp, hop, resolve, hc, invoke, builtin]
      rw [hr]
      exact congrArg (fun q : Result Value => q.andThen fun a w' => Result.ok (Next.value a) w') this
    · cases h
  · cases h
end Go.Ai
