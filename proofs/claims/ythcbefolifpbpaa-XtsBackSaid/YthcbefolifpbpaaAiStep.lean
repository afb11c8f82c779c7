import Derived.Test.YthcbefolifpbpaaAiEff4
namespace Go.Ai
open Go
set_option linter.unusedSimpArgs false
variable {P : Program} {β : Type}

/-- a law for calls: what the call gives is what Go's call comes to, whatever world -/
def CallOk (P : Program) (call : CallK) : Prop := ∀ (f : FuncId) (args : List AV) (h : Heap) (v : AV) (h' : Heap), call f args h = some (v, h') →
  ∀ (ρ : Ren) (w : World) (xs : List Value), denL ρ args = some xs → HRel ρ h w → ∀ (o : Oper) (a : Act) (next : Act → World → Prop) (Q : Exit → Act → World → Prop),
    (∀ ρ' z w', Stp ρ h w ρ' h' w' → v.den ρ' = some z → next (a.put o.dst z) w') → o.upon P a next Q ((callFunc f xs.toArray).run P w)

theorem effK_sound {ρ : Ren} {call : CallK} (hcall : CallOk P call) {a : Act} {e : Operand → AV} (ho : ORel ρ e a.eval) {o : Oper} {h : Heap} {w : World} (hr : HRel ρ h w) {K : AV → Heap → Option β} {r : β} (hk : effK P call e o h K = some r) :
    ∃ v h', K v h' = some r ∧ ∀ (next : Act → World → Prop) (Q : Exit → Act → World → Prop), (∀ ρ' z w', Stp ρ h w ρ' h' w' → v.den ρ' = some z → next (a.put o.dst z) w') → o.wp P a w next Q := by
  have vals : ∀ {v : AV} {h' : Heap} {ρ' : Ren} {z : Value} {w' : World} {s : Sem Value}, Stp ρ h w ρ' h' w' → v.den ρ' = some z → s.run P w = .ok z w' → execOp a.eval o = (do pure (.value (← s))) →
      ∀ (next : Act → World → Prop) (Q : Exit → Act → World → Prop), (∀ ρ' z w', Stp ρ h w ρ' h' w' → v.den ρ' = some z → next (a.put o.dst z) w') → o.wp P a w next Q := by
    intro v h' ρ' z w' s h1 h2 h3 h4 next Q hn
    unfold Oper.wp
    rw [h4]
    simp only [Sem.run_bind, h3, Result.andThen_ok, Sem.run_pure, Oper.upon]
    exact hn _ _ _ h1 h2
  have units : ∀ {h' : Heap} {w' : World} {s : Sem Unit}, Stp ρ h w ρ h' w' → s.run P w = .ok () w' → execOp a.eval o = (do s; pure .skip) →
      ∀ (next : Act → World → Prop) (Q : Exit → Act → World → Prop), (∀ ρ' z w', Stp ρ h w ρ' h' w' → undefA.den ρ' = some z → next (a.put o.dst z) w') → o.wp P a w next Q := by
    intro h' w' s h1 h3 h4 next Q hn
    unfold Oper.wp
    rw [h4]
    simp only [Sem.run_bind, h3, Result.andThen_ok, Sem.run_pure, Oper.upon]
    exact hn _ _ _ h1 (by simp [undefA, AV.den, denL_nil]; rfl)
  unfold effK at hk
  split at hk
  · rename_i t ad x hop
    obtain ⟨hx, hk⟩ := fK_some hk
    obtain ⟨ha, hk⟩ := okK_some hk
    obtain ⟨h', w', e1, e2, e3⟩ := storeK_sound (P := P) hr hk (ho.den ha) (ho.den hx)
    exact ⟨_, h', e1, units e2 e3 (by simp only [execOp, hop])⟩
  · rename_i t m k v hop
    obtain ⟨hkk, hk⟩ := fK_some hk
    obtain ⟨hv, hk⟩ := fK_some hk
    obtain ⟨hm, hk⟩ := okK_some hk
    obtain ⟨h', w', e1, e2, e3⟩ := mapUpdateK_sound (P := P) hr hk (ho.den hm) (ho.den hkk) (ho.den hv)
    exact ⟨_, h', e1, units e2 e3 (by simp only [execOp, hop])⟩
  · rename_i t m k v hop
    obtain ⟨hkk, hk⟩ := fK_some hk
    obtain ⟨hv, hk⟩ := fK_some hk
    obtain ⟨hm, hk⟩ := okK_some hk
    obtain ⟨h', w', e1, e2, e3⟩ := mapUpdateK_sound (P := P) hr hk (ho.den hm) (ho.den hkk) (ho.den hv)
    exact ⟨_, h', e1, units e2 e3 (by simp only [execOp, hop])⟩
  · rename_i s d x hop
    obtain ⟨hx, hk⟩ := okK_some hk
    obtain ⟨v, h', ρ', z, w', e1, e2, e3, e4⟩ := convBytesK_sound (P := P) hr hk (ho.den hx)
    exact ⟨v, h', e1, vals e2 e3 e4 (by simp only [execOp, hop])⟩
  · rename_i c hop
    split at hk
    · rename_i f hc
      obtain ⟨vs, hk, hv⟩ := fArgs_some ho hk
      obtain ⟨hf, hk⟩ := okK_some hk
      split at hk
      · rename_i fn first cap hfe
        simp only [lapp_eq] at hk
        split at hk
        · rename_i v h' hcl
          obtain ⟨p, q, hp, hq, hev⟩ := den_func (ho.of hfe (by simp))
          refine ⟨v, h', hk, fun next Q hn => ?_⟩
          have := hcall _ _ _ _ _ hcl ρ w _ (denL_app (denL_app hp hv) hq) hr o a next Q hn
          unfold Oper.wp
          have ex : (execOp a.eval o).run P w = (callFunc fn (p ++ List.map a.eval c.args.toList ++ q).toArray).run P w := by
            simp only [execOp, hop, resolve, hc, hev, Deferred.ofValue, Sem.run_bind, Sem.run_pure, Result.andThen_ok, invoke]
            congr 1
            congr 1
            apply Array.ext'
            simp
          rw [ex]
          exact this
        · cases hk
      · cases hk
    · rename_i hc
      have hex : execOp a.eval o = (do pure (.value (← Builtin.append_ c.argTypes o.type (c.args.map a.eval)))) := by
        simp only [execOp, hop, resolve, hc]
        rfl
      split at hk
      · rename_i t u s x ht hu hs hx
        obtain ⟨ud, hud, hk⟩ := unK_some hk
        split at hk
        · cases hk
        · rename_i hno
          obtain ⟨hsb, hk⟩ := okK_some hk
          obtain ⟨hxb, hk⟩ := okK_some hk
          obtain ⟨v, h', ρ', z, w', e1, e2, e3, e4⟩ := appendK_sound (P := P) hr hk (ho.den hsb) (ho.den hxb) c.argTypes ht (.inr ⟨u, ud, hu, hud, fun k e => hno k e⟩) o.type (c.args.map a.eval) (by simp [hs]) (by simp [hx])
          exact ⟨v, h', e1, vals e2 e3 e4 hex⟩
      · rename_i t s x ht hu hs hx
        obtain ⟨hsb, hk⟩ := okK_some hk
        obtain ⟨hxb, hk⟩ := okK_some hk
        obtain ⟨v, h', ρ', z, w', e1, e2, e3, e4⟩ := appendK_sound (P := P) hr hk (ho.den hsb) (ho.den hxb) c.argTypes ht (.inl hu) o.type (c.args.map a.eval) (by simp [hs]) (by simp [hx])
        exact ⟨v, h', e1, vals e2 e3 e4 hex⟩
      · cases hk
    · rename_i hc
      have hex : execOp a.eval o = (do pure (.value (← Builtin.copy_ c.argTypes o.type (c.args.map a.eval)))) := by
        simp only [execOp, hop, resolve, hc]
        rfl
      split at hk
      · rename_i t s x ht hs hx
        obtain ⟨hsb, hk⟩ := okK_some hk
        obtain ⟨hxb, hk⟩ := okK_some hk
        obtain ⟨v, h', z, w', e1, e2, e3, e4⟩ := copyK_sound (P := P) hr hk (ho.den hsb) (ho.den hxb) c.argTypes ht o.type (c.args.map a.eval) (by simp [hs]) (by simp [hx])
        exact ⟨v, h', e1, vals e2 (e3 _) e4 hex⟩
      · cases hk
    · rename_i hc
      have hex : execOp a.eval o = (do pure (.value (← Builtin.delete_ c.argTypes o.type (c.args.map a.eval)))) := by
        simp only [execOp, hop, resolve, hc]
        rfl
      split at hk
      · rename_i t s x ht hs hx
        obtain ⟨hsb, hk⟩ := okK_some hk
        obtain ⟨hxb, hk⟩ := okK_some hk
        obtain ⟨h', w', e1, e2, e4⟩ := deleteK_sound (P := P) hr hk (ho.den hsb) (ho.den hxb) c.argTypes ht o.type (c.args.map a.eval) (by simp [hs]) (by simp [hx])
        exact ⟨_, h', e1, vals e2 (by simp [undefA, AV.den, denL_nil]; rfl) e4 hex⟩
      · cases hk
    · cases hk
  · cases hk

/-! one operation, whatever it is -/
theorem opK_sound {ρ : Ren} {call : CallK} (hcall : CallOk P call) {a : Act} {e : Operand → AV} (ho : ORel ρ e a.eval) {o : Oper} {h : Heap} {w : World} (hr : HRel ρ h w) {K : AV → Heap → Option β} {r : β} (hk : opK P call e o h K = some r) :
    ∃ v h', K v h' = some r ∧ ∀ (next : Act → World → Prop) (Q : Exit → Act → World → Prop), (∀ ρ' z w', Stp ρ h w ρ' h' w' → v.den ρ' = some z → next (a.put o.dst z) w') → o.wp P a w next Q := by
  unfold opK at hk
  split at hk
  · obtain ⟨v, z, h1, h2, h3⟩ := pureK_sound ho hk
    refine ⟨v, h, h1, fun next Q hn => ?_⟩
    unfold Oper.wp
    rw [h3 w]
    exact hn _ _ _ (Stp.refl hr) h2
  · obtain ⟨v, z, h1, h2, h3⟩ := readK_sound ho hr hk
    refine ⟨v, h, h1, fun next Q hn => ?_⟩
    unfold Oper.wp
    rw [h3]
    exact hn _ _ _ (Stp.refl hr) h2
  · obtain ⟨b, mk, obj, X, h1, h2, h3, h4⟩ := allocK_sound ho hk
    rw [hnewK_eq] at h1
    obtain ⟨h5, h6⟩ := fK_some h1
    refine ⟨_, _, h6, fun next Q hn => ?_⟩
    unfold Oper.wp
    rw [h4 w]
    refine hn (ρ.add h.next ⟨w.heap.size, 0, 0⟩) _ { w with heap := w.heap.push obj } (Stp.new (w' := { w with heap := w.heap.push obj }) (o := obj) hr rfl rfl rfl rfl 0 (h2.blk (Ren.ext_add _ (hr.new _ (Nat.le_refl _))) (by simp))) ?_
    exact (h3 _ _ _ 0 (Ren.add_same _ _ _)).2
  · exact effK_sound hcall ho hr hk

/-! frames -/
structure FRel (ρ : Ren) (n : Nat) (fr : Fr) (a : Act) : Prop where
  size : a.tmps.size = n
  den : ∀ t, (fr.eval (.tmp t)).den ρ = some (a.tmps.getD t undef)
theorem FRel.orel {ρ : Ren} {n : Nat} {fr : Fr} {a : Act} (h : FRel ρ n fr a) : ORel ρ fr.eval a.eval := by
  intro x
  cases x with
  | tmp t => exact .inr (h.den t)
  | const v =>
    by_cases hb : ofV v = .bad
    · exact .inl hb
    · exact .inr (ofV_den ρ hb)
  | global g => exact .inl rfl
  | func f => exact .inr (by simp [Fr.eval, AV.den, denL_nil, Act.eval])
theorem FRel.mono {ρ ρ' : Ren} {n : Nat} {fr : Fr} {a : Act} (e : Ext ρ ρ') (h : FRel ρ n fr a) : FRel ρ' n fr a := ⟨h.size, fun t => den_mono e _ _ (h.den t)⟩
theorem eval_tmp (fr : Fr) (t : Nat) : fr.eval (.tmp t) = (fr.get (pth t)).getD undefA := by
  simp only [Fr.eval, getK_eq]
  cases fr.get (pth t) <;> rfl
theorem putK_sound {ρ : Ren} {n : Nat} {fr : Fr} {a : Act} (h : FRel ρ n fr a) {dst : Option Tmp} {v : AV} {z : Value} (hv : v.den ρ = some z) {K : Fr → Option β} {r : β} (hk : putK n fr dst v K = some r) :
    ∃ fr', K fr' = some r ∧ FRel ρ n fr' (a.put dst z) := by
  unfold putK at hk
  split at hk
  · exact ⟨fr, hk, h⟩
  · rename_i d
    split at hk
    · rename_i hd
      have hd : d < n := by simpa [Nat.blt_eq] using hd
      rw [setK_eq] at hk
      refine ⟨_, hk, by simpa [Act.put] using h.size, fun t => ?_⟩
      have hs := h.size
      by_cases ht : t = d
      · subst ht
        rw [eval_tmp, get_set_same]
        simp only [Option.getD_some, Act.put, hv]
        rw [Array.getD_eq_getD_getElem?, Array.getElem?_setIfInBounds]
        simp [hs, hd]
      · rw [eval_tmp, get_set_ne _ (fun e => ht (pth_inj e)), ← eval_tmp, h.den t]
        simp only [Act.put]
        rw [Array.getD_eq_getD_getElem?, Array.getD_eq_getD_getElem?, Array.getElem?_setIfInBounds, if_neg (fun e => ht e.symm)]
    · cases hk
theorem undef_den (ρ : Ren) : undefA.den ρ = some undef := by simp [undefA, AV.den, denL_nil]; rfl
theorem den_isBool {ρ : Ren} {v : AV} {b : Bool} (h : v.den ρ = some (.bool b)) : v = .bool b := by
  cases v <;> simp only [AV.den, Option.map_eq_some_iff, Option.bind_eq_some_iff, Option.some.injEq, reduceCtorEq, Value.bool.injEq, and_false, exists_false, exists_const] at h
  · subst h; rfl
  all_goals (obtain ⟨_, _, h⟩ := h; split at h <;> cases h)
theorem wantA_eq {ρ : Ren} {n : Nat} {fr : Fr} {a : Act} (h : FRel ρ n fr a) (ops : Array Oper) (o : Oper) : wantA ops fr o = Region.wanted o (yielded ops a.tmps) := by
  unfold wantA Region.wanted
  cases hg : o.guard with
  | none => rfl
  | some g =>
    obtain ⟨j, want⟩ := g
    simp only [yielded]
    cases hd : (ops[j]?).bind (·.dst) with
    | none => simp
    | some t =>
      simp only [Option.bind_some]
      have ht := h.den t
      rw [Array.getD_eq_getD_getElem?] at ht
      cases hx : a.tmps[t]? with
      | none =>
        rw [hx] at ht
        simp only [Option.getD_none] at ht
        split
        · rename_i b hb
          rw [hb] at ht; simp [AV.den, undef] at ht
        · rfl
      | some x =>
        rw [hx] at ht
        simp only [Option.getD_some] at ht
        by_cases hb : ∃ b, x = .bool b
        · obtain ⟨b, rfl⟩ := hb
          rw [den_isBool ht]
          rfl
        · have h1 : ∀ b, fr.eval (.tmp t) ≠ .bool b := fun b hc => hb ⟨b, den_bool (hc ▸ ht)⟩
          split
          · rename_i b hc; exact absurd hc (h1 b)
          · cases x <;> first
              | rfl
              | exact absurd ⟨_, rfl⟩ hb
end Go.Ai
