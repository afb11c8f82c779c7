import Derived.Test.YthcbefolifpbpaaAiDraw3
namespace Go.Ai
open Go
set_option linter.unusedSimpArgs false
variable {P : Program} {β : Type}
variable {call : CallK} {n : Nat} {ops : Array Oper} {fs : Nat → Fr} {hp : Nat → Heap} {vs : Nat → AV} {ds : List Deferred} {ρ₀ : Ren} {h₀ : Heap} {w₀ : World}

theorem getD_put_same {a : Act} {t : Nat} {z : Value} (h : t < a.tmps.size) : (a.put (some t) z).tmps.getD t undef = z := by
  simp only [Act.put]
  rw [Array.getD_eq_getD_getElem?, Array.getElem?_setIfInBounds]
  simp [h]
theorem getD_put_ne {a : Act} {t : Nat} {dst : Option Tmp} {z : Value} (h : dst ≠ some t) : (a.put dst z).tmps.getD t undef = a.tmps.getD t undef := by
  cases dst with
  | none => rfl
  | some d =>
    simp only [Act.put]
    rw [Array.getD_eq_getD_getElem?, Array.getD_eq_getD_getElem?, Array.getElem?_setIfInBounds, if_neg (fun e => h (by rw [e]))]
theorem Inv.next (T : Trc P call n ops fs hp vs) {S S' : Nat → Bool} {k : Nat} {ρ : Ren} {a : Act} {w : World} (I : Inv P ops n fs hp vs ds ρ₀ h₀ w₀ S k ρ a w) {i : Nat} {o : Oper} (R : Rdy ops S i o)
    (hS : ∀ j, S' j = if j = i then true else S j) {ρ' : Ren} {z : Value} {w' : World} {k' : Nat} (he : Ext ρ ρ') (hz : (vs i).den ρ' = some z) (hst : Stp ρ₀ h₀ w₀ ρ' (hp k') w') (hk : k' ≤ ops.size)
    (hcut : ∀ j o, ops[j]? = some o → isX (cls P o) = true → (S' j = true ↔ j < k')) : Inv P ops n fs hp vs ds ρ₀ h₀ w₀ S' k' ρ' (a.put o.dst z) w' := by
  refine ⟨?_, ?_, ?_, ?_, hcut, hk, hst⟩
  · intro j x hx hj e hee hb
    rw [hS]
    split
    · rfl
    · rw [hS] at hj
      split at hj
      · rename_i hji; subst hji
        rw [R.at_] at hx; cases hx
        exact R.edge e hee hb
      · exact I.cl j x hx hj e hee hb
  · intro t
    rw [T.slot_step I.cl R hS t]
    split
    · rename_i hd
      rw [hz, hd, getD_put_same (by rw [I.size]; exact (T.st i o R.at_).lt t hd)]
    · rename_i hd
      rw [getD_put_ne hd]
      exact den_mono he _ _ (I.fr t)
  · rw [← I.size]; cases o.dst <;> simp [Act.put]
  · rw [← I.ds]; cases o.dst <;> rfl

theorem Trc.step (hcall : CallOk P call) (T : Trc P call n ops fs hp vs) {S S' : Nat → Bool} {k : Nat} {ρ : Ren} {a : Act} {w : World} (I : Inv P ops n fs hp vs ds ρ₀ h₀ w₀ S k ρ a w) {i : Nat} {o : Oper} (R : Rdy ops S i o)
    (hS : ∀ j, S' j = if j = i then true else S j) {Q : Exit → Act → World → Prop} {K : Act → World → Prop} (hK : ∀ k' ρ' a' w', Inv P ops n fs hp vs ds ρ₀ h₀ w₀ S' k' ρ' a' w' → K a' w') : wpOp P ops Q i K a w := by
  classical
  have st := T.st i o R.at_
  have hw : wantA ops (fs i) o = Region.wanted o (yielded ops a.tmps) := wantA_at (ρ := ρ) fun t ht => by
    rw [← T.slot I.cl R (names_guard ht)]; exact I.fr t
  have D := T.ok
  have hlt := R.size
  -- where the cut goes
  have cutX : isX (cls P o) = true → hp k = hp i ∧ (∀ j x, ops[j]? = some x → isX (cls P x) = true → (S' j = true ↔ j < i + 1)) := by
    intro hx
    have key : ∀ j x, ops[j]? = some x → isX (cls P x) = true → (S j = true ↔ j < i) := by
      intro j x hj hxx
      rcases Nat.lt_trichotomy j i with h | h | h
      · have := R.below D I.cl hj h (.inr ⟨hxx, hx⟩)
        simp [this, h]
      · subst h; simp [R.un]
      · have := R.above D I.cl hj h (.inr ⟨hx, hxx⟩)
        simp [this]; omega
    refine ⟨T.level2 (by omega) I.kle fun j x hj hxx => ?_, fun j x hj hxx => ?_⟩
    · rw [← key j x hj hxx, I.cut j x hj hxx]
    · rw [hS]
      split
      · rename_i e; subst e; simp
      · rename_i e
        rw [key j x hj hxx]; omega
  have cutN : isX (cls P o) = false → ∀ j x, ops[j]? = some x → isX (cls P x) = true → (S' j = true ↔ j < k) := by
    intro hx j x hj hxx
    rw [hS, if_neg]
    · exact I.cut j x hj hxx
    · rintro rfl
      rw [R.at_] at hj; cases hj
      rw [hx] at hxx; cases hxx
  simp only [wpOp, R.at_]
  cases hwt : Region.wanted o (yielded ops a.tmps) with
  | false =>
    simp only [Bool.false_eq_true, if_false]
    obtain ⟨e1, e2⟩ := st.no (by rw [hw, hwt])
    have hz : (vs i).den ρ = some undef := by rw [e1]; exact undef_den _
    cases hx : isX (cls P o) with
    | true =>
      obtain ⟨h1, h2⟩ := cutX hx
      refine hK (i + 1) ρ _ _ (I.next T R hS (Ext.refl _) hz ?_ (by omega) h2)
      rw [e2, ← h1]; exact I.stp
    | false => exact hK k ρ _ _ (I.next T R hS (Ext.refl _) hz I.stp I.kle (cutN hx))
  | true =>
    simp only [if_true]
    refine .inl ?_
    obtain ⟨h', hop, hxh⟩ := st.yes (by rw [hw, hwt])
    let e' : Operand → AV := fun x => if x ∈ o.op.operands then (fs i).eval x else .bad
    have hcg : ∀ x ∈ o.op.operands, (fs i).eval x = e' x := fun x hx => by simp only [e', if_pos hx]
    have ho : ORel ρ e' a.eval := by
      intro x
      by_cases hm : x ∈ o.op.operands
      · have hex : e' x = (fs i).eval x := (hcg x hm).symm
        rw [hex]
        cases x with
        | tmp t =>
          rw [← T.slot I.cl R (names_op hm)]
          exact .inr (I.fr t)
        | const v =>
          by_cases hb : ofV v = .bad
          · exact .inl hb
          · exact .inr (ofV_den ρ hb)
        | global g => exact .inl rfl
        | func f => exact .inr (by simp [Fr.eval, AV.den, denL_nil, Act.eval])
      · exact .inl (by simp only [e', if_neg hm])
    cases hx : isX (cls P o) with
    | true =>
      obtain ⟨h1, h2⟩ := cutX hx
      have h3 := hxh hx
      rw [opK_congr hcg] at hop
      have hr : HRel ρ (hp i) w := by rw [← h1]; exact I.stp.rel
      obtain ⟨v, h'', he, hstep⟩ := opK_sound hcall ho hr hop
      cases he
      refine hstep _ _ fun ρ' z w' hst hz => hK (i + 1) ρ' _ _ (I.next T R hS hst.ext hz ?_ (by omega) h2)
      rw [h3]
      rw [← h1] at hst
      exact I.stp.trans hst
    | false =>
      have fin : ∀ (v : AV) (z : Value), v = vs i → v.den ρ = some z → (execOp a.eval o).run P w = .ok (.value z) w → o.wp P a w K Q := by
        intro v z hv hz hex
        unfold Oper.wp
        rw [hex]
        subst hv
        exact hK k ρ _ _ (I.next T R hS (Ext.refl _) hz I.stp I.kle (cutN hx))
      unfold opK at hop
      cases hcl : cls P o with
      | a => rw [hcl] at hx; cases hx
      | e => rw [hcl] at hx; cases hx
      | p =>
        simp only [hcl] at hop
        rw [pureK_congr hcg] at hop
        obtain ⟨v, z, h1, h2, h3⟩ := pureK_sound ho hop
        cases h1
        exact fin _ z rfl h2 (h3 w)
      | r =>
        simp only [hcl] at hop
        have hR : isR (cls P o) = true := by rw [hcl]; rfl
        have hlo : loOf P ops i ≤ cntX P ops.toList k := by
          rw [loOf_zip, cntX_zip]
          refine List.countP_mono_left fun x hxm hp => ?_
          simp only [Bool.and_eq_true, decide_eq_true_eq] at hp ⊢
          refine ⟨hp.1, ?_⟩
          exact (I.cut _ _ (of_zip hxm) hp.1).1 (D.closed I.cl i o R.at_ R.edge _ hp.2)
        have hhi : cntX P ops.toList k ≤ hiOf P ops i := by
          rw [hiOf_zip, cntX_zip]
          refine List.countP_mono_left fun x hxm hp => ?_
          simp only [Bool.and_eq_true, decide_eq_true_eq, Bool.not_eq_true'] at hp ⊢
          refine ⟨hp.1, ?_⟩
          cases hb : ((masks ops).getD x.2 0).testBit i with
          | false => rfl
          | true =>
            have hs := (I.cut _ _ (of_zip hxm) hp.1).2 hp.2
            have := D.closed I.cl _ _ (of_zip hxm) (I.cl _ _ (of_zip hxm) hs) i hb
            rw [R.un] at this; cases this
        rcases T.read i o R.at_ hR (by rw [hw, hwt]) k I.kle hlo hhi with h1 | h1
        · rw [readK_congr hcg, ← h1] at hop
          obtain ⟨v, z, h1, h2, h3⟩ := readK_sound ho I.stp.rel hop
          cases h1
          exact fin _ z rfl h2 h3
        · obtain ⟨v0, h0, h1, hsm⟩ := h1
          rw [readK_congr hcg] at h1
          obtain ⟨v, z, h1, h2, h3⟩ := readK_sound ho I.stp.rel h1
          cases h1
          exact fin _ z (same_eq hsm).symm h2 h3

theorem Trc.any (hcall : CallOk P call) (T : Trc P call n ops fs hp vs) {Q : Exit → Act → World → Prop}
    (hQ : ∀ ρ a w, FRel ρ n (fs ops.size) a → a.defers = ds → Stp ρ₀ h₀ w₀ ρ (hp ops.size) w → Q .normal a w) :
    ∀ (fuel : Nat) (listed : Array Bool) (k : Nat) (ρ : Ren) (a : Act) (w : World), listed.size = ops.size → listed.toList.count false = fuel →
      Inv P ops n fs hp vs ds ρ₀ h₀ w₀ (fun i => listed.getD i false) k ρ a w → wpAny P .any ops Q fuel listed a w := by
  have done : ∀ (listed : Array Bool) (k : Nat) (ρ : Ren) (a : Act) (w : World), listed.size = ops.size → Region.ready .any ops listed = [] →
      Inv P ops n fs hp vs ds ρ₀ h₀ w₀ (fun i => listed.getD i false) k ρ a w → Q .normal a w := by
    intro listed k ρ a w hsz hr I
    have all : ∀ i, i < ops.size → listed.getD i false = true := by
      intro i
      induction i using Nat.strongRecOn with
      | ind i ih =>
        intro hi
        cases hc : listed.getD i false with
        | true => rfl
        | false =>
          exfalso
          have hoi : ops[i]? = some ops[i] := Array.getElem?_eq_getElem hi
          have : i ∈ Region.ready .any ops listed := by
            rw [mem_ready]
            refine ⟨?_, ops[i], hoi, fun e he hb => ?_⟩
            · rw [Array.getD_eq_getD_getElem?, Array.getElem?_eq_getElem (by omega)] at hc ⊢
              simpa using hc
            · have := T.ok.edge i _ hoi e he hb
              exact ih _ this (by omega)
          rw [hr] at this; cases this
    have hk : hp ops.size = hp k := by
      refine T.level2 I.kle (Nat.le_refl _) fun j o ho hx => ?_
      have hj : j < ops.size := (Array.getElem?_eq_some_iff.1 ho).1
      have := (I.cut j o ho hx).1 (all j hj)
      exact ⟨fun _ => hj, fun _ => this⟩
    refine hQ ρ a w ⟨I.size, fun t => ?_⟩ I.ds (by rw [hk]; exact I.stp)
    rw [← I.fr t, ← T.all t ops.size (Nat.le_refl _)]
    unfold vAt
    rw [lastW_eq]
    intro j hj _
    exact (all j hj).symm
  intro fuel
  induction fuel with
  | zero =>
    intro listed k ρ a w hsz hc I
    have hr : Region.ready .any ops listed = [] := by
      rw [List.eq_nil_iff_forall_not_mem]
      intro i hi
      obtain ⟨h1, o, ho, _⟩ := mem_ready.1 hi
      have hlt : i < listed.size := by rw [hsz]; exact (Array.getElem?_eq_some_iff.1 ho).1
      rw [List.count_eq_zero] at hc
      apply hc
      rw [Array.getD_eq_getD_getElem?, Array.getElem?_eq_getElem hlt] at h1
      simp only [Option.getD_some] at h1
      rw [← h1]
      exact Array.mem_toList_iff.2 (Array.getElem_mem hlt)
    exact ⟨hr, done listed k ρ a w hsz hr I⟩
  | succ fuel ih =>
    intro listed k ρ a w hsz hc I
    refine ⟨fun hr => done listed k ρ a w hsz hr I, fun i hi => ?_⟩
    obtain ⟨h1, o, ho, hedge⟩ := mem_ready.1 hi
    have hlt : i < listed.size := by rw [hsz]; exact (Array.getElem?_eq_some_iff.1 ho).1
    have hun : listed[i] = false := by
      rw [Array.getD_eq_getD_getElem?, Array.getElem?_eq_getElem hlt] at h1
      simpa using h1
    have R : Rdy ops (fun i => listed.getD i false) i o := ⟨ho, by simp [Array.getD_eq_getD_getElem?, Array.getElem?_eq_getElem hlt, hun], hedge⟩
    refine T.step hcall I R (S' := fun j => (listed.setIfInBounds i true).getD j false) (fun j => ?_) (fun k' ρ' a' w' I' => ih _ k' ρ' a' w' (by simpa using hsz) ?_ I')
    · split
      · rename_i e; subst e
        simp [Array.getD_eq_getD_getElem?, Array.getElem?_setIfInBounds, hlt]
      · rename_i e
        exact getD_set_ne false (fun h => e h.symm)
    · rw [Array.toList_setIfInBounds, List.count_set (by simpa using hlt)]
      simp [hun, hc]
end Go.Ai
