import Derived.Test.YthcbefolifpbpaaAiDraw2
namespace Go.Ai
open Go
set_option linter.unusedSimpArgs false
variable {P : Program} {β : Type}

/-! sets of operations that have come up -/
def Cl (ops : Array Oper) (S : Nat → Bool) : Prop := ∀ j o, ops[j]? = some o → S j = true → ∀ e ∈ o.after, Region.binds .any e = true → S e.on = true
theorem at_lt {ops : Array Oper} {i j : Nat} {o : Oper} (h : ops[j]? = some o) (hi : i < j) : ∃ x, ops[i]? = some x := by
  have := (Array.getElem?_eq_some_iff.1 h).1
  exact ⟨ops[i]'(by omega), Array.getElem?_eq_getElem _⟩
theorem DrawOk.mask_lt {ops : Array Oper} (D : DrawOk P ops) : ∀ (j : Nat) (o : Oper), ops[j]? = some o → ∀ i, ((masks ops).getD j 0).testBit i = true → i < j := by
  intro j
  induction j using Nat.strongRecOn with
  | ind j ih =>
    intro o ho i hb
    obtain ⟨e, he, hbi, h⟩ := masks_bit ho hb
    have hlt := D.edge j o ho e he hbi
    rcases h with rfl | h
    · exact hlt
    · obtain ⟨x, hx⟩ := at_lt ho hlt
      exact Nat.lt_trans (ih _ hlt x hx i h) hlt
theorem DrawOk.closed {ops : Array Oper} (D : DrawOk P ops) {S : Nat → Bool} (c : Cl ops S) : ∀ (j : Nat) (o : Oper), ops[j]? = some o → (∀ e ∈ o.after, Region.binds .any e = true → S e.on = true) → ∀ i, ((masks ops).getD j 0).testBit i = true → S i = true := by
  intro j
  induction j using Nat.strongRecOn with
  | ind j ih =>
    intro o ho hr i hb
    obtain ⟨e, he, hbi, h⟩ := masks_bit ho hb
    have hlt := D.edge j o ho e he hbi
    rcases h with rfl | h
    · exact hr e he hbi
    · obtain ⟨x, hx⟩ := at_lt ho hlt
      exact ih _ hlt x hx (c _ x hx (hr e he hbi)) i h

/-! what stands in a slot, of those that have come up -/
def lastW (ops : Array Oper) (vs : Nat → AV) (v0 : AV) (S : Nat → Bool) (t : Tmp) : Nat → AV
  | 0 => v0
  | j + 1 => if S j = true ∧ (ops[j]?).bind (·.dst) = some t then vs j else lastW ops vs v0 S t j
theorem lastW_eq {ops : Array Oper} {vs : Nat → AV} {v0 : AV} {S S' : Nat → Bool} {t : Tmp} : ∀ {m : Nat}, (∀ j, j < m → (ops[j]?).bind (·.dst) = some t → S j = S' j) → lastW ops vs v0 S t m = lastW ops vs v0 S' t m
  | 0, _ => rfl
  | m + 1, h => by
    simp only [lastW]
    rw [lastW_eq fun j hj => h j (by omega)]
    by_cases hd : (ops[m]?).bind (·.dst) = some t
    · rw [h m (by omega) hd]
    · simp [hd]
theorem lastW_above {ops : Array Oper} {vs : Nat → AV} {v0 : AV} {S : Nat → Bool} {t : Tmp} {i : Nat} : ∀ {m : Nat}, i ≤ m → (∀ j, i ≤ j → j < m → (ops[j]?).bind (·.dst) = some t → S j = false) → lastW ops vs v0 S t m = lastW ops vs v0 S t i
  | 0, h, _ => by rw [Nat.le_zero.1 h]
  | m + 1, h, hh => by
    by_cases he : i = m + 1
    · rw [he]
    · simp only [lastW]
      rw [if_neg, lastW_above (by omega) fun j h1 h2 => hh j h1 (by omega)]
      rintro ⟨h1, h2⟩
      rw [hh m (by omega) (by omega) h2] at h1
      cases h1

structure Trc (P : Program) (call : CallK) (n : Nat) (ops : Array Oper) (fs : Nat → Fr) (hp : Nat → Heap) (vs : Nat → AV) : Prop where
  ok : DrawOk P ops
  st : ∀ j o, ops[j]? = some o → StepAt P call n ops fs hp vs j o
  flat : ∀ j o, ops[j]? = some o → isX (cls P o) = false → hp (j + 1) = hp j
  read : ∀ i o, ops[i]? = some o → isR (cls P o) = true → wantA ops (fs i) o = true → ∀ k, k ≤ ops.size → loOf P ops i ≤ cntX P ops.toList k → cntX P ops.toList k ≤ hiOf P ops i →
    hp k = hp i ∨ ∃ v0 h0, readK P (fs i).eval o (hp k) (fun v => some (v, hp k)) = some (v0, h0) ∧ (vs i).same v0 = true
variable {call : CallK} {n : Nat} {ops : Array Oper} {fs : Nat → Fr} {hp : Nat → Heap} {vs : Nat → AV}
theorem Trc.all (T : Trc P call n ops fs hp vs) (t : Tmp) : ∀ m, m ≤ ops.size → lastW ops vs ((fs 0).eval (.tmp t)) (fun _ => true) t m = (fs m).eval (.tmp t)
  | 0, _ => rfl
  | m + 1, h => by
    have ho : ops[m]? = some (ops[m]'(by omega)) := Array.getElem?_eq_getElem _
    simp only [lastW, ho, Option.bind_some, true_and]
    rw [(T.st m _ ho).put t, T.all t m (by omega)]

/-- what stands there -/
def vAt (ops : Array Oper) (fs : Nat → Fr) (vs : Nat → AV) (S : Nat → Bool) (t : Tmp) : AV := lastW ops vs ((fs 0).eval (.tmp t)) S t ops.size
def Names (ops : Array Oper) (o : Oper) (t : Tmp) : Prop := namesA ops o t = true
theorem names_dst {o : Oper} {t : Tmp} (h : o.dst = some t) : Names ops o t := by simp [Names, namesA, h]
theorem names_guard {o : Oper} {t : Tmp} (h : guardTmp ops o = some t) : Names ops o t := by simp [Names, namesA, h]
theorem names_op {o : Oper} {t : Tmp} (h : Operand.tmp t ∈ o.op.operands) : Names ops o t := by
  simp only [Names, namesA, Bool.or_eq_true, List.any_eq_true]
  exact .inr ⟨.tmp t, Array.mem_toList_iff.2 h, by simp⟩
theorem touch_l {x y : Oper} {t : Tmp} (h : x.dst = some t) (g : Names ops y t) : touch ops x y = true := by
  unfold Names at g
  simp [touch, h, g]
theorem touch_r {x y : Oper} {t : Tmp} (h : y.dst = some t) (g : Names ops x t) : touch ops x y = true := by
  unfold Names at g
  simp [touch, h, g]
theorem at_dst {j : Nat} {t : Tmp} (h : (ops[j]?).bind (·.dst) = some t) : ∃ o, ops[j]? = some o ∧ o.dst = some t := by
  rw [Option.bind_eq_some_iff] at h
  exact h
/-- one that may come up now -/
structure Rdy (ops : Array Oper) (S : Nat → Bool) (i : Nat) (o : Oper) : Prop where
  at_ : ops[i]? = some o
  un : S i = false
  edge : ∀ e ∈ o.after, Region.binds .any e = true → S e.on = true
theorem Rdy.above {S : Nat → Bool} {i j : Nat} {o x : Oper} (D : DrawOk P ops) (c : Cl ops S) (R : Rdy ops S i o) (hx : ops[j]? = some x) (hij : i < j) (ht : touch ops o x = true ∨ (isX (cls P o) = true ∧ isX (cls P x) = true)) : S j = false := by
  cases hj : S j with
  | false => rfl
  | true =>
    have := D.closed c j x hx (c j x hx hj) i (D.ord i j o x R.at_ hx hij ht)
    rw [R.un] at this; cases this
theorem Rdy.below {S : Nat → Bool} {i j : Nat} {o x : Oper} (D : DrawOk P ops) (c : Cl ops S) (R : Rdy ops S i o) (hx : ops[j]? = some x) (hij : j < i) (ht : touch ops x o = true ∨ (isX (cls P x) = true ∧ isX (cls P o) = true)) : S j = true :=
  D.closed c i o R.at_ R.edge j (D.ord j i x o hx R.at_ hij ht)
theorem Rdy.size {S : Nat → Bool} {i : Nat} {o : Oper} (R : Rdy ops S i o) : i < ops.size := (Array.getElem?_eq_some_iff.1 R.at_).1
theorem Trc.slot (T : Trc P call n ops fs hp vs) {S : Nat → Bool} {i : Nat} {o : Oper} (c : Cl ops S) (R : Rdy ops S i o) {t : Tmp} (ht : Names ops o t) : vAt ops fs vs S t = (fs i).eval (.tmp t) := by
  unfold vAt
  rw [lastW_above (i := i) (Nat.le_of_lt R.size), ← T.all t i (Nat.le_of_lt R.size)]
  · apply lastW_eq
    intro j hj hd
    obtain ⟨x, hx, hxd⟩ := at_dst hd
    exact R.below T.ok c hx hj (.inl (touch_l hxd ht))
  · intro j h1 h2 hd
    obtain ⟨x, hx, hxd⟩ := at_dst hd
    by_cases hij : i = j
    · subst hij; exact R.un
    · exact R.above T.ok c hx (by omega) (.inl (touch_r hxd ht))
theorem Trc.slot_step (T : Trc P call n ops fs hp vs) {S S' : Nat → Bool} {i : Nat} {o : Oper} (c : Cl ops S) (R : Rdy ops S i o) (hS : ∀ j, S' j = if j = i then true else S j) (t : Tmp) :
    vAt ops fs vs S' t = if o.dst = some t then vs i else vAt ops fs vs S t := by
  unfold vAt
  split
  · rename_i hd
    have hlt := R.size
    rw [lastW_above (i := i + 1) (by omega)]
    · simp [lastW, hS, R.at_, hd]
    · intro j h1 h2 hdj
      obtain ⟨x, hx, hxd⟩ := at_dst hdj
      rw [hS, if_neg (by omega)]
      exact R.above T.ok c hx (by omega) (.inl (touch_r hxd (names_dst hd)))
  · rename_i hd
    apply lastW_eq
    intro j _ hdj
    rw [hS, if_neg]
    rintro rfl
    obtain ⟨x, hx, hxd⟩ := at_dst hdj
    rw [R.at_] at hx; cases hx
    exact hd hxd

/-! counting -/
theorem cnt_zip (p : Oper → Bool) : ∀ (l : List Oper) (s q : Nat), (l.zipIdx s).countP (fun x => p x.1 && decide (x.2 < s + q)) = (l.take q).countP p
  | [], _, _ => by simp
  | o :: l, s, 0 => by
    simp only [List.take_zero, List.countP_nil, Nat.add_zero]
    rw [List.countP_eq_zero]
    intro x hx
    have := List.le_snd_of_mem_zipIdx hx
    simp; omega
  | o :: l, s, q + 1 => by
    rw [List.zipIdx_cons, List.countP_cons, List.take_succ_cons, List.countP_cons]
    have := cnt_zip p l (s + 1) q
    rw [show s + (q + 1) = s + 1 + q by omega, this]
    simp [show s < s + 1 + q by omega]
theorem cntX_zip (q : Nat) : cntX P ops.toList q = (ops.toList.zipIdx).countP (fun x => isX (cls P x.1) && decide (x.2 < q)) := by
  have := cnt_zip (fun o => isX (cls P o)) ops.toList 0 q
  simp only [Nat.zero_add] at this
  exact this.symm
theorem loOf_zip (i : Nat) : loOf P ops i = (ops.toList.zipIdx).countP (fun x => isX (cls P x.1) && ((masks ops).getD i 0).testBit x.2) := by
  rw [List.countP_eq_length_filter]; rfl
theorem hiOf_zip (i : Nat) : hiOf P ops i = (ops.toList.zipIdx).countP (fun x => isX (cls P x.1) && !((masks ops).getD x.2 0).testBit i) := by
  rw [List.countP_eq_length_filter]; rfl
theorem of_zip {x : Oper × Nat} (h : x ∈ ops.toList.zipIdx) : ops[x.2]? = some x.1 := by
  have := List.mem_zipIdx_iff_getElem?.1 h
  simpa using this

/-- the state of a run -/
structure Inv (P : Program) (ops : Array Oper) (n : Nat) (fs : Nat → Fr) (hp : Nat → Heap) (vs : Nat → AV) (ds : List Deferred) (ρ₀ : Ren) (h₀ : Heap) (w₀ : World) (S : Nat → Bool) (k : Nat) (ρ : Ren) (a : Act) (w : World) : Prop where
  cl : Cl ops S
  fr : ∀ t, (vAt ops fs vs S t).den ρ = some (a.tmps.getD t undef)
  size : a.tmps.size = n
  ds : a.defers = ds
  cut : ∀ j o, ops[j]? = some o → isX (cls P o) = true → (S j = true ↔ j < k)
  kle : k ≤ ops.size
  stp : Stp ρ₀ h₀ w₀ ρ (hp k) w
theorem Trc.level (T : Trc P call n ops fs hp vs) : ∀ (d i : Nat), i + d ≤ ops.size → (∀ j o, ops[j]? = some o → i ≤ j → j < i + d → isX (cls P o) = false) → hp (i + d) = hp i
  | 0, _, _, _ => rfl
  | d + 1, i, h, hh => by
    have ho : ops[i + d]? = some (ops[i + d]'(by omega)) := Array.getElem?_eq_getElem _
    rw [show i + (d + 1) = (i + d) + 1 by omega, T.flat _ _ ho (hh _ _ ho (by omega) (by omega)), T.level d i (by omega) fun j o h1 h2 h3 => hh j o h1 h2 (by omega)]
theorem Trc.level2 (T : Trc P call n ops fs hp vs) {i k : Nat} (hi : i ≤ ops.size) (hk : k ≤ ops.size) (hh : ∀ j o, ops[j]? = some o → isX (cls P o) = true → (j < i ↔ j < k)) : hp k = hp i := by
  rcases Nat.le_total i k with h | h
  · have := T.level (k - i) i (by omega) fun j o h1 h2 h3 => by
      cases hc : isX (cls P o) with
      | false => rfl
      | true => have := hh j o h1 hc; omega
    rwa [show i + (k - i) = k by omega] at this
  · have := T.level (i - k) k (by omega) fun j o h1 h2 h3 => by
      cases hc : isX (cls P o) with
      | false => rfl
      | true => have := hh j o h1 hc; omega
    rw [show k + (i - k) = i by omega] at this
    exact this.symm
theorem cnt_lt_of {i k : Nat} (_h : i < k) {j : Nat} {o : Oper} (ho : ops[j]? = some o) (hx : isX (cls P o) = true) (h1 : i ≤ j) (h2 : j < k) : cntX P ops.toList i < cntX P ops.toList k := by
  have hj : ops.toList[j]? = some o := by simpa using ho
  have hlt : j < ops.toList.length := (List.getElem?_eq_some_iff.1 hj).1
  have mono : ∀ {p q : Nat}, p ≤ q → cntX P ops.toList p ≤ cntX P ops.toList q := by
    intro p q hpq
    unfold cntX
    exact List.Sublist.countP_le ((List.take_sublist_take_left hpq))
  have hstep : cntX P ops.toList (j + 1) = cntX P ops.toList j + 1 := by
    unfold cntX
    rw [List.take_add_one, hj]
    simp [hx]
  have := mono (p := i) (q := j) h1
  have := mono (p := j + 1) (q := k) h2
  omega
theorem Trc.level3 (T : Trc P call n ops fs hp vs) {i k : Nat} (hi : i ≤ ops.size) (hk : k ≤ ops.size) (hc : cntX P ops.toList k = cntX P ops.toList i) : hp k = hp i := by
  refine T.level2 hi hk fun j o ho hx => ?_
  constructor
  · intro h1
    rcases Nat.lt_or_ge j k with h | h
    · exact h
    · have := cnt_lt_of (i := k) (k := i) (by omega) ho hx h h1
      omega
  · intro h1
    rcases Nat.lt_or_ge j i with h | h
    · exact h
    · have := cnt_lt_of (i := i) (k := k) (by omega) ho hx h h1
      omega
theorem wantA_at {ρ : Ren} {fr : Fr} {a : Act} {o : Oper} (hs : ∀ t, guardTmp ops o = some t → (fr.eval (.tmp t)).den ρ = some (a.tmps.getD t undef)) : wantA ops fr o = Region.wanted o (yielded ops a.tmps) := by
  unfold wantA Region.wanted
  unfold guardTmp at hs
  cases hg : o.guard with
  | none => rfl
  | some g =>
    obtain ⟨j, want⟩ := g
    simp only [yielded]
    simp only [hg] at hs
    cases hd : (ops[j]?).bind (·.dst) with
    | none => simp
    | some t =>
      simp only [Option.bind_some]
      have ht := hs t hd
      rw [Array.getD_eq_getD_getElem?] at ht
      cases hx : a.tmps[t]? with
      | none =>
        rw [hx] at ht
        simp only [Option.getD_none] at ht
        split
        · rename_i b hb
          rw [hb] at ht; simp [AV.den, undef] at ht
        · rfl
      | some x =>
        rw [hx] at ht
        simp only [Option.getD_some] at ht
        by_cases hb : ∃ b, x = .bool b
        · obtain ⟨b, rfl⟩ := hb
          rw [den_isBool ht]
          rfl
        · have h1 : ∀ b, fr.eval (.tmp t) ≠ .bool b := fun b hc => hb ⟨b, den_bool (hc ▸ ht)⟩
          split
          · rename_i b hc; exact absurd hc (h1 b)
          · cases x <;> first
              | rfl
              | exact absurd ⟨_, rfl⟩ hb
end Go.Ai
