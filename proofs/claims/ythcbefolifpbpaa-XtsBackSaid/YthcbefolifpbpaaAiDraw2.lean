import Derived.Test.YthcbefolifpbpaaAiDraw
namespace Go.Ai
open Go
set_option linter.unusedSimpArgs false
variable {P : Program} {β : Type}

/-! masks: what stands in them is ahead -/
theorem maskOf_bit {acc : List Nat} {i : Nat} : ∀ {es : List Edge}, (maskOf acc es).testBit i = true → ∃ e ∈ es, Region.binds .any e = true ∧ (e.on = i ∨ (acc.getD e.on 0).testBit i = true)
  | [], h => by simp [maskOf] at h
  | e :: es, h => by
    simp only [maskOf] at h
    split at h
    · rename_i hb
      simp only [Nat.testBit_or, Bool.or_eq_true] at h
      rcases h with (h | h) | h
      · refine ⟨e, by simp, hb, .inl ?_⟩
        rw [Nat.testBit_two_pow] at h
        simpa using h
      · exact ⟨e, by simp, hb, .inr h⟩
      · obtain ⟨e', h1, h2⟩ := maskOf_bit h
        exact ⟨e', by simp [h1], h2⟩
    · obtain ⟨e', h1, h2⟩ := maskOf_bit h
      exact ⟨e', by simp [h1], h2⟩
theorem masksA_pre : ∀ (l : List Oper) (acc : List Nat), ∃ r, masksA l acc = acc ++ r
  | [], acc => ⟨[], by simp [masksA]⟩
  | o :: l, acc => by
    obtain ⟨r, h⟩ := masksA_pre l (acc ++ [maskOf acc o.after.toList])
    exact ⟨maskOf acc o.after.toList :: r, by simp [masksA, h]⟩
theorem masksA_at : ∀ (l : List Oper) (acc : List Nat) (j : Nat) (o : Oper), l[j]? = some o → ∃ acc', (∃ r, masksA l acc = acc' ++ r) ∧ (masksA l acc).getD (acc.length + j) 0 = maskOf acc' o.after.toList
  | [], _, _, _, h => by simp at h
  | x :: l, acc, j, o, h => by
    cases j with
    | zero =>
      simp at h; subst h
      obtain ⟨r, hr⟩ := masksA_pre l (acc ++ [maskOf acc x.after.toList])
      refine ⟨acc, ⟨maskOf acc x.after.toList :: r, by simp [masksA, hr]⟩, ?_⟩
      simp [masksA, hr]
    | succ j =>
      obtain ⟨acc', h1, h2⟩ := masksA_at l (acc ++ [maskOf acc x.after.toList]) j o (by simpa using h)
      refine ⟨acc', h1, ?_⟩
      rw [show acc.length + (j + 1) = (acc ++ [maskOf acc x.after.toList]).length + j by simp; omega]
      exact h2
theorem masks_bit {ops : Array Oper} {i j : Nat} {o : Oper} (hj : ops[j]? = some o) (h : ((masks ops).getD j 0).testBit i = true) : ∃ e ∈ o.after, Region.binds .any e = true ∧ (e.on = i ∨ ((masks ops).getD e.on 0).testBit i = true) := by
  obtain ⟨acc', ⟨r, hr⟩, h2⟩ := masksA_at ops.toList [] j o (by simpa using hj)
  simp only [List.length_nil, Nat.zero_add] at h2
  unfold masks at h
  rw [h2] at h
  obtain ⟨e, h3, h4, h5⟩ := maskOf_bit h
  refine ⟨e, Array.mem_toList_iff.1 h3, h4, h5.imp id fun h5 => ?_⟩
  unfold masks
  rw [hr]
  have hlt : e.on < acc'.length := by
    rcases Nat.lt_or_ge e.on acc'.length with c | c
    · exact c
    · rw [List.getD_eq_getElem?_getD, List.getElem?_eq_none c] at h5
      simp at h5
  rw [List.getD_eq_getElem?_getD] at h5 ⊢
  rw [List.getElem?_append_left hlt]
  exact h5

/-! what drawOk says -/
structure DrawOk (P : Program) (ops : Array Oper) : Prop where
  edge : ∀ (i : Nat) (o : Oper), ops[i]? = some o → ∀ e ∈ o.after, Region.binds .any e = true → e.on < i
  ord : ∀ (i j : Nat) (x y : Oper), ops[i]? = some x → ops[j]? = some y → i < j → touch ops x y = true ∨ (isX (cls P x) = true ∧ isX (cls P y) = true) → ((masks ops).getD j 0).testBit i = true
theorem mem_zipIdx {ops : Array Oper} {i : Nat} {o : Oper} (h : ops[i]? = some o) : (o, i) ∈ ops.toList.zipIdx := by
  rw [List.mem_iff_getElem?]
  exact ⟨i, by simp [h]⟩
theorem drawOk_spec {ops : Array Oper} (h : drawOk P ops = true) : DrawOk P ops := by
  unfold drawOk at h
  simp only [Bool.and_eq_true, List.all_eq_true] at h
  obtain ⟨h1, h2⟩ := h
  refine ⟨fun i o ho e he hb => ?_, fun i j x y hx hy hij ht => ?_⟩
  · have := h1 (o, i) (mem_zipIdx ho) e (Array.mem_toList_iff.2 he)
    simpa [hb] using this
  · have := h2 (y, j) (mem_zipIdx hy) (x, i) (mem_zipIdx hx)
    rcases ht with ht | ⟨c1, c2⟩ <;> simp_all

/-! the run in the text's order, laid open -/
def cntX (P : Program) (l : List Oper) (q : Nat) : Nat := (l.take q).countP fun o => isX (cls P o)
structure StepAt (P : Program) (call : CallK) (n : Nat) (ops : Array Oper) (fs : Nat → Fr) (hp : Nat → Heap) (vs : Nat → AV) (j : Nat) (o : Oper) : Prop where
  yes : wantA ops (fs j) o = true → ∃ h', opK P call (fs j).eval o (hp j) (fun v h => some (v, h)) = some (vs j, h') ∧ (isX (cls P o) = true → hp (j + 1) = h')
  no : wantA ops (fs j) o = false → vs j = undefA ∧ hp (j + 1) = hp j
  put : ∀ t, (fs (j + 1)).eval (.tmp t) = if o.dst = some t then vs j else (fs j).eval (.tmp t)
  lt : ∀ t, o.dst = some t → t < n
def logOf (P : Program) (ops : Array Oper) (fs : Nat → Fr) (vs : Nat → AV) (j : Nat) (o : Oper) : Option Log :=
  if wantA ops (fs j) o = true ∧ isR (cls P o) = true then some ⟨o, fs j, vs j⟩ else none
theorem putK_at {n : Nat} {fr : Fr} {dst : Option Tmp} {v : AV} {K : Fr → Option β} {r : β} (hk : putK n fr dst v K = some r) :
    ∃ fr', K fr' = some r ∧ (∀ t, fr'.eval (.tmp t) = if dst = some t then v else fr.eval (.tmp t)) ∧ ∀ t, dst = some t → t < n := by
  unfold putK at hk
  split at hk
  · exact ⟨fr, hk, fun t => by simp, fun t h => by cases h⟩
  · rename_i d
    split at hk
    · rename_i hd
      rw [setK_eq] at hk
      refine ⟨_, hk, fun t => ?_, fun t h => by cases h; simpa [Nat.blt_eq] using hd⟩
      by_cases ht : t = d
      · subst ht; rw [eval_tmp, get_set_same]; simp
      · rw [eval_tmp, get_set_ne _ (fun e => ht (pth_inj e)), ← eval_tmp, if_neg (fun e => ht (by cases e; rfl))]
    · cases hk
theorem opsDK_trace {call : CallK} {n : Nat} {ops : Array Oper} : ∀ (l : List Oper) {fr : Fr} {h : Heap} {lg : List (Option Log)} {tl : List Heap} {K : Fr → Heap → List (Option Log) → List Heap → Option β} {r : β},
    opsDK P call n ops l fr h lg (h :: tl) K = some r → ∃ (fs : Nat → Fr) (hp : Nat → Heap) (vs : Nat → AV) (lg' : List (Option Log)) (ex : List Heap), fs 0 = fr ∧ hp 0 = h ∧ (∀ j o, l[j]? = some o → StepAt P call n ops fs hp vs j o) ∧
      K (fs l.length) (hp l.length) (lg' ++ lg) (ex ++ h :: tl) = some r ∧ (lg'.length = l.length ∧ ∀ j o, l[j]? = some o → lg'.reverse[j]? = some (logOf P ops fs vs j o)) ∧
      (∀ q, q ≤ l.length → (ex ++ h :: tl).reverse[tl.length + cntX P l q]? = some (hp q)) ∧ (∀ j o, l[j]? = some o → isX (cls P o) = false → hp (j + 1) = hp j)
  | [], fr, h, lg, tl, K, r, hk => by
    refine ⟨fun _ => fr, fun _ => h, fun _ => undefA, [], [], rfl, rfl, by simp, hk, by simp, ?_, by simp⟩
    intro q hq
    have : q = 0 := by simpa using hq
    subst this
    simp [cntX]
  | o :: l, fr, h, lg, tl, K, r, hk => by
    -- both ways come to one step
    have main : ∀ (v : AV) (h' : Heap) (fr' : Fr) (w : Bool), wantA ops fr o = w → (w = true → ∃ h2, opK P call fr.eval o h (fun v h => some (v, h)) = some (v, h2) ∧ (isX (cls P o) = true → h' = h2)) → (w = false → v = undefA ∧ h' = h) →
        (∀ t, fr'.eval (.tmp t) = if o.dst = some t then v else fr.eval (.tmp t)) → (∀ t, o.dst = some t → t < n) → (isX (cls P o) = false → h' = h) →
        opsDK P call n ops l fr' h' ((if w = true ∧ isR (cls P o) = true then some ⟨o, fr, v⟩ else none) :: lg) (if isX (cls P o) = true then h' :: h :: tl else h' :: tl) K = some r →
        ∃ (fs : Nat → Fr) (hp : Nat → Heap) (vs : Nat → AV) (lg' : List (Option Log)) (ex : List Heap), fs 0 = fr ∧ hp 0 = h ∧ (∀ j o', (o :: l)[j]? = some o' → StepAt P call n ops fs hp vs j o') ∧
      K (fs (o :: l).length) (hp (o :: l).length) (lg' ++ lg) (ex ++ h :: tl) = some r ∧ (lg'.length = (o :: l).length ∧ ∀ j o', (o :: l)[j]? = some o' → lg'.reverse[j]? = some (logOf P ops fs vs j o')) ∧
      (∀ q, q ≤ (o :: l).length → (ex ++ h :: tl).reverse[tl.length + cntX P (o :: l) q]? = some (hp q)) ∧ (∀ j o', (o :: l)[j]? = some o' → isX (cls P o') = false → hp (j + 1) = hp j) := by
      intro v h' fr' w hw hy hn hput hlt hX hk
      obtain ⟨tl', htl, htl2⟩ : ∃ tl', (if isX (cls P o) = true then h' :: h :: tl else h' :: tl) = h' :: tl' ∧ ((isX (cls P o) = true ∧ tl' = h :: tl) ∨ (isX (cls P o) = false ∧ tl' = tl)) := by
        cases hc : isX (cls P o)
        · exact ⟨tl, by simp, .inr ⟨rfl, rfl⟩⟩
        · exact ⟨h :: tl, by simp, .inl ⟨rfl, rfl⟩⟩
      rw [htl] at hk
      obtain ⟨fs, hp, vs, lg', ex, f0, p0, st, hK, ⟨ll, hl⟩, hq, hx⟩ := opsDK_trace l hk
      refine ⟨fun j => match j with | 0 => fr | j + 1 => fs j, fun j => match j with | 0 => h | j + 1 => hp j, fun j => match j with | 0 => v | j + 1 => vs j, lg' ++ [if w = true ∧ isR (cls P o) = true then some ⟨o, fr, v⟩ else none],
        ex ++ (if isX (cls P o) = true then [h'] else []), rfl, rfl, ?_, ?_, ⟨by simp [ll], ?_⟩, ?_, ?_⟩
      · intro j o' hj
        cases j with
        | zero =>
          simp at hj; subst hj
          refine ⟨fun hc => ?_, fun hc => ?_, fun t => ?_, hlt⟩
          · simp only at hc ⊢; rw [p0]; exact hy (by rw [← hw]; exact hc)
          · simp only at hc ⊢; rw [p0]; exact hn (by rw [← hw]; exact hc)
          · simp only; rw [f0]; exact hput t
        | succ j =>
          have := st j o' (by simpa using hj)
          exact ⟨this.yes, this.no, this.put, this.lt⟩
      · simp only [List.length_cons, List.append_assoc, List.singleton_append]
        have e : ex ++ ((if isX (cls P o) = true then [h'] else []) ++ h :: tl) = ex ++ h' :: tl' := by
          rcases htl2 with ⟨c, rfl⟩ | ⟨c, rfl⟩
          · simp [c]
          · simp [c, hX c]
        rw [e]; exact hK
      · intro j o' hj
        rw [List.reverse_append]
        cases j with
        | zero => simp at hj; subst hj; simp [logOf, hw]
        | succ j =>
          have := hl j o' (by simpa using hj)
          simpa [logOf] using this
      · intro q hqle
        have e : ex ++ (if isX (cls P o) = true then [h'] else []) ++ h :: tl = ex ++ h' :: tl' := by
          rcases htl2 with ⟨c, rfl⟩ | ⟨c, rfl⟩
          · simp [c]
          · simp [c, hX c]
        rw [e]
        cases q with
        | zero =>
          simp only [cntX, List.take_zero, List.countP_nil, Nat.add_zero]
          rcases htl2 with ⟨c, rfl⟩ | ⟨c, rfl⟩
          · simp only [List.reverse_append, List.reverse_cons, List.append_assoc]
            rw [List.getElem?_append_right (by simp)]
            simp
          · simp only [List.reverse_append, List.reverse_cons, List.append_assoc]
            rw [List.getElem?_append_right (by simp)]
            simp [hX c]
        | succ q =>
          have := hq q (by simpa using hqle)
          have e2 : tl.length + cntX P (o :: l) (q + 1) = tl'.length + cntX P l q := by
            simp only [cntX, List.take_succ_cons, List.countP_cons]
            rcases htl2 with ⟨c, rfl⟩ | ⟨c, rfl⟩
            · simp [c]; omega
            · simp [c]
          rw [e2]; exact this
      · intro j o' hj hxo
        cases j with
        | zero => simp at hj; subst hj; simp only; rw [p0]; exact hX hxo
        | succ j => exact hx j o' (by simpa using hj) hxo
    simp only [opsDK] at hk
    split at hk
    · rename_i hw
      split at hk
      · rename_i v h' hop
        split at hk
        · rename_i hc
          have hr : isR (cls P o) = false := by
            cases hcl : cls P o <;> simp_all [isX, isR]
          obtain ⟨fr', hk, hput, hlt⟩ := putK_at hk
          refine main v h' fr' true hw (fun _ => ⟨_, hop, fun _ => rfl⟩) (fun c => by cases c) hput hlt (fun c => by rw [hc] at c; cases c) ?_
          rw [← hk, hc, hr]
          rfl
        · rename_i hc
          obtain ⟨fr', hk, hput, hlt⟩ := putK_at hk
          refine main v h fr' true hw (fun _ => ⟨_, hop, fun c => by rw [hc] at c; cases c⟩) (fun c => by cases c) hput hlt (fun _ => rfl) ?_
          rw [← hk, hc]
          cases isR (cls P o) <;> rfl
      · cases hk
    · rename_i hw
      obtain ⟨fr', hk, hput, hlt⟩ := putK_at hk
      refine main undefA h fr' false hw (fun c => by cases c) (fun _ => ⟨rfl, rfl⟩) hput hlt (fun _ => rfl) ?_
      rw [← hk]
      cases isX (cls P o) <;> simp
end Go.Ai
