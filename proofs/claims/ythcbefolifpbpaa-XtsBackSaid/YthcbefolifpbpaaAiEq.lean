import Derived.Test.YthcbefolifpbpaaAiMem
import Derived.ChangeKeysEq
import Derived.Laws.StructEq
namespace Go.Ai
open Go
variable {P : Program} {β : Type}

/-- two cells, as values -/
def vEq : Kd → Value → Value → Option Bool
  | .i, .int k a, .int k' b => if k = k' then some (a == b) else none
  | .b, .bool a, .bool b => some (a == b)
  | .s, .string a, .string b => some (a.toList == b.toList)
  | _, _, _ => none
def vsEq : List Kd → List Value → List Value → Option Bool
  | [], [], [] => some true
  | q :: qs, a :: x, b :: y => match vEq q a b with
    | some true => vsEq qs x y
    | some false => some false
    | none => none
  | _, _, _ => none
theorem ieq_eq (a b : Int) : ieq a b = (a == b) := by
  cases a <;> cases b <;> simp only [ieq]
  · rename_i a b
    rw [Bool.eq_iff_iff]; simp; omega
  · rw [Bool.eq_iff_iff]; simp
  · rw [Bool.eq_iff_iff]; simp
  · rename_i a b
    rw [Bool.eq_iff_iff]; simp
theorem ile_eq (a b : Int) : ile a b = decide (a ≤ b) := by
  cases a <;> cases b <;> simp only [ile] <;> rw [Bool.eq_iff_iff] <;> simp <;> omega
theorem kEq_val {ρ : Ren} {q : Kd} {a b : AV} {x y : Value} {r : Bool} (h : kEq q a b = some r) (ha : a.den ρ = some x) (hb : b.den ρ = some y) : vEq q x y = some r := by
  unfold kEq at h
  split at h
  · simp only [AV.den, Option.some.injEq] at ha hb
    subst ha; subst hb
    simpa [vEq, ieq_eq] using h
  · simp only [AV.den, Option.some.injEq] at ha hb
    subst ha; subst hb
    simpa [vEq] using h
  · simp only [AV.den, Option.some.injEq] at ha hb
    subst ha; subst hb
    simpa [vEq, ByteArray.toList_eq] using h
  · cases h
theorem lenIs_len {q : List Kd} {x y : List AV} (h : lenIs q x y = true) : x.length = q.length ∧ y.length = q.length := by
  induction q generalizing x y with
  | nil => cases x <;> cases y <;> simp_all [lenIs]
  | cons k q ih =>
    cases x with
    | nil => cases y <;> simp [lenIs] at h
    | cons _ x => cases y with
      | nil => simp [lenIs] at h
      | cons _ y => have := ih (show lenIs q x y = true from h); simp; omega
theorem scsEqK_some {ρ : Ren} {q : List Kd} {a b : List AV} {x y : List Value} {K : Bool → Option β} {r : β} (h : scsEqK q a b K = some r) (ha : denL ρ a = some x) (hb : denL ρ b = some y) :
    ∃ c, vsEq q x y = some c ∧ x.length = q.length ∧ y.length = q.length ∧ K c = some r := by
  induction q generalizing a b x y with
  | nil =>
    cases a <;> cases b <;> simp [scsEqK] at h
    rw [denL_nil] at ha hb; cases ha; cases hb; exact ⟨true, rfl, rfl, rfl, h⟩
  | cons k q ih =>
    cases a with
    | nil => simp [scsEqK] at h
    | cons v vs =>
      cases b with
      | nil => simp [scsEqK] at h
      | cons u us =>
        obtain ⟨p, ps, h1, h2, rfl⟩ := denL_cons.1 ha
        obtain ⟨t, ts, h3, h4, rfl⟩ := denL_cons.1 hb
        simp only [scsEqK] at h
        split at h
        · rename_i he
          obtain ⟨c, g1, g2, g3, g4⟩ := ih h h2 h4
          exact ⟨c, by simp [vsEq, kEq_val he h1 h3, g1], by simp [g2], by simp [g3], g4⟩
        · rename_i he
          split at h
          · rename_i hl
            obtain ⟨g1, g2⟩ := lenIs_len hl
            exact ⟨false, by simp [vsEq, kEq_val he h1 h3], by simp [denL_len h2, g1], by simp [denL_len h4, g2], h⟩
          · cases h
        · cases h
theorem vsEq_app {p q : List Kd} {a b x y : List Value} {c : Bool} (hl : a.length = p.length) (hm : b.length = p.length) (h : vsEq (p ++ q) (a ++ x) (b ++ y) = some c) :
    ∃ d, vsEq p a b = some d ∧ (d = false → c = false) ∧ (d = true → vsEq q x y = some c) := by
  induction p generalizing a b with
  | nil =>
    rw [List.length_eq_zero_iff.1 hl, List.length_eq_zero_iff.1 hm] at h ⊢
    exact ⟨true, rfl, by simp, fun _ => h⟩
  | cons k p ih =>
    cases a with
    | nil => simp at hl
    | cons v vs => cases b with
      | nil => simp at hm
      | cons u us =>
        simp only [List.cons_append, vsEq] at h ⊢
        split at h
        · obtain ⟨d, g1, g2, g3⟩ := ih (by simpa using hl) (by simpa using hm) h
          exact ⟨d, g1, g2, g3⟩
        · cases h
          exact ⟨false, rfl, by simp, by simp⟩
        · cases h

theorem plainKs_agg {d : Nat} {t : TypeId} {n : List Kd} (h : plainKs P (d + 1) t = some n) : ∃ u, P.underlying t = some u ∧ (isAggD u = true ∨ (isAggD u = false ∧ ∃ q, plainS u = some q ∧ n = [q])) := by
  unfold plainKs at h
  cases hu : P.underlying t with
  | none => simp [hu] at h
  | some u =>
    refine ⟨u, rfl, ?_⟩
    rw [hu] at h
    cases u <;> simp_all [isAggD, plainS]
/-- a value of the type out of its cells -/
def mkV (P : Program) (t : TypeId) (X : List Value) : Value :=
  match P.underlying t with
  | some d => if isAggD d then .agg X.toArray else X.headD undef
  | none => undef
theorem run_partV {d : Nat} {t : TypeId} {ks : List Kd} (h : plainKs P (d + 1) t = some ks) (hc : P.cellsOf t = ks.length) (X : List Value) (off : Nat) (hl : off + ks.length ≤ X.length) (w : World) :
    (part t X.toArray off).run P w = .ok (mkV P t ((X.drop off).take ks.length)) w := by
  obtain ⟨u, hu, hs⟩ := plainKs_agg h
  obtain ⟨i, hi⟩ := info_of_underlying hu
  rcases hs with hs | ⟨ha, q, hs, rfl⟩
  · have hex : X.toArray.extract off (off + ks.length) = ((X.drop off).take ks.length).toArray := by
      apply Array.ext'
      simp [List.extract_eq_take_drop]
    simp only [part, Sem.run_bind, runAgg t hu, Result.andThen_ok, hs, if_true, run_sizeOf w hi, hc, Sem.run_pure]
    rw [hex]
    simp [mkV, hu, hs]
  · have hg : off < X.length := by simp at hl; omega
    simp only [part, Sem.run_bind, runAgg t hu, Result.andThen_ok, ha, Bool.false_eq_true, if_false]
    simp [hg, mkV, hu, ha, List.headD_eq_head?_getD, List.head?_take]
theorem vsEq_one {q : Kd} {x y : Value} {c : Bool} (h : vsEq [q] [x] [y] = some c) : vEq q x y = some c := by
  simp only [vsEq] at h
  split at h
  · rename_i e; rw [e]; exact h
  · rename_i e; rw [e]; exact h
  · cases h
theorem repL_len {α : Type} (n : Nat) (l : List α) : (repL n l).length = n * l.length := by
  induction n with
  | zero => simp [repL]
  | succ n ih => simp [repL, ih, Nat.succ_mul]; omega
theorem items_eq {t : TypeId} {ks : List Kd} {m : Nat} (dd : Nat) (hc : P.cellsOf t = ks.length)
    (hp : ∀ (X : List Value) (off : Nat), off + ks.length ≤ X.length → ∀ w, (part t X.toArray off).run P w = .ok (mkV P t ((X.drop off).take ks.length)) w)
    (ih : ∀ (X Y : List Value) (c : Bool) (w : World), X.length = ks.length → Y.length = ks.length → vsEq ks X Y = some c → (Op.equalIn dd t (mkV P t X) (mkV P t Y)).run P w = .ok c w) (X Y : List Value) (w : World)
    (hX : X.length = m * ks.length) (hY : Y.length = m * ks.length) :
    ∀ (k j : Nat) (c : Bool), j + k = m → vsEq (repL k ks) (X.drop (j * ks.length)) (Y.drop (j * ks.length)) = some c → (Op.eqItems dd t (P.cellsOf t) X.toArray Y.toArray (List.range' j k)).run P w = .ok c w := by
  generalize hn : ks.length = n at *
  intro k
  induction k with
  | zero =>
    intro j c hj h
    have hj : j = m := by omega
    subst hj
    rw [List.drop_of_length_le (by omega), List.drop_of_length_le (by omega)] at h
    cases h
    rfl
  | succ k ihk =>
    intro j c hj h
    have hle : j * n + n ≤ m * n := by
      have := Nat.mul_le_mul_right n (show j + 1 ≤ m by omega)
      rw [Nat.succ_mul] at this; exact this
    have eX : X.drop (j * n) = (X.drop (j * n)).take n ++ X.drop ((j + 1) * n) := by
      rw [Nat.succ_mul, ← List.drop_drop, List.take_append_drop]
    have eY : Y.drop (j * n) = (Y.drop (j * n)).take n ++ Y.drop ((j + 1) * n) := by
      rw [Nat.succ_mul, ← List.drop_drop, List.take_append_drop]
    rw [eX, eY, repL] at h
    obtain ⟨d, g1, g2, g3⟩ := vsEq_app (by simp; omega) (by simp; omega) h
    have hr := ih _ _ d w (by simp; omega) (by simp; omega) g1
    rw [List.range'_succ]
    simp only [Op.eqItems, Sem.run_bind, hc, hp X (j * n) (by omega) w, hp Y (j * n) (by omega) w, Result.andThen_ok, hr]
    cases d with
    | false => simp [g2 rfl]
    | true =>
      have := ihk (j + 1) c (by omega) (g3 rfl)
      rw [hc] at this
      simpa using this
theorem fields_eq {dd d : Nat} (ih : ∀ t n, plainKs P d t = some n → ∀ (X Y : List Value) (c : Bool) (w : World), X.length = n.length → Y.length = n.length → vsEq n X Y = some c → (Op.equalIn dd t (mkV P t X) (mkV P t Y)).run P w = .ok c w)
    (X Y : List Value) (w : World) : ∀ (fs : List Field) (at_ : Nat) (ks : List Kd) (c : Bool), plainFs P (plainKs P d) fs at_ = some ks → X.length = at_ + ks.length → Y.length = at_ + ks.length → vsEq ks (X.drop at_) (Y.drop at_) = some c →
      (Op.eqFields dd X.toArray Y.toArray fs).run P w = .ok c w := by
  intro fs
  induction fs with
  | nil =>
    intro at_ ks c h hX hY hv
    simp [plainFs] at h; subst h
    rw [List.drop_of_length_le (by simp at hX; omega), List.drop_of_length_le (by simp at hY; omega)] at hv
    cases hv
    rfl
  | cons f fs ihf =>
    intro at_ ks c h hX hY hv
    simp only [plainFs] at h
    split at h
    · rename_i s hn ho hs
      split at h
      · rename_i hc
        split at h
        · rename_i r hr0
          cases h
          have hc := Nat.eq_of_beq_eq_true hc
          have ho := Nat.eq_of_beq_eq_true ho
          have hnm : f.name ≠ "_" := by simpa using hn
          simp only [List.length_append] at hX hY
          have eX : X.drop at_ = (X.drop at_).take s.length ++ X.drop (at_ + s.length) := by rw [← List.drop_drop, List.take_append_drop]
          have eY : Y.drop at_ = (Y.drop at_).take s.length ++ Y.drop (at_ + s.length) := by rw [← List.drop_drop, List.take_append_drop]
          rw [eX, eY] at hv
          obtain ⟨b, g1, g2, g3⟩ := vsEq_app (by simp; omega) (by simp; omega) hv
          obtain ⟨d', rfl⟩ : ∃ d', d = d' + 1 := by
            cases d with
            | zero => simp [plainKs] at hs
            | succ d => exact ⟨d, rfl⟩
          have p1 := run_partV hs hc X at_ (by omega) w
          have p2 := run_partV hs hc Y at_ (by omega) w
          have hr := ih _ _ hs _ _ b w (by simp; omega) (by simp; omega) g1
          simp only [Op.eqFields, hnm, ne_eq, not_false_eq_true, if_true, Sem.run_bind, ho, p1, p2, Result.andThen_ok, hr]
          cases b with
          | false => simp [g2 rfl]
          | true => simpa using ihf _ _ c hr0 (by omega) (by omega) (g3 rfl)
        · cases h
      · cases h
    · cases h
theorem plain_eq (k : Nat) : ∀ (d : Nat) (t : TypeId) (ks : List Kd), plainKs P d t = some ks → ∀ (X Y : List Value) (c : Bool) (w : World), X.length = ks.length → Y.length = ks.length → vsEq ks X Y = some c →
    (Op.equalIn (k + d) t (mkV P t X) (mkV P t Y)).run P w = .ok c w := by
  intro d
  induction d with
  | zero => intro t n h; simp [plainKs] at h
  | succ d ih =>
    intro t ks h X Y c w hX hY hv
    unfold plainKs at h
    split at h
    · rename_i m e hu
      split at h
      · rename_i s hs
        split at h
        · rename_i hc
          have hc := Nat.eq_of_beq_eq_true hc
          cases h
          obtain ⟨i, hi⟩ : ∃ i, P.info? e = some i := by
            cases d with
            | zero => simp [plainKs] at hs
            | succ d => obtain ⟨u, hu, _⟩ := plainKs_agg hs; exact info_of_underlying hu
          rw [show k + (d + 1) = (k + d) + 1 from rfl]
          simp only [mkV, hu, isAggD, if_true]
          rw [run_equalIn_array w (k + d) _ _ hu hi, List.range_eq_range']
          rw [repL_len] at hX hY
          obtain ⟨d', rfl⟩ : ∃ d', d = d' + 1 := by
            cases d with
            | zero => simp [plainKs] at hs
            | succ d => exact ⟨d, rfl⟩
          exact items_eq (k + (d' + 1)) hc (fun X off hl w => run_partV hs hc X off hl w) (ih e s hs) X Y w hX hY m 0 c (by omega) (by simpa using hv)
        · cases h
      · cases h
    · rename_i fs hu
      split at h
      · cases h
      · rename_i hst
        rw [show k + (d + 1) = (k + d) + 1 from rfl]
        have hfs : P.fieldsOf t = fs := by simp [Program.fieldsOf, hu]
        simp only [mkV, hu, isAggD, if_true]
        rw [run_equalIn_struct w (k + d) t _ _ (by rw [hfs]; exact hu) hst, hfs]
        exact fields_eq (fun t n ht => ih t n ht) X Y w fs.toList 0 ks c h (by omega) (by omega) (by simpa using hv)
    · rename_i u h1 h2 hu
      split at h
      · rename_i q hp
        cases h
        have ha : isAggD u = false := by cases u <;> simp_all [isAggD, plainS]
        obtain ⟨x, rfl⟩ := List.length_eq_one_iff.1 hX
        obtain ⟨y, rfl⟩ := List.length_eq_one_iff.1 hY
        have hv := vsEq_one hv
        simp only [mkV, hu, ha, Bool.false_eq_true, if_false, List.headD_cons]
        rw [show k + (d + 1) = (k + d) + 1 from rfl]
        cases u <;> simp only [plainS, reduceCtorEq] at hp <;> cases hp
        · cases x <;> cases y <;> simp [vEq] at hv
          subst hv
          exact run_equalIn_bool w _ _ _ _ hu
        · cases x <;> cases y <;> simp [vEq] at hv
          obtain ⟨rfl, rfl⟩ := hv
          exact run_equalIn_int w _ _ _ _ _ _ hu
        · cases x <;> cases y <;> simp [vEq] at hv
          subst hv
          exact run_equalIn_string w _ _ _ _ hu
      · cases h
    · cases h
end Go.Ai
