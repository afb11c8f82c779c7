import Derived.Test.YthcbefolifpbpaaAiArith
namespace Go.Ai
open Go
set_option linter.unusedSimpArgs false
variable {P : Program} {β : Type}

theorem fArgs_some {ρ : Ren} {e : Operand → AV} {ev : Operand → Value} (ho : ORel ρ e ev) {xs : List Operand} {K : List AV → Option β} {r : β} (h : fArgs e xs K = some r) :
    ∃ vs, K vs = some r ∧ denL ρ vs = some (xs.map ev) := by
  induction xs generalizing K with
  | nil => exact ⟨[], h, denL_nil ρ⟩
  | cons x xs ih =>
    obtain ⟨h1, h2⟩ := fK_some h
    obtain ⟨vs, h3, h4⟩ := ih h2
    exact ⟨_, h3, denL_cons.2 ⟨_, _, ho.den h1, h4, rfl⟩⟩

/-- one operation between two values -/
def BinOk (P : Program) (op : BinOp) (t : TypeId) (x y : Operand) (a b z : Value) : Prop :=
  ∀ w, (do eqGuard op t x y a b; binOp op t a b : Sem Value).run P w = .ok z w

theorem strEq {a b : List UInt8} : ((⟨a.toArray⟩ : ByteArray).toList == (⟨b.toArray⟩ : ByteArray).toList) = (a == b) := by simp [ByteArray.toList_eq]
theorem strLess_eq (a b : List UInt8) : strLess a b = Op.bytesLess a b := by
  induction a generalizing b with
  | nil => cases b <;> rfl
  | cons x a ih => cases b with
    | nil => rfl
    | cons y b => simp only [strLess, Op.bytesLess, ih]
theorem strOpK_sound {ρ : Ren} {op : BinOp} {x y : List UInt8} {K : AV → Option β} {r : β} (h : strOpK op x y K = some r) : ∃ v z, K v = some r ∧ v.den ρ = some z ∧ ∀ w, (Op.stringOp op ⟨x.toArray⟩ ⟨y.toArray⟩).run P w = .ok z w := by
  unfold strOpK at h
  cases op <;> simp only [fB_eq, fL_eq, reduceCtorEq] at h
  case add =>
    split at h
    · rename_i hl
      refine ⟨_, _, h, rfl, fun w => ?_⟩
      have hl := Nat.le_of_ble_eq_true hl
      have : ¬ (((x.length + y.length : Nat) : Int) > IntKind.i64.max) := by simp [mostCells] at hl ⊢; omega
      have hs : ((⟨x.toArray⟩ : ByteArray).size + (⟨y.toArray⟩ : ByteArray).size) = x.length + y.length := by simp [ByteArray.size]
      simp only [Op.stringOp, hs, this, if_false, Sem.run_pure]
      congr 2
    · cases h
  all_goals
    refine ⟨_, _, h, rfl, fun w => ?_⟩
    simp [Op.stringOp, strLess_eq, ByteArray.toList_eq]

theorem den_map1 {ρ : Ren} {k : Nat} {f : Loc → Value} {x : Value} (h : (ρ k).map f = some x) : ∃ l, ρ k = some l ∧ x = f l := by
  simp only [Option.map_eq_some_iff] at h
  obtain ⟨l, h1, h2⟩ := h
  exact ⟨l, h1, h2.symm⟩
theorem den_ptr {ρ : Ren} {k o : Nat} {x : Value} (h : (AV.ptr k o).den ρ = some x) : ∃ l, ρ k = some l ∧ x = .pointer (some ⟨l.blk, l.off + o, none⟩) := by
  simp only [AV.den] at h; exact den_map1 h
theorem den_slice {ρ : Ren} {k o n c : Nat} {x : Value} (h : (AV.slice k o n c).den ρ = some x) : ∃ l, ρ k = some l ∧ x = .slice (some ⟨l.blk, l.off + o, none⟩) n c := by
  simp only [AV.den] at h; exact den_map1 h
theorem den_eslice {ρ : Ren} {k o i n : Nat} {x : Value} (h : (AV.eslice k o i n).den ρ = some x) : ∃ l, ρ k = some l ∧ i + n ≤ l.cap ∧ x = .slice (some ⟨l.blk, l.off + o, none⟩) n (l.cap - i) := by
  simp only [AV.den, Option.bind_eq_some_iff] at h
  obtain ⟨l, h1, h2⟩ := h
  split at h2
  · exact ⟨l, h1, by assumption, by simpa using h2.symm⟩
  · cases h2
theorem den_mapv {ρ : Ren} {k : Nat} {x : Value} (h : (AV.map k).den ρ = some x) : ∃ l, ρ k = some l ∧ x = .map (some l.blk) := by
  simp only [AV.den] at h; exact den_map1 h
theorem den_func {ρ : Ren} {f : Fn} {a c : List AV} {x : Value} (h : (AV.func f a c).den ρ = some x) : ∃ p q, denL ρ a = some p ∧ denL ρ c = some q ∧ x = .func f p.toArray q.toArray := by
  simp only [AV.den, Option.bind_eq_some_iff, Option.map_eq_some_iff] at h
  obtain ⟨p, h1, q, h2, h3⟩ := h
  exact ⟨p, q, h1, h2, h3.symm⟩
theorem den_iface {ρ : Ren} {t : TypeId} {v : AV} {x : Value} (h : (AV.iface t v).den ρ = some x) : ∃ y, v.den ρ = some y ∧ x = .iface t y := by
  simp only [AV.den, Option.map_eq_some_iff] at h
  obtain ⟨y, h1, h2⟩ := h
  exact ⟨y, h1, h2.symm⟩
theorem den_agg {ρ : Ren} {cs : List AV} {x : Value} (h : (AV.agg cs).den ρ = some x) : ∃ l, denL ρ cs = some l ∧ x = .agg l.toArray := by
  simp only [AV.den, Option.map_eq_some_iff] at h
  obtain ⟨y, h1, h2⟩ := h
  exact ⟨y, h1, h2.symm⟩
theorem den_tup {ρ : Ren} {cs : List AV} {x : Value} (h : (AV.tup cs).den ρ = some x) : ∃ l, denL ρ cs = some l ∧ x = .tuple l.toArray := by
  simp only [AV.den, Option.map_eq_some_iff] at h
  obtain ⟨y, h1, h2⟩ := h
  exact ⟨y, h1, h2.symm⟩
theorem den_bool {ρ : Ren} {b : Bool} {x : Value} (h : (AV.bool b).den ρ = some x) : x = .bool b := by simpa [AV.den] using h.symm
theorem den_int {ρ : Ren} {k : IntKind} {n : Int} {x : Value} (h : (AV.int k n).den ρ = some x) : x = .int k n := by simpa [AV.den] using h.symm
theorem den_str {ρ : Ren} {s : List UInt8} {x : Value} (h : (AV.str s).den ρ = some x) : x = .string ⟨s.toArray⟩ := by simpa [AV.den] using h.symm
theorem den_nilptr {ρ : Ren} {x : Value} (h : (AV.nilptr).den ρ = some x) : x = .pointer none := by simpa [AV.den] using h.symm
theorem den_nilslice {ρ : Ren} {x : Value} (h : (AV.nilslice).den ρ = some x) : x = .slice none 0 0 := by simpa [AV.den] using h.symm
theorem den_nilmap {ρ : Ren} {x : Value} (h : (AV.nilmap).den ρ = some x) : x = .map none := by simpa [AV.den] using h.symm
theorem den_nilfunc {ρ : Ren} {x : Value} (h : (AV.nilfunc).den ρ = some x) : x = .nilFunc := by simpa [AV.den] using h.symm
theorem den_niliface {ρ : Ren} {x : Value} (h : (AV.niliface).den ρ = some x) : x = .nilIface := by simpa [AV.den] using h.symm

theorem eqUnf (t : TypeId) (a b : Value) : Op.equal t a b = Op.equalIn (9999 + 1) t a b := rfl
theorem eqlK_sound {ρ : Ren} {t : TypeId} {x y : AV} {K : Bool → Option β} {r : β} (h : eqlK P t x y K = some r) {a b : Value} (ha : x.den ρ = some a) (hb : y.den ρ = some b) :
    ∃ c, K c = some r ∧ ∀ w, (Op.equal t a b).run P w = .ok c w ∧ ∀ (op : BinOp) (X Y : Operand), (eqGuard op t X Y a b).run P w = .ok () w := by
  unfold eqlK at h
  obtain ⟨d, hd, h⟩ := unK_some h
  split at h
  · cases den_bool ha; cases den_bool hb
    rw [fB_eq] at h
    exact ⟨_, h, fun w => ⟨run_equalIn_bool w _ t _ _ hd, fun op X Y => by rw [eqGuard_at_bool]; rfl⟩⟩
  · cases den_nilptr ha; cases den_nilptr hb
    exact ⟨_, h, fun w => ⟨by rw [eqUnf, Op.equalIn]; simp [run_underlying hd], fun op X Y => by rw [eqGuard_at_pointer]; rfl⟩⟩
  · cases den_nilptr ha; obtain ⟨l, hl, rfl⟩ := den_ptr hb
    exact ⟨_, h, fun w => ⟨by rw [eqUnf, Op.equalIn]; simp [run_underlying hd], fun op X Y => by rw [eqGuard_at_pointer]; rfl⟩⟩
  · cases den_nilptr hb; obtain ⟨l, hl, rfl⟩ := den_ptr ha
    exact ⟨_, h, fun w => ⟨by rw [eqUnf, Op.equalIn]; simp [run_underlying hd], fun op X Y => by rw [eqGuard_at_pointer]; rfl⟩⟩
  · rename_i e a i b j _
    obtain ⟨l, hl, rfl⟩ := den_ptr ha
    obtain ⟨m, hm, rfl⟩ := den_ptr hb
    obtain ⟨it, hi, hq⟩ := szK_some h
    cases hz : it.size with
    | zero => simp [hz] at hq
    | succ n =>
      cases hab : Nat.beq a b with
      | false => simp [hz, hab] at hq
      | true =>
        simp only [hz, hab, fB_eq] at hq
        have hab := Nat.eq_of_beq_eq_true hab
        subst hab
        rw [hl] at hm; cases hm
        refine ⟨_, hq, fun w => ⟨?_, fun op X Y => by rw [eqGuard_at_pointer]; rfl⟩⟩
        rw [eqUnf, Op.equalIn]
        simp [run_underlying hd, runSize e hi, hz, sameAddr]
        rw [Bool.eq_iff_iff]
        simp
  · cases den_nilslice ha; cases den_nilslice hb
    exact ⟨_, h, fun w => ⟨by rw [eqUnf, Op.equalIn]; simp [run_underlying hd], fun op X Y => by rw [eqGuard_at_slice]; rfl⟩⟩
  · cases den_nilslice ha; obtain ⟨l, hl, rfl⟩ := den_slice hb
    exact ⟨_, h, fun w => ⟨by rw [eqUnf, Op.equalIn]; simp [run_underlying hd], fun op X Y => by rw [eqGuard_at_slice]; rfl⟩⟩
  · cases den_nilslice hb; obtain ⟨l, hl, rfl⟩ := den_slice ha
    exact ⟨_, h, fun w => ⟨by rw [eqUnf, Op.equalIn]; simp [run_underlying hd], fun op X Y => by rw [eqGuard_at_slice]; rfl⟩⟩
  · cases den_nilslice ha; obtain ⟨l, hl, _, rfl⟩ := den_eslice hb
    exact ⟨_, h, fun w => ⟨by rw [eqUnf, Op.equalIn]; simp [run_underlying hd], fun op X Y => by rw [eqGuard_at_slice]; rfl⟩⟩
  · cases den_nilslice hb; obtain ⟨l, hl, _, rfl⟩ := den_eslice ha
    exact ⟨_, h, fun w => ⟨by rw [eqUnf, Op.equalIn]; simp [run_underlying hd], fun op X Y => by rw [eqGuard_at_slice]; rfl⟩⟩
  · cases den_nilmap ha; cases den_nilmap hb
    exact ⟨_, h, fun w => ⟨by rw [eqUnf, Op.equalIn]; simp [run_underlying hd], fun op X Y => by rw [eqGuard_at_map]; rfl⟩⟩
  · cases den_nilmap ha; obtain ⟨l, hl, rfl⟩ := den_mapv hb
    exact ⟨_, h, fun w => ⟨by rw [eqUnf, Op.equalIn]; simp [run_underlying hd], fun op X Y => by rw [eqGuard_at_map]; rfl⟩⟩
  · cases den_nilmap hb; obtain ⟨l, hl, rfl⟩ := den_mapv ha
    exact ⟨_, h, fun w => ⟨by rw [eqUnf, Op.equalIn]; simp [run_underlying hd], fun op X Y => by rw [eqGuard_at_map]; rfl⟩⟩
  · cases den_nilfunc ha; cases den_nilfunc hb
    exact ⟨_, h, fun w => ⟨by rw [eqUnf, Op.equalIn]; simp [run_underlying hd], fun op X Y => by rw [eqGuard_at_nilFunc]; rfl⟩⟩
  · cases den_nilfunc ha; obtain ⟨p, q, _, _, rfl⟩ := den_func hb
    exact ⟨_, h, fun w => ⟨by rw [eqUnf, Op.equalIn]; simp [run_underlying hd], fun op X Y => by rw [eqGuard_at_nilFunc]; rfl⟩⟩
  · cases den_nilfunc hb; obtain ⟨p, q, _, _, rfl⟩ := den_func ha
    exact ⟨_, h, fun w => ⟨by rw [eqUnf, Op.equalIn]; simp [run_underlying hd], fun op X Y => by rw [eqGuard_at_func]; rfl⟩⟩
  · cases den_niliface ha; obtain ⟨p, _, rfl⟩ := den_iface hb
    exact ⟨_, h, fun w => ⟨by rw [eqUnf, Op.equalIn]; simp [run_underlying hd], fun op X Y => by rw [eqGuard_nil_iface]; rfl⟩⟩
  · cases den_niliface hb; obtain ⟨p, _, rfl⟩ := den_iface ha
    exact ⟨_, h, fun w => ⟨by rw [eqUnf, Op.equalIn]; simp [run_underlying hd], fun op X Y => by rw [eqGuard_at_iface]; rfl⟩⟩
  · obtain ⟨p, hp, rfl⟩ := den_agg ha
    obtain ⟨q, hq, rfl⟩ := den_agg hb
    split at h
    · rename_i ks hag hg hks
      obtain ⟨c, h1, h2, h3, h4⟩ := scsEqK_some h hp hq
      refine ⟨c, h4, fun w => ⟨?_, fun op X Y => ?_⟩⟩
      · have := plain_eq 9970 30 t ks hks p q c w h2 h3 h1
        have e : Op.equal t (.agg p.toArray) (.agg q.toArray) = Op.equalIn (9970 + 30) t (.agg p.toArray) (.agg q.toArray) := rfl
        rw [e]
        simpa only [mkV, hd, hag, if_true] using this
      · cases op <;> simp [eqGuard, hg]
    · cases h
  · cases h
end Go.Ai
