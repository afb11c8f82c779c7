import Derived.Test.YthcbefolifpbpaaAiEff
namespace Go.Ai
open Go
set_option linter.unusedSimpArgs false
variable {P : Program} {β : Type}

theorem lsc_all {vs : List AV} (h : lsc vs = true) : ∀ v ∈ vs, isSc v = true := by
  induction vs with
  | nil => simp
  | cons v vs ih =>
    simp only [lsc] at h
    split at h
    · rename_i hv
      intro u hu
      rcases List.mem_cons.1 hu with rfl | hu
      · exact hv
      · exact ih h u hu
    · cases h
theorem one_all {ρ : Ren} {vs : List AV} {xs : List Value} (h : lsc vs = true) (hx : denL ρ vs = some xs) : ∀ x ∈ xs, x.oneCell' = true := by
  intro x hm
  obtain ⟨j, hj, rfl⟩ := List.mem_iff_getElem.1 hm
  have hlx := denL_len hx
  obtain ⟨y, g1, g2⟩ := denL_get hx (List.getElem?_eq_getElem (show j < vs.length by omega))
  rw [List.getElem?_eq_getElem hj] at g1; cases g1
  exact isSc_cell (lsc_all h _ (List.getElem_mem _)) g2

/-! append -/
theorem growBy_le (n : Nat) : ∀ (r c : Nat), Builtin.growBy n r c ≤ max c (n + (n + 768) / 4)
  | 0, c => by simp [Builtin.growBy]; omega
  | r + 1, c => by
    simp only [Builtin.growBy]
    split
    · omega
    · have := growBy_le n r (c + (c + 768) / 4)
      omega
theorem nextslicecap_le (need sCap : Nat) (h : sCap < need) : Builtin.nextslicecap need sCap ≤ 2 * need + 200 := by
  unfold Builtin.nextslicecap
  split
  · omega
  · split
    · omega
    · have := growBy_le need 4 sCap
      omega
/-- the kind of an append: of values, not of zeros -/
def NoZeros (P : Program) (ts : Array TypeId) : Prop := ts[1]? = none ∨ ∃ u d, ts[1]? = some u ∧ P.underlying u = some d ∧ ∀ k, d ≠ .int k
set_option maxHeartbeats 4000000 in
theorem append_in {t elem : TypeId} {ie : TypeInfo} (hd : P.underlying t = some (.slice elem)) (hi : P.info? elem = some ie) (ts : Array TypeId) (ht : ts[0]? = some t) (hz : NoZeros P ts)
    (ty : TypeId) (as : Array Value) (base : Option Addr) (sl sCap : Nat) (x : Value) (h0 : as[0]? = some (.slice base sl sCap)) (h1 : as[1]? = some x) {n : Nat} {w w' : World} (hn : (Builtin.lenOf x).run P w = .ok n w)
    (hle : sl + n ≤ sCap) {new : Array Value} (hnew : (Builtin.firstCells ie.size n x).run P w = .ok new w) (hst : (∀ a, base = some a → (storeCells (a.add (sl * ie.size)) new.toList).run P w = .ok () w') ∧ (base = none → w' = w)) :
    (Builtin.append_ ts ty as).run P w = .ok (.slice base (sl + n) sCap) w' := by
  rcases hz with hz | ⟨u, d, hz, hu, hk⟩
  · cases base with
    | none => cases hst.2 rfl; simp [Builtin.append_, ht, h0, h1, run_underlying hd, runSize elem hi, hz, hn, hle, hnew]
    | some a => simp [Builtin.append_, ht, h0, h1, run_underlying hd, runSize elem hi, hz, hn, hle, hnew, hst.1 a rfl]
  · cases d <;> first
      | exact absurd rfl (hk _)
      | (cases base with
        | none => cases hst.2 rfl; simp [Builtin.append_, ht, h0, h1, run_underlying hd, runSize elem hi, hz, run_underlying hu, hn, hle, hnew]
        | some a => simp [Builtin.append_, ht, h0, h1, run_underlying hd, runSize elem hi, hz, run_underlying hu, hn, hle, hnew, hst.1 a rfl])
set_option maxHeartbeats 4000000 in
theorem append_grow {t elem : TypeId} {ie : TypeInfo} {zv : Value} (hd : P.underlying t = some (.slice elem)) (hi : P.info? elem = some ie) (hzv : ie.zero = some zv) (ts : Array TypeId) (ht : ts[0]? = some t) (hz : NoZeros P ts)
    (ty : TypeId) (as : Array Value) (base : Option Addr) (sl sCap : Nat) (x : Value) (h0 : as[0]? = some (.slice base sl sCap)) (h1 : as[1]? = some x) {n : Nat} {w : World} (hn : (Builtin.lenOf x).run P w = .ok n w)
    (hle : ¬ sl + n ≤ sCap) (hb1 : sl + n ≤ 1073741824) (hb2 : (sl + n + 200) * ie.bytes ≤ 1099511627776) {newCap : Nat} (hc : newCap = (Question.appendCap (sl + n) sCap elem).cut (w.tape w.drawn (.appendCap (sl + n) sCap elem)))
    {old new : Array Value} (hold : (Builtin.firstCells ie.size sl (.slice base sl sCap)).run P w.drew = .ok old w.drew) (hnew : (Builtin.firstCells ie.size n x).run P w.drew = .ok new w.drew) :
    (Builtin.append_ ts ty as).run P w = .ok (.slice (some ⟨w.heap.size, 0, none⟩) (sl + n) newCap) (w.drew.alloc (.cells (old ++ new ++ Builtin.zeroCells zv.cells (newCap - (sl + n))) elem)) := by
  have hcap : ¬ (Builtin.nextslicecap (sl + n) sCap * ie.bytes > 281474976710656) := by
    have h1 := nextslicecap_le (sl + n) sCap (by omega)
    have h2 : Builtin.nextslicecap (sl + n) sCap * ie.bytes ≤ (2 * (sl + n) + 200) * ie.bytes := Nat.mul_le_mul_right _ h1
    have h3 : (2 * (sl + n) + 200) * ie.bytes ≤ 2 * ((sl + n + 200) * ie.bytes) := by
      rw [← Nat.mul_assoc]; exact Nat.mul_le_mul_right _ (by omega)
    omega
  have hmax : ¬ (9223372036854775807 < (sl : Int) + (n : Int)) := by omega
  have hf : (Question.appendCap (sl + n) sCap elem).forced = false := rfl
  rcases hz with hz | ⟨u, d, hz, hu, hk⟩
  · subst hc
    simp [Builtin.append_, ht, h0, h1, run_underlying hd, runSize elem hi, isInfo elem hi, hz, hn, hle, hcap, hmax, hf, hold, hnew, runZero elem hi hzv, newRow]
  · subst hc
    cases d <;> first
      | exact absurd rfl (hk _)
      | simp [Builtin.append_, ht, h0, h1, run_underlying hd, runSize elem hi, isInfo elem hi, hz, run_underlying hu, hn, hle, hcap, hmax, hf, hold, hnew, runZero elem hi hzv, newRow]
end Go.Ai
