/- Of this program, for all inputs: contracts. No condition but those in the theorems. -/
import Derived.Test.YthcbefolifpbpaaA12
namespace Go.Proofs.Ythcbefolifpbpaa
open Go Go.Ai Go.Aw Go.Proofs
set_option linter.unusedSimpArgs false
set_option linter.unusedVariables false
set_option maxRecDepth 10000
/-! doubles, plain -/
theorem lst16h {l : List Nat} (h : l.length = 16) : l = [l.getD 0 0, l.getD 1 0, l.getD 2 0, l.getD 3 0, l.getD 4 0, l.getD 5 0, l.getD 6 0, l.getD 7 0, l.getD 8 0, l.getD 9 0, l.getD 10 0, l.getD 11 0, l.getD 12 0, l.getD 13 0, l.getD 14 0, l.getD 15 0] := by
  match l, h with
  | [a, b, c, d, e, f, g, h, i, j, k, l, m, n, o, p], _ => rfl
theorem bhi (x c : Nat) (hx : x < 256) (hc : c < 256) : (x * 2 ^ 1 ||| c % 256 / 2 ^ 7) % 256 = x * 2 % 256 + c / 128 := by
  have h1 : ∀ x, x < 256 → ∀ k, k < 2 → (x * 2 ^ 1 ||| k) % 256 = x * 2 % 256 + k := by decide +kernel
  have e : c % 256 / 2 ^ 7 = c / 128 := by omega
  rw [e]
  exact h1 x hx _ (by omega)
theorem blo (x : Nat) (hx : x < 256) : (x * 2 ^ 1 ||| 0) % 256 = x * 2 % 256 := by simp
theorem blo' (x : Nat) (hx : x < 256) : ((x * 2 ^ 1 ||| 0) ^^^ 135) % 256 = (x * 2 % 256) ^^^ 135 := by revert x; decide +kernel
def r87 (c : Nat) : Nat := if c / 128 = 0 then 0 else 135
def dN (t : List Nat) : List Nat := [(t.getD 0 0 * 2 % 256) ^^^ r87 (t.getD 15 0), t.getD 1 0 * 2 % 256 + t.getD 0 0 / 128, t.getD 2 0 * 2 % 256 + t.getD 1 0 / 128, t.getD 3 0 * 2 % 256 + t.getD 2 0 / 128, t.getD 4 0 * 2 % 256 + t.getD 3 0 / 128, t.getD 5 0 * 2 % 256 + t.getD 4 0 / 128, t.getD 6 0 * 2 % 256 + t.getD 5 0 / 128, t.getD 7 0 * 2 % 256 + t.getD 6 0 / 128, t.getD 8 0 * 2 % 256 + t.getD 7 0 / 128, t.getD 9 0 * 2 % 256 + t.getD 8 0 / 128, t.getD 10 0 * 2 % 256 + t.getD 9 0 / 128, t.getD 11 0 * 2 % 256 + t.getD 10 0 / 128, t.getD 12 0 * 2 % 256 + t.getD 11 0 / 128, t.getD 13 0 * 2 % 256 + t.getD 12 0 / 128, t.getD 14 0 * 2 % 256 + t.getD 13 0 / 128, t.getD 15 0 * 2 % 256 + t.getD 14 0 / 128]
theorem dN_eq (t : List Nat) (hb : ∀ i, t.getD i 0 < 256) : M (dblX t) = dN t := by
  unfold dblX
  split
  · rename_i h
    have h15 : t.getD 15 0 / 128 = 0 := by have := hb 15; omega
    simp only [M, dbl0, dN, List.map_cons, List.map_nil, bhi _ _ (hb _) (hb _), blo _ (hb _), r87, h15, if_true, Nat.xor_zero]
  · rename_i h
    have h15 : ¬ t.getD 15 0 / 128 = 0 := by have := hb 15; omega
    simp only [M, dbl1, dN, List.map_cons, List.map_nil, bhi _ _ (hb _) (hb _), blo' _ (hb _), r87, h15, if_false]
theorem sx (x c : Nat) (hc : c < 256) : x * 2 % 256 + c / 128 = (x * 2 % 256) ^^^ (c / 128) := by
  have h : ∀ z, z < 128 → ∀ k, k < 2 → 2 * z + k = (2 * z) ^^^ k := by decide +kernel
  have e : x * 2 % 256 = 2 * (x % 128) := by omega
  rw [e]
  exact h _ (by omega) _ (by omega)
theorem dbl_xor (x y : Nat) : (x ^^^ y) * 2 % 256 = (x * 2 % 256) ^^^ (y * 2 % 256) := by
  have : (x ^^^ y) * 2 = (x * 2) ^^^ (y * 2) := by
    have := Nat.shiftLeft_xor_distrib (a := x) (b := y) (i := 1)
    simpa [Nat.shiftLeft_eq] using this
  rw [this, show (256 : Nat) = 2 ^ 8 from rfl, Nat.xor_mod_two_pow]
theorem top_xor (c e : Nat) : (c ^^^ e) / 128 = (c / 128) ^^^ (e / 128) := by
  have := Nat.shiftRight_xor_distrib (a := c) (b := e) (i := 7)
  simpa [Nat.shiftRight_eq_div_pow] using this
theorem x256 {a b : Nat} (ha : a < 256) (hb : b < 256) : a ^^^ b < 256 := Nat.xor_lt_two_pow (n := 8) ha hb
theorem lin2 (x y : Nat) (hx : x < 256) (hy : y < 256) (c e : Nat) (hc : c < 256) (he : e < 256) : (x ^^^ y) * 2 % 256 + (c ^^^ e) / 128 = (x * 2 % 256 + c / 128) ^^^ (y * 2 % 256 + e / 128) := by
  rw [sx _ _ (x256 hc he), sx _ _ hc, sx _ _ he, dbl_xor, top_xor]
  ac_rfl
theorem linr (c e : Nat) (hc : c < 256) (he : e < 256) : r87 (c ^^^ e) = r87 c ^^^ r87 e := by
  unfold r87
  rw [top_xor]
  have h1 : c / 128 = 0 ∨ c / 128 = 1 := by omega
  have h2 : e / 128 = 0 ∨ e / 128 = 1 := by omega
  rcases h1 with h1 | h1 <;> rcases h2 with h2 | h2 <;> simp [h1, h2]
theorem addX_b {a b : List Nat} (ha : ∀ i, a.getD i 0 < 256) (hb : ∀ i, b.getD i 0 < 256) (i : Nat) : (addX a b).getD i 0 < 256 := by
  rcases i with _|_|_|_|_|_|_|_|_|_|_|_|_|_|_|_|i
  all_goals first | exact x256 (ha _) (hb _) | (simp [addX])
theorem M_add (x y : List Nat) (hx : x.length = 16) (hy : y.length = 16) : M (addX x y) = addX (M x) (M y) := by
  have hm : ∀ (l : List Nat) (i : Nat), (M l).getD i 0 = l.getD i 0 % 256 := by
    intro l i
    simp only [M, List.getD_eq_getElem?_getD, List.getElem?_map]
    cases l[i]? <;> simp
  have e : ∀ a b : Nat, (a ^^^ b) % 256 = a % 256 ^^^ b % 256 := fun a b => by rw [show (256 : Nat) = 2 ^ 8 from rfl, Nat.xor_mod_two_pow]
  simp only [addX, M, List.map_cons, List.map_nil, e]
  simp only [← hm]
  rfl
theorem halves_add (a b : List Nat) (ha : ∀ i, a.getD i 0 < 256) (hb : ∀ i, b.getD i 0 < 256) : M (dblX (addX a b)) = M (addX (dblX a) (dblX b)) := by
  rw [M_add _ _ (dblX_len _) (dblX_len _), dN_eq _ ha, dN_eq _ hb, dN_eq _ (addX_b ha hb)]
  have e0 : ((a.getD 0 0 ^^^ b.getD 0 0) * 2 % 256) ^^^ r87 (a.getD 15 0 ^^^ b.getD 15 0) = ((a.getD 0 0 * 2 % 256) ^^^ r87 (a.getD 15 0)) ^^^ ((b.getD 0 0 * 2 % 256) ^^^ r87 (b.getD 15 0)) := by
    rw [linr _ _ (ha 15) (hb 15), dbl_xor]
    ac_rfl
  have l := fun i j => lin2 (a.getD i 0) (b.getD i 0) (ha i) (hb i) (a.getD j 0) (b.getD j 0) (ha j) (hb j)
  have l1 := l 1 0; have l2 := l 2 1; have l3 := l 3 2; have l4 := l 4 3; have l5 := l 5 4; have l6 := l 6 5; have l7 := l 7 6; have l8 := l 8 7; have l9 := l 9 8; have l10 := l 10 9; have l11 := l 11 10; have l12 := l 12 11; have l13 := l 13 12; have l14 := l 14 13; have l15 := l 15 14
  simp only [dN, addX, List.getD_cons_zero, List.getD_cons_succ, e0, l1, l2, l3, l4, l5, l6, l7, l8, l9, l10, l11, l12, l13, l14, l15]
theorem byte_of2 (x y : Nat) (hx : x < 256) (hy : y < 256) (h1 : x * 2 % 256 = y * 2 % 256) (h2 : x / 128 = y / 128) : x = y := by omega
theorem sp (x c y e : Nat) (hc : c < 256) (he : e < 256) (h : x * 2 % 256 + c / 128 = y * 2 % 256 + e / 128) : x * 2 % 256 = y * 2 % 256 ∧ c / 128 = e / 128 := by omega
theorem halves_inj (a b : List Nat) (la : a.length = 16) (lb : b.length = 16) (ha : ∀ i, a.getD i 0 < 256) (hb : ∀ i, b.getD i 0 < 256) : (M (dblX a) = M (dblX b)) = (M a = M b) := by
  refine propext ⟨fun h => ?_, fun h => ?_⟩
  · rw [dN_eq _ ha, dN_eq _ hb] at h
    simp only [dN, List.cons.injEq, and_true] at h
    obtain ⟨h0, h1, h2, h3, h4, h5, h6, h7, h8, h9, h10, h11, h12, h13, h14, h15⟩ := h
    have k0 : a.getD 15 0 / 128 = b.getD 15 0 / 128 ∧ a.getD 0 0 * 2 % 256 = b.getD 0 0 * 2 % 256 := by
      have k1 : ∀ x, x < 128 → ∀ y, y < 128 → (2 * x) ^^^ 135 = (2 * y) ^^^ 135 → x = y := by decide +kernel
      have k2 : ∀ x, x < 128 → ∀ y, y < 128 → ¬ (2 * x) = (2 * y) ^^^ 135 := by decide +kernel
      have e1 : a.getD 0 0 * 2 % 256 = 2 * (a.getD 0 0 % 128) := by omega
      have e2 : b.getD 0 0 * 2 % 256 = 2 * (b.getD 0 0 % 128) := by omega
      have m1 : a.getD 0 0 % 128 < 128 := Nat.mod_lt _ (by omega)
      have m2 : b.getD 0 0 % 128 < 128 := Nat.mod_lt _ (by omega)
      rw [e1, e2] at h0 ⊢
      have b1 := ha 15
      have b2 := hb 15
      unfold r87 at h0
      split at h0 <;> split at h0
      · rename_i c1 c2
        rw [Nat.xor_zero, Nat.xor_zero] at h0
        exact ⟨by omega, h0⟩
      · rw [Nat.xor_zero] at h0
        exact absurd h0 (k2 _ m1 _ m2)
      · rw [Nat.xor_zero] at h0
        exact absurd h0.symm (k2 _ m2 _ m1)
      · rename_i c1 c2
        exact ⟨by omega, by rw [k1 _ m1 _ m2 h0]⟩
    have s1 := sp _ _ _ _ (ha 0) (hb 0) h1
    have s2 := sp _ _ _ _ (ha 1) (hb 1) h2
    have s3 := sp _ _ _ _ (ha 2) (hb 2) h3
    have s4 := sp _ _ _ _ (ha 3) (hb 3) h4
    have s5 := sp _ _ _ _ (ha 4) (hb 4) h5
    have s6 := sp _ _ _ _ (ha 5) (hb 5) h6
    have s7 := sp _ _ _ _ (ha 6) (hb 6) h7
    have s8 := sp _ _ _ _ (ha 7) (hb 7) h8
    have s9 := sp _ _ _ _ (ha 8) (hb 8) h9
    have s10 := sp _ _ _ _ (ha 9) (hb 9) h10
    have s11 := sp _ _ _ _ (ha 10) (hb 10) h11
    have s12 := sp _ _ _ _ (ha 11) (hb 11) h12
    have s13 := sp _ _ _ _ (ha 12) (hb 12) h13
    have s14 := sp _ _ _ _ (ha 13) (hb 13) h14
    have s15 := sp _ _ _ _ (ha 14) (hb 14) h15
    have q0 := byte_of2 _ _ (ha 0) (hb 0) k0.2 s1.2
    have q1 := byte_of2 _ _ (ha 1) (hb 1) s1.1 s2.2
    have q2 := byte_of2 _ _ (ha 2) (hb 2) s2.1 s3.2
    have q3 := byte_of2 _ _ (ha 3) (hb 3) s3.1 s4.2
    have q4 := byte_of2 _ _ (ha 4) (hb 4) s4.1 s5.2
    have q5 := byte_of2 _ _ (ha 5) (hb 5) s5.1 s6.2
    have q6 := byte_of2 _ _ (ha 6) (hb 6) s6.1 s7.2
    have q7 := byte_of2 _ _ (ha 7) (hb 7) s7.1 s8.2
    have q8 := byte_of2 _ _ (ha 8) (hb 8) s8.1 s9.2
    have q9 := byte_of2 _ _ (ha 9) (hb 9) s9.1 s10.2
    have q10 := byte_of2 _ _ (ha 10) (hb 10) s10.1 s11.2
    have q11 := byte_of2 _ _ (ha 11) (hb 11) s11.1 s12.2
    have q12 := byte_of2 _ _ (ha 12) (hb 12) s12.1 s13.2
    have q13 := byte_of2 _ _ (ha 13) (hb 13) s13.1 s14.2
    have q14 := byte_of2 _ _ (ha 14) (hb 14) s14.1 s15.2
    have q15 := byte_of2 _ _ (ha 15) (hb 15) s15.1 k0.1
    rw [lst16h la, lst16h lb, q0, q1, q2, q3, q4, q5, q6, q7, q8, q9, q10, q11, q12, q13, q14, q15]
  · have hm : ∀ i, a.getD i 0 = b.getD i 0 := by
      intro i
      have := congrArg (fun l => l.getD i 0) h
      simp only [M, List.getD_eq_getElem?_getD, List.getElem?_map] at this
      have h1 := ha i
      have h2 := hb i
      rw [List.getD_eq_getElem?_getD] at h1 h2 ⊢
      rw [List.getD_eq_getElem?_getD]
      cases e1 : a[i]? <;> cases e2 : b[i]? <;> simp [e1, e2] at this h1 h2 ⊢ <;> omega
    rw [dN_eq _ ha, dN_eq _ hb]
    simp only [dN, hm]
end Go.Proofs.Ythcbefolifpbpaa
