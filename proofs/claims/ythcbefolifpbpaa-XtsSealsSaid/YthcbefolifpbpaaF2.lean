/- Of this program, for all inputs: contracts. No condition but those in the theorems. -/
import Derived.Test.YthcbefolifpbpaaCB
import Derived.Test.YthcbefolifpbpaaF1
namespace Go.Proofs.Ythcbefolifpbpaa
open Go Go.Ai Go.Aw Go.Proofs
open Nat renaming reduceBEq → uB, reduceEqDiff → uE, reduceLT → uL, reduceAdd → uA, reduceMul → uM, reduceSub → uS, reduceAnd → uN, reduceXor → uX, reduceOr → uO
open Int renaming reduceMod → vR, reduceDiv → vD, reduceLT → vL, reduceLE → vK, reduceEq → vE, reduceAdd → vA, reduceMul → vM, reduceToNat → vT
set_option linter.unusedSimpArgs false
set_option linter.unusedVariables false
set_option maxRecDepth 10000
theorem mixR_M (x : List Nat) : M (R.mixR x) = M (mixL x) := by
  simp only [M, R.mixR, mixL, List.map_cons, List.map_nil, mx0, mx1, mx2, mx3]
set_option maxHeartbeats 4000000 in
theorem mixI_M (x : List Nat) : M (R.mixI x) = M (mixL (mixL (mixL x))) := by
  have e0 := mi0 (mixt0 (x.getD 0 0) (x.getD 1 0) (x.getD 2 0) (x.getD 3 0)) (mixt1 (x.getD 0 0) (x.getD 1 0) (x.getD 2 0) (x.getD 3 0)) (mixt2 (x.getD 0 0) (x.getD 1 0) (x.getD 2 0) (x.getD 3 0)) (mixt3 (x.getD 0 0) (x.getD 1 0) (x.getD 2 0) (x.getD 3 0))
  have e1 := mi1 (mixt0 (x.getD 0 0) (x.getD 1 0) (x.getD 2 0) (x.getD 3 0)) (mixt1 (x.getD 0 0) (x.getD 1 0) (x.getD 2 0) (x.getD 3 0)) (mixt2 (x.getD 0 0) (x.getD 1 0) (x.getD 2 0) (x.getD 3 0)) (mixt3 (x.getD 0 0) (x.getD 1 0) (x.getD 2 0) (x.getD 3 0))
  have e2 := mi2 (mixt0 (x.getD 0 0) (x.getD 1 0) (x.getD 2 0) (x.getD 3 0)) (mixt1 (x.getD 0 0) (x.getD 1 0) (x.getD 2 0) (x.getD 3 0)) (mixt2 (x.getD 0 0) (x.getD 1 0) (x.getD 2 0) (x.getD 3 0)) (mixt3 (x.getD 0 0) (x.getD 1 0) (x.getD 2 0) (x.getD 3 0))
  have e3 := mi3 (mixt0 (x.getD 0 0) (x.getD 1 0) (x.getD 2 0) (x.getD 3 0)) (mixt1 (x.getD 0 0) (x.getD 1 0) (x.getD 2 0) (x.getD 3 0)) (mixt2 (x.getD 0 0) (x.getD 1 0) (x.getD 2 0) (x.getD 3 0)) (mixt3 (x.getD 0 0) (x.getD 1 0) (x.getD 2 0) (x.getD 3 0))
  have e4 := mi0 (mixt0 (x.getD 4 0) (x.getD 5 0) (x.getD 6 0) (x.getD 7 0)) (mixt1 (x.getD 4 0) (x.getD 5 0) (x.getD 6 0) (x.getD 7 0)) (mixt2 (x.getD 4 0) (x.getD 5 0) (x.getD 6 0) (x.getD 7 0)) (mixt3 (x.getD 4 0) (x.getD 5 0) (x.getD 6 0) (x.getD 7 0))
  have e5 := mi1 (mixt0 (x.getD 4 0) (x.getD 5 0) (x.getD 6 0) (x.getD 7 0)) (mixt1 (x.getD 4 0) (x.getD 5 0) (x.getD 6 0) (x.getD 7 0)) (mixt2 (x.getD 4 0) (x.getD 5 0) (x.getD 6 0) (x.getD 7 0)) (mixt3 (x.getD 4 0) (x.getD 5 0) (x.getD 6 0) (x.getD 7 0))
  have e6 := mi2 (mixt0 (x.getD 4 0) (x.getD 5 0) (x.getD 6 0) (x.getD 7 0)) (mixt1 (x.getD 4 0) (x.getD 5 0) (x.getD 6 0) (x.getD 7 0)) (mixt2 (x.getD 4 0) (x.getD 5 0) (x.getD 6 0) (x.getD 7 0)) (mixt3 (x.getD 4 0) (x.getD 5 0) (x.getD 6 0) (x.getD 7 0))
  have e7 := mi3 (mixt0 (x.getD 4 0) (x.getD 5 0) (x.getD 6 0) (x.getD 7 0)) (mixt1 (x.getD 4 0) (x.getD 5 0) (x.getD 6 0) (x.getD 7 0)) (mixt2 (x.getD 4 0) (x.getD 5 0) (x.getD 6 0) (x.getD 7 0)) (mixt3 (x.getD 4 0) (x.getD 5 0) (x.getD 6 0) (x.getD 7 0))
  have e8 := mi0 (mixt0 (x.getD 8 0) (x.getD 9 0) (x.getD 10 0) (x.getD 11 0)) (mixt1 (x.getD 8 0) (x.getD 9 0) (x.getD 10 0) (x.getD 11 0)) (mixt2 (x.getD 8 0) (x.getD 9 0) (x.getD 10 0) (x.getD 11 0)) (mixt3 (x.getD 8 0) (x.getD 9 0) (x.getD 10 0) (x.getD 11 0))
  have e9 := mi1 (mixt0 (x.getD 8 0) (x.getD 9 0) (x.getD 10 0) (x.getD 11 0)) (mixt1 (x.getD 8 0) (x.getD 9 0) (x.getD 10 0) (x.getD 11 0)) (mixt2 (x.getD 8 0) (x.getD 9 0) (x.getD 10 0) (x.getD 11 0)) (mixt3 (x.getD 8 0) (x.getD 9 0) (x.getD 10 0) (x.getD 11 0))
  have e10 := mi2 (mixt0 (x.getD 8 0) (x.getD 9 0) (x.getD 10 0) (x.getD 11 0)) (mixt1 (x.getD 8 0) (x.getD 9 0) (x.getD 10 0) (x.getD 11 0)) (mixt2 (x.getD 8 0) (x.getD 9 0) (x.getD 10 0) (x.getD 11 0)) (mixt3 (x.getD 8 0) (x.getD 9 0) (x.getD 10 0) (x.getD 11 0))
  have e11 := mi3 (mixt0 (x.getD 8 0) (x.getD 9 0) (x.getD 10 0) (x.getD 11 0)) (mixt1 (x.getD 8 0) (x.getD 9 0) (x.getD 10 0) (x.getD 11 0)) (mixt2 (x.getD 8 0) (x.getD 9 0) (x.getD 10 0) (x.getD 11 0)) (mixt3 (x.getD 8 0) (x.getD 9 0) (x.getD 10 0) (x.getD 11 0))
  have e12 := mi0 (mixt0 (x.getD 12 0) (x.getD 13 0) (x.getD 14 0) (x.getD 15 0)) (mixt1 (x.getD 12 0) (x.getD 13 0) (x.getD 14 0) (x.getD 15 0)) (mixt2 (x.getD 12 0) (x.getD 13 0) (x.getD 14 0) (x.getD 15 0)) (mixt3 (x.getD 12 0) (x.getD 13 0) (x.getD 14 0) (x.getD 15 0))
  have e13 := mi1 (mixt0 (x.getD 12 0) (x.getD 13 0) (x.getD 14 0) (x.getD 15 0)) (mixt1 (x.getD 12 0) (x.getD 13 0) (x.getD 14 0) (x.getD 15 0)) (mixt2 (x.getD 12 0) (x.getD 13 0) (x.getD 14 0) (x.getD 15 0)) (mixt3 (x.getD 12 0) (x.getD 13 0) (x.getD 14 0) (x.getD 15 0))
  have e14 := mi2 (mixt0 (x.getD 12 0) (x.getD 13 0) (x.getD 14 0) (x.getD 15 0)) (mixt1 (x.getD 12 0) (x.getD 13 0) (x.getD 14 0) (x.getD 15 0)) (mixt2 (x.getD 12 0) (x.getD 13 0) (x.getD 14 0) (x.getD 15 0)) (mixt3 (x.getD 12 0) (x.getD 13 0) (x.getD 14 0) (x.getD 15 0))
  have e15 := mi3 (mixt0 (x.getD 12 0) (x.getD 13 0) (x.getD 14 0) (x.getD 15 0)) (mixt1 (x.getD 12 0) (x.getD 13 0) (x.getD 14 0) (x.getD 15 0)) (mixt2 (x.getD 12 0) (x.getD 13 0) (x.getD 14 0) (x.getD 15 0)) (mixt3 (x.getD 12 0) (x.getD 13 0) (x.getD 14 0) (x.getD 15 0))
  simp only [M, R.mixI, List.map_cons, List.map_nil, e0, e1, e2, e3, e4, e5, e6, e7, e8, e9, e10, e11, e12, e13, e14, e15]
  rfl
theorem addR_M {wl K x y : List Nat} {r : Nat} (hr : r ≤ 14) (hk : ∀ i, i < 240 → wl.getD i 0 % 256 = K.getD i 0 % 256) (h : M x = M y) : M (R.addR wl r x) = M (addL K r y) := by
  have g := gM h
  have k : ∀ q, q < 16 → wl.getD (16 * r + q) 0 % 256 = K.getD (r * 16 + q) 0 % 256 := fun q hq => by rw [show 16 * r + q = r * 16 + q by omega]; exact hk _ (by omega)
  have k0 := k 0 (by omega)
  rw [Nat.add_zero, Nat.add_zero] at k0
  simp only [M, R.addR, addL, List.map_cons, List.map_nil, xm, g, k0, k 1 (by omega), k 2 (by omega), k 3 (by omega), k 4 (by omega), k 5 (by omega), k 6 (by omega), k 7 (by omega), k 8 (by omega), k 9 (by omega), k 10 (by omega), k 11 (by omega), k 12 (by omega), k 13 (by omega), k 14 (by omega), k 15 (by omega), Nat.add_zero]
theorem subR_M {x y : List Nat} (h : M x = M y) : M (R.subR x) = M (subL S0 y) := by
  have g := gM h
  have s := fun q => sub_M (g q)
  simp only [M, R.subR, subL, List.map_cons, List.map_nil, s]
theorem isubR_M {x y : List Nat} (h : M x = M y) : M (R.isubR x) = M (isubL Inv0 y) := by
  have g := gM h
  have s := fun q => isub_M (g q)
  simp only [M, R.isubR, isubL, List.map_cons, List.map_nil, s]
theorem rr_M {wl K b : List Nat} (hk : ∀ i, i < 240 → wl.getD i 0 % 256 = K.getD i 0 % 256) : ∀ r, r ≤ 14 → M (R.rr wl b r) = M (rnds S0 K b r)
  | 0, _ => addR_M (by omega) hk rfl
  | r + 1, hr => by
    have ih := subR_M (rr_M (b := b) hk r (by omega))
    rw [R.rr, rnds]
    refine addR_M hr hk ?_
    cases decide (r + 1 < 14) with
    | true =>
      simp only [cond_true]
      rw [mixR_M]; exact mixL_c ih
    | false =>
      simp only [cond_false]
      exact ih
theorem oo_M {wl K b : List Nat} (hk : ∀ i, i < 240 → wl.getD i 0 % 256 = K.getD i 0 % 256) : ∀ r, r ≤ 14 → M (R.oo wl b r) = M (ornds Inv0 K b r)
  | 0, _ => rfl
  | r + 1, hr => by
    have ih := addR_M (r := 14 - r) (by omega) hk (oo_M (b := b) hk r (by omega))
    rw [R.oo, ornds]
    refine isubR_M ?_
    cases decide (14 - r < 14) with
    | true =>
      simp only [cond_true]
      rw [mixI_M]; exact mixL_c (mixL_c (mixL_c ih))
    | false =>
      simp only [cond_false]
      exact ih
theorem getD_app_l {a b : List Nat} {i : Nat} (h : i < a.length) : (a ++ b).getD i 0 = a.getD i 0 := by
  rw [List.getD_eq_getElem?_getD, List.getElem?_append_left h, ← List.getD_eq_getElem?_getD]
theorem getD_app_r {a b : List Nat} {n i : Nat} (h : a.length = n) : (a ++ b).getD (n + i) 0 = b.getD i 0 := by
  rw [List.getD_eq_getElem?_getD, List.getElem?_append_right (by omega), ← List.getD_eq_getElem?_getD]
  congr 1; omega
theorem t4_M {wl K : List Nat} {p q n : Nat} (hn : 8 ≤ n) (hp : p % 256 = q % 256) (h : ∀ i, i < 4 * n → wl.getD i 0 % 256 = K.getD i 0 % 256) (i : Nat) (hi : i < 4) : (R.t4 wl p n).getD i 0 % 256 = (t4 S0 K q n).getD i 0 % 256 := by
  have e0 : wl.getD (4 * (n - 1)) 0 % 256 = K.getD ((n - 1) * 4) 0 % 256 := by rw [h _ (by omega), Nat.mul_comm]
  have e1 : wl.getD (4 * (n - 1) + 1) 0 % 256 = K.getD ((n - 1) * 4 + 1) 0 % 256 := by rw [h _ (by omega), Nat.mul_comm]
  have e2 : wl.getD (4 * (n - 1) + 2) 0 % 256 = K.getD ((n - 1) * 4 + 2) 0 % 256 := by rw [h _ (by omega), Nat.mul_comm]
  have e3 : wl.getD (4 * (n - 1) + 3) 0 % 256 = K.getD ((n - 1) * 4 + 3) 0 % 256 := by rw [h _ (by omega), Nat.mul_comm]
  have s0 := sub_M e0
  have s1 := sub_M e1
  have s2 := sub_M e2
  have s3 := sub_M e3
  unfold sub at s0 s1 s2 s3
  unfold R.t4 t4
  by_cases h8 : n % 8 = 0
  · rw [if_pos h8, if_pos h8]
    rcases i with _|_|_|_|i
    · simp only [List.getD_cons_zero, xm, s1, hp]
    · simp only [List.getD_cons_succ, List.getD_cons_zero, s2]
    · simp only [List.getD_cons_succ, List.getD_cons_zero, s3]
    · simp only [List.getD_cons_succ, List.getD_cons_zero, s0]
    · omega
  · rw [if_neg h8, if_neg h8]
    by_cases h4 : n % 8 = 4
    · rw [if_pos h4, if_pos h4]
      rcases i with _|_|_|_|i
      · simp only [List.getD_cons_zero, s0]
      · simp only [List.getD_cons_succ, List.getD_cons_zero, s1]
      · simp only [List.getD_cons_succ, List.getD_cons_zero, s2]
      · simp only [List.getD_cons_succ, List.getD_cons_zero, s3]
      · omega
    · rw [if_neg h4, if_neg h4]
      rcases i with _|_|_|_|i
      · simp only [List.getD_cons_zero, e0]
      · simp only [List.getD_cons_succ, List.getD_cons_zero, e1]
      · simp only [List.getD_cons_succ, List.getD_cons_zero, e2]
      · simp only [List.getD_cons_succ, List.getD_cons_zero, e3]
      · omega
theorem set_get (l : List Nat) (i j v : Nat) (hi : i < l.length) : (l.set i v).getD j 0 = if i = j then v else l.getD j 0 := by
  rw [List.getD_eq_getElem?_getD, List.getElem?_set]
  split
  · rename_i h; subst h; simp [hi]
  · rw [List.getD_eq_getElem?_getD]
theorem wN_len' (S wl : List Nat) (p n : Nat) : (wN S wl p n).length = wl.length := by simp [wN]
theorem wB_M : ∀ (j n p q : Nat) (wl K : List Nat), n + j = 60 → 8 ≤ n → wl.length = 4 * n → K.length = 240 → p % 256 = q % 256 → (∀ i, i < 4 * n → wl.getD i 0 % 256 = K.getD i 0 % 256) → ∀ i, i < 240 → (R.wB j n p wl).getD i 0 % 256 = (wB S0 j n q K).getD i 0 % 256
  | 0, n, p, q, wl, K, hn, h8, hw, hK, hp, h, i, hi => h i (by omega)
  | j + 1, n, p, q, wl, K, hn, h8, hw, hK, hp, h, i, hi => by
    rw [R.wB, wB]
    refine wB_M j (n + 1) _ _ _ _ (by omega) (by omega) (by simp [R.wN, hw]; omega) (by rw [wN_len']; exact hK) ?_ ?_ i hi
    · unfold R.pN
      split
      · show R.x2 (p % 256) % 256 = dbl q % 256
        rw [dbl_mod, x2_mod, dd_lt, ← ddm p, hp, ddm]
      · exact hp
    · intro i hi
      have t := t4_M h8 hp h
      have c : ∀ r, r < 4 → wl.getD (4 * (n - 8) + r) 0 % 256 = K.getD ((n - 8) * 4 + r) 0 % 256 := fun r hr => by rw [h _ (by omega), Nat.mul_comm]
      have c0 := c 0 (by omega)
      rw [Nat.add_zero, Nat.add_zero] at c0
      unfold wN
      rw [set_get _ _ _ _ (by simp [hK]; omega), set_get _ _ _ _ (by simp [hK]; omega), set_get _ _ _ _ (by simp [hK]; omega), set_get _ _ _ _ (by omega)]
      by_cases h4 : i < 4 * n
      · rw [getD_app_l (by omega), if_neg (by omega), if_neg (by omega), if_neg (by omega), if_neg (by omega)]
        exact h i h4
      · obtain ⟨r, rfl⟩ : ∃ r, i = 4 * n + r := ⟨i - 4 * n, by omega⟩
        rw [getD_app_r hw]
        have hr : r < 4 := by omega
        rcases r with _|_|_|_|r
        · rw [if_neg (by omega), if_neg (by omega), if_neg (by omega), if_pos (by omega)]
          simp only [R.wN, List.getD_cons_zero, xm, t 0 (by omega), c0]
          rw [Nat.xor_comm]
        · rw [if_neg (by omega), if_neg (by omega), if_pos (by omega)]
          simp only [R.wN, List.getD_cons_succ, List.getD_cons_zero, xm, t 1 (by omega), c 1 (by omega)]
          rw [Nat.xor_comm]
        · rw [if_neg (by omega), if_pos (by omega)]
          simp only [R.wN, List.getD_cons_succ, List.getD_cons_zero, xm, t 2 (by omega), c 2 (by omega)]
          rw [Nat.xor_comm]
        · rw [if_pos (by omega)]
          simp only [R.wN, List.getD_cons_succ, List.getD_cons_zero, xm, t 3 (by omega), c 3 (by omega)]
          rw [Nat.xor_comm]
        · omega
theorem wA_at (kl : List Nat) : ∀ n, n ≤ 60 → ∀ i, i < 4 * n → (wA kl n).getD i 0 = kl.getD i 0
  | 0, _, i, hi => by omega
  | n + 1, hn, i, hi => by
    have ih := wA_at kl n (by omega)
    have hl := wA_len kl n (by omega)
    rw [wA]
    by_cases h : i < n * 4
    · rw [getD_app_l (by simp; omega), getD_app_l (by simp; omega), ← ih i (by omega)]
      rw [List.getD_eq_getElem?_getD, List.getElem?_take_of_lt h, ← List.getD_eq_getElem?_getD]
    · obtain ⟨r, rfl⟩ : ∃ r, i = n * 4 + r := ⟨i - n * 4, by omega⟩
      rw [getD_app_l (by simp; omega), getD_app_r (by simp; omega)]
      rcases r with _|_|_|_|r
      · simp only [List.getD_cons_zero, Nat.add_zero, Nat.mul_comm]
      · simp only [List.getD_cons_succ, List.getD_cons_zero, Nat.mul_comm]
      · simp only [List.getD_cons_succ, List.getD_cons_zero, Nat.mul_comm]
      · simp only [List.getD_cons_succ, List.getD_cons_zero, Nat.mul_comm]
      · omega
theorem keys_M {kl k' : List Nat} (hk : kl.length = 32) (h : M kl = M k') : ∀ i, i < 240 → (R.keysR kl).getD i 0 % 256 = (keysL S0 k').getD i 0 % 256 := by
  intro i hi
  refine wB_M 52 8 1 1 kl (wA k' 8) (by omega) (by omega) (by omega) (wA_len _ _ (by omega)) rfl (fun i hi => ?_) i hi
  rw [wA_at _ _ (by omega) _ hi]
  exact gM h i
theorem seal_M {kl k' b b' : List Nat} (hk : kl.length = 32) (h : M kl = M k') (hb : M b = M b') : M (R.rseal kl b) = M (sealK (keysL S0 k') b') := by
  rw [R.rseal, rr_M (keys_M hk h) 14 (Nat.le_refl _)]
  exact sealK_c hb
theorem open_M {kl k' b b' : List Nat} (hk : kl.length = 32) (h : M kl = M k') (hb : M b = M b') : M (R.ropen kl b) = M (openK (keysL S0 k') b') := by
  have e : M (R.ropen kl b) = M (openK (keysL S0 k') b) := addR_M (by omega) (keys_M hk h) (oo_M (keys_M hk h) 14 (Nat.le_refl _))
  rw [e]
  exact openK_c hb
end Go.Proofs.Ythcbefolifpbpaa
