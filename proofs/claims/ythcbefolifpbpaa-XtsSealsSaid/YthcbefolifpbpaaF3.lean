/- Of this program, for all inputs: contracts. No condition but those in the theorems. -/
import Derived.Test.YthcbefolifpbpaaF2
namespace Go.Proofs.Ythcbefolifpbpaa.R.D
open Go Go.Ai Go.Aw Go.Proofs
open Nat renaming reduceBEq → uB, reduceEqDiff → uE, reduceLT → uL, reduceAdd → uA, reduceMul → uM, reduceSub → uS, reduceAnd → uN, reduceXor → uX, reduceOr → uO
open Int renaming reduceMod → vR, reduceDiv → vD, reduceLT → vL, reduceLE → vK, reduceEq → vE, reduceAdd → vA, reduceMul → vM, reduceToNat → vT
set_option linter.unusedSimpArgs false
set_option linter.unusedVariables false
set_option maxRecDepth 10000
/-- eight truths as a byte -/
def by8 (g : Nat → Bool) : Nat → Nat
  | 0 => 0
  | m + 1 => by8 g m + if g m then 1 * 2 ^ m else 0
theorem ov_get (g : Nat → Bool) (k : Nat) (hk : k < 16) : ∀ n, (ov g n).getD k 0 = by8 (fun j => g (8 * k + j)) (min 8 (n - 8 * k))
  | 0 => by
    have : (0 - 8 * k) = 0 := by omega
    rw [this]
    show z16.getD k 0 = 0
    rcases k with _|_|_|_|_|_|_|_|_|_|_|_|_|_|_|_|k <;> first | rfl | omega
  | n + 1 => by
    have ih := ov_get g k hk n
    have hl := ov_len g n
    by_cases h : n / 8 = k
    · have e1 : min 8 (n - 8 * k) = n % 8 := by omega
      have e2 : min 8 (n + 1 - 8 * k) = n % 8 + 1 := by omega
      have e3 : 8 * k + n % 8 = n := by omega
      rw [e2, by8, ← e1, ← ih, e1, e3, ov]
      cases hg : g n
      · simp
      · rw [if_pos rfl, if_pos rfl, h]
        simp [List.getD_eq_getElem?_getD, List.getElem?_set, hl, hk]
    · have e1 : min 8 (n + 1 - 8 * k) = min 8 (n - 8 * k) := by omega
      rw [e1, ← ih, ov]
      split
      · simp [List.getD_eq_getElem?_getD, List.getElem?_set_ne h]
      · rfl
def bb (a j : Nat) : Bool := decide ((a % 256 / 2 ^ j &&& 1) % 256 = 1 % 256)
theorem tab (a : Nat) (ha : a < 256) (c : Bool) : by8 (fun j => if j = 0 then c else bb a (j - 1)) 8 % 256 = (a * 2 ^ 1 ||| c.toNat) % 256 := by
  revert a c; decide +kernel
end Go.Proofs.Ythcbefolifpbpaa.R.D
namespace Go.Proofs.Ythcbefolifpbpaa.R.D
open Go Go.Ai Go.Aw Go.Proofs
open Nat renaming reduceBEq → uB, reduceEqDiff → uE, reduceLT → uL, reduceAdd → uA, reduceMul → uM, reduceSub → uS, reduceAnd → uN, reduceXor → uX, reduceOr → uO
open Int renaming reduceMod → vR, reduceDiv → vD, reduceLT → vL, reduceLE → vK, reduceEq → vE, reduceAdd → vA, reduceMul → vM, reduceToNat → vT
set_option linter.unusedSimpArgs false
set_option linter.unusedVariables false
set_option maxRecDepth 10000
theorem by8_congr {g g' : Nat → Bool} : ∀ {m : Nat}, (∀ j, j < m → g j = g' j) → by8 g m = by8 g' m
  | 0, _ => rfl
  | m + 1, h => by rw [by8, by8, by8_congr (fun j hj => h j (by omega)), h m (by omega)]
theorem bb7 (a : Nat) (ha : a < 256) : (bb a 7).toNat = a % 256 / 2 ^ 7 := by revert a; decide +kernel
theorem bb7c (a : Nat) (ha : a < 256) : (a % 256 / 2 ^ 7 % 256 = 0 % 256) = (bb a 7 = false) := by
  have : ∀ a, a < 256 → (decide (a % 256 / 2 ^ 7 % 256 = 0 % 256) = !bb a 7) := by decide +kernel
  have := this a ha
  cases h : bb a 7 <;> simp [h] at this ⊢ <;> exact this
theorem tab0 (a : Nat) (ha : a < 256) : by8 (fun j => if j = 7 then !bb a 6 else if j = 2 then !bb a 1 else if j = 1 then !bb a 0 else if j = 0 then true else bb a (j - 1)) 8 % 256 = ((a * 2 ^ 1 ||| 0) ^^^ 135) % 256 := by
  revert a; decide +kernel
theorem bitT_bb (t : List Nat) (i : Nat) : bitT t i = bb (t.getD (i / 8) 0) (i % 8) := rfl
theorem fl_ne {f : Nat → Bool} {k j : Nat} (h : j ≠ k) : fl f k j = f j := by rw [fl, if_neg h]
theorem mv_hi (t : List Nat) (i : Nat) (hi : 8 ≤ i) : mvT t i = bitT t (i - 1) := by
  have hs : sh (bitT t) i = bitT t (i - 1) := by simp [sh]; intro h; omega
  unfold mvT
  split
  · rw [fl_ne (by omega), fl_ne (by omega), fl_ne (by omega), fl_ne (by omega), hs]
  · exact hs
theorem ov_hi (t : List Nat) (hb : ∀ i, t.getD i 0 < 256) (k : Nat) (h1 : 1 ≤ k) (hk : k < 16) : (ov (mvT t) 128).getD k 0 % 256 = (t.getD k 0 * 2 ^ 1 ||| t.getD (k - 1) 0 % 256 / 2 ^ 7) % 256 := by
  rw [ov_get _ k hk, show min 8 (128 - 8 * k) = 8 by omega, ← bb7 _ (hb (k - 1)), ← tab _ (hb k) (bb (t.getD (k - 1) 0) 7)]
  congr 1
  refine by8_congr fun j hj => ?_
  rw [mv_hi t _ (by omega), bitT_bb]
  split
  · rename_i h
    subst h
    rw [show (8 * k + 0 - 1) / 8 = k - 1 by omega, show (8 * k + 0 - 1) % 8 = 7 by omega]
  · rw [show (8 * k + j - 1) / 8 = k by omega, show (8 * k + j - 1) % 8 = j - 1 by omega]
theorem ov_lo (t : List Nat) (hb : ∀ i, t.getD i 0 < 256) (hc : bitT t 127 = false) : (ov (mvT t) 128).getD 0 0 % 256 = (t.getD 0 0 * 2 ^ 1 ||| 0) % 256 := by
  have t0 := tab _ (hb 0) false
  rw [show false.toNat = 0 from rfl] at t0
  rw [ov_get _ 0 (by omega), show min 8 (128 - 8 * 0) = 8 by omega, ← t0]
  congr 1
  refine by8_congr fun j hj => ?_
  rw [mvT, hc]
  show sh (bitT t) (0 + j) = _
  rw [Nat.zero_add, sh, bitT_bb]
  split
  · rename_i h; subst h; rfl
  · rename_i h
    rw [show (j - 1) / 8 = 0 by omega, show (j - 1) % 8 = j - 1 by omega, decide_eq_false h]
    rfl
theorem ov_lo' (t : List Nat) (hb : ∀ i, t.getD i 0 < 256) (hc : bitT t 127 = true) : (ov (mvT t) 128).getD 0 0 % 256 = ((t.getD 0 0 * 2 ^ 1 ||| 0) ^^^ 135) % 256 := by
  rw [ov_get _ 0 (by omega), show min 8 (128 - 8 * 0) = 8 by omega, ← tab0 _ (hb 0)]
  congr 1
  refine by8_congr fun j hj => ?_
  rw [mvT, hc]
  show fl (fl (fl (fl (sh (bitT t)) 0) 1) 2) 7 (8 * 0 + j) = _
  have e : ∀ i, i < 8 → bitT t i = bb (t.getD 0 0) i := fun i hi => by rw [bitT_bb, show i / 8 = 0 by omega, show i % 8 = i by omega]
  rcases j with _|_|_|_|_|_|_|_|j
  · simp [fl, sh]
  · simp [fl, sh, e]
  · simp [fl, sh, e]
  · simp [fl, sh, e]
  · simp [fl, sh, e]
  · simp [fl, sh, e]
  · simp [fl, sh, e]
  · simp [fl, sh, e]
  · omega
theorem lst16 {l : List Nat} (h : l.length = 16) : l = [l.getD 0 0, l.getD 1 0, l.getD 2 0, l.getD 3 0, l.getD 4 0, l.getD 5 0, l.getD 6 0, l.getD 7 0, l.getD 8 0, l.getD 9 0, l.getD 10 0, l.getD 11 0, l.getD 12 0, l.getD 13 0, l.getD 14 0, l.getD 15 0] := by
  match l, h with
  | [a, b, c, d, e, f, g, h, i, j, k, l, m, n, o, p], _ => rfl
theorem double_law (t : List Nat) (ht : t.length = 16) (hb : ∀ i, t.getD i 0 < 256) : M (dblX t) = M (ov (mvT t) 128) := by
  have hi := ov_hi t hb
  have hcc := bb7c _ (hb 15)
  have h127 : bitT t 127 = bb (t.getD 15 0) 7 := rfl
  rw [lst16 (ov_len (mvT t) 128), dblX]
  split
  · rename_i h
    rw [hcc, ← h127] at h
    simp only [M, dbl0, List.map_cons, List.map_nil]
    rw [hi 1 (by omega) (by omega), hi 2 (by omega) (by omega), hi 3 (by omega) (by omega), hi 4 (by omega) (by omega), hi 5 (by omega) (by omega), hi 6 (by omega) (by omega), hi 7 (by omega) (by omega), hi 8 (by omega) (by omega), hi 9 (by omega) (by omega), hi 10 (by omega) (by omega), hi 11 (by omega) (by omega), hi 12 (by omega) (by omega), hi 13 (by omega) (by omega), hi 14 (by omega) (by omega), hi 15 (by omega) (by omega), ov_lo t hb h]
  · rename_i h
    rw [hcc, ← h127, Bool.not_eq_false] at h
    simp only [M, dbl1, List.map_cons, List.map_nil]
    rw [hi 1 (by omega) (by omega), hi 2 (by omega) (by omega), hi 3 (by omega) (by omega), hi 4 (by omega) (by omega), hi 5 (by omega) (by omega), hi 6 (by omega) (by omega), hi 7 (by omega) (by omega), hi 8 (by omega) (by omega), hi 9 (by omega) (by omega), hi 10 (by omega) (by omega), hi 11 (by omega) (by omega), hi 12 (by omega) (by omega), hi 13 (by omega) (by omega), hi 14 (by omega) (by omega), hi 15 (by omega) (by omega), ov_lo' t hb h]end Go.Proofs.Ythcbefolifpbpaa.R.D
namespace Go.Proofs.Ythcbefolifpbpaa
open Go Go.Ai Go.Aw Go.Proofs
open Nat renaming reduceBEq → uB, reduceEqDiff → uE, reduceLT → uL, reduceAdd → uA, reduceMul → uM, reduceSub → uS, reduceAnd → uN, reduceXor → uX, reduceOr → uO
open Int renaming reduceMod → vR, reduceDiv → vD, reduceLT → vL, reduceLE → vK, reduceEq → vE, reduceAdd → vA, reduceMul → vM, reduceToNat → vT
set_option linter.unusedSimpArgs false
set_option linter.unusedVariables false
set_option maxRecDepth 10000
theorem MM (l : List Nat) : M (M l) = M l := by simp [M]
theorem M_lt (l : List Nat) (i : Nat) : (M l).getD i 0 < 256 := by
  simp only [M, List.getD_eq_getElem?_getD, List.getElem?_map]
  cases l[i]? <;> simp <;> omega
theorem M_len (l : List Nat) : (M l).length = l.length := by simp [M]
theorem om {a b : Nat} (h : a % 256 = b % 256) (k : Nat) : (a * 2 ^ 1 ||| k) % 256 = (b * 2 ^ 1 ||| k) % 256 := by
  have e := fun x => Nat.or_mod_two_pow (a := x * 2 ^ 1) (b := k) (n := 8)
  have e1 := e a
  have e2 := e b
  rw [show (2 : Nat) ^ 8 = 256 from rfl] at e1 e2
  rw [e1, e2, show a * 2 ^ 1 % 256 = b * 2 ^ 1 % 256 by omega]
theorem dblX_c {x y : List Nat} (h : M x = M y) : M (dblX x) = M (dblX y) := by
  have g := gM h
  have o := fun i => om (g i)
  unfold dblX
  rw [g 15]
  split
  · simp only [M, dbl0, List.map_cons, List.map_nil, g, o]
  · simp only [M, dbl1, List.map_cons, List.map_nil, xm, g, o]
theorem dblR_M {t : List Nat} (ht : t.length = 16) : M (R.dblR (M t)) = M (dblX t) := by
  rw [R.dblR, ← R.D.double_law (M t) (by rw [M_len, ht]) (M_lt t)]
  exact dblX_c (MM t)
theorem tw_succ : ∀ (i : Nat) (t : List Nat), tw (i + 1) t = dblX (tw i t)
  | 0, t => rfl
  | i + 1, t => by rw [tw, tw_succ i (dblX t)]; rfl
theorem twR_M {T T' : List Nat} (hT : T.length = 16) (h : M T = M T') : ∀ k, M (R.X.twR T k) = M (tw k T')
  | 0 => h
  | k + 1 => by
    rw [R.X.twR, dblR_M (R.X.twR_len hT k), tw_succ]
    exact dblX_c (twR_M hT h k)
theorem nums_M (n : Nat) : M (R.X.nums n 8) = M (numL n) := by
  simp only [R.X.nums, M, numL, List.replicate_succ, List.replicate_zero, List.set_cons_zero, List.set_cons_succ, List.map_cons, List.map_nil, Nat.mod_mod, Nat.reducePow]
theorem tweakR_M {kb : List Nat} (hb : kb.length = 32) (n k : Nat) : M (R.X.tweakR (M kb) n k) = M (tw k (sealK (keysL S0 kb) (numL n))) :=
  twR_M (R.rseal_len ..) (seal_M (by rw [M_len, M_len, hb]) (by rw [MM, MM]) (by rw [MM]; exact nums_M n)) k
theorem addX_c2 {x y t u : List Nat} (h : M x = M y) (h' : M t = M u) : M (addX x t) = M (addX y u) := by
  simp only [addX, M, List.map_cons, List.map_nil, xm, M_at h, M_at h']
theorem set16_put {O b t : List Nat} {k : Nat} (h : 16 * k + 16 ≤ O.length) : R.X.set16 O k b t = putL O (16 * k) (addX b t) := by
  refine List.ext_getElem? fun i => ?_
  rw [put_at h (addX_len ..)]
  simp only [R.X.set16, List.getElem?_set, List.length_set]
  by_cases h1 : i < 16 * k
  · rw [if_pos h1]
    simp only [if_neg (show ¬(16 * k = i) by omega), if_neg (show ¬(16 * k + 1 = i) by omega), if_neg (show ¬(16 * k + 2 = i) by omega), if_neg (show ¬(16 * k + 3 = i) by omega), if_neg (show ¬(16 * k + 4 = i) by omega), if_neg (show ¬(16 * k + 5 = i) by omega), if_neg (show ¬(16 * k + 6 = i) by omega), if_neg (show ¬(16 * k + 7 = i) by omega), if_neg (show ¬(16 * k + 8 = i) by omega), if_neg (show ¬(16 * k + 9 = i) by omega), if_neg (show ¬(16 * k + 10 = i) by omega), if_neg (show ¬(16 * k + 11 = i) by omega), if_neg (show ¬(16 * k + 12 = i) by omega), if_neg (show ¬(16 * k + 13 = i) by omega), if_neg (show ¬(16 * k + 14 = i) by omega), if_neg (show ¬(16 * k + 15 = i) by omega)]
  · rw [if_neg h1]
    by_cases h2 : i < 16 * k + 16
    · rw [if_pos h2]
      obtain ⟨r, rfl⟩ : ∃ r, i = 16 * k + r := ⟨i - 16 * k, by omega⟩
      have hr : r < 16 := by omega
      rw [Nat.add_sub_cancel_left]
      have ll : ∀ r, r < 16 → 16 * k + r < O.length := fun r hr => by omega
      rcases r with _|_|_|_|_|_|_|_|_|_|_|_|_|_|_|_|r
      · simp only [Nat.zero_add, Nat.reduceAdd, Nat.add_zero, if_neg (show ¬(16 * k + 15 = 16 * k) by omega), if_neg (show ¬(16 * k + 14 = 16 * k) by omega), if_neg (show ¬(16 * k + 13 = 16 * k) by omega), if_neg (show ¬(16 * k + 12 = 16 * k) by omega), if_neg (show ¬(16 * k + 11 = 16 * k) by omega), if_neg (show ¬(16 * k + 10 = 16 * k) by omega), if_neg (show ¬(16 * k + 9 = 16 * k) by omega), if_neg (show ¬(16 * k + 8 = 16 * k) by omega), if_neg (show ¬(16 * k + 7 = 16 * k) by omega), if_neg (show ¬(16 * k + 6 = 16 * k) by omega), if_neg (show ¬(16 * k + 5 = 16 * k) by omega), if_neg (show ¬(16 * k + 4 = 16 * k) by omega), if_neg (show ¬(16 * k + 3 = 16 * k) by omega), if_neg (show ¬(16 * k + 2 = 16 * k) by omega), if_neg (show ¬(16 * k + 1 = 16 * k) by omega), if_true, if_pos (show 16 * k < O.length by omega)]; rfl
      · simp only [Nat.zero_add, Nat.reduceAdd, Nat.add_zero, if_neg (show ¬(16 * k + 15 = 16 * k + 1) by omega), if_neg (show ¬(16 * k + 14 = 16 * k + 1) by omega), if_neg (show ¬(16 * k + 13 = 16 * k + 1) by omega), if_neg (show ¬(16 * k + 12 = 16 * k + 1) by omega), if_neg (show ¬(16 * k + 11 = 16 * k + 1) by omega), if_neg (show ¬(16 * k + 10 = 16 * k + 1) by omega), if_neg (show ¬(16 * k + 9 = 16 * k + 1) by omega), if_neg (show ¬(16 * k + 8 = 16 * k + 1) by omega), if_neg (show ¬(16 * k + 7 = 16 * k + 1) by omega), if_neg (show ¬(16 * k + 6 = 16 * k + 1) by omega), if_neg (show ¬(16 * k + 5 = 16 * k + 1) by omega), if_neg (show ¬(16 * k + 4 = 16 * k + 1) by omega), if_neg (show ¬(16 * k + 3 = 16 * k + 1) by omega), if_neg (show ¬(16 * k + 2 = 16 * k + 1) by omega), if_true, if_pos (show 16 * k + 1 < O.length by omega)]; rfl
      · simp only [Nat.zero_add, Nat.reduceAdd, Nat.add_zero, if_neg (show ¬(16 * k + 15 = 16 * k + 2) by omega), if_neg (show ¬(16 * k + 14 = 16 * k + 2) by omega), if_neg (show ¬(16 * k + 13 = 16 * k + 2) by omega), if_neg (show ¬(16 * k + 12 = 16 * k + 2) by omega), if_neg (show ¬(16 * k + 11 = 16 * k + 2) by omega), if_neg (show ¬(16 * k + 10 = 16 * k + 2) by omega), if_neg (show ¬(16 * k + 9 = 16 * k + 2) by omega), if_neg (show ¬(16 * k + 8 = 16 * k + 2) by omega), if_neg (show ¬(16 * k + 7 = 16 * k + 2) by omega), if_neg (show ¬(16 * k + 6 = 16 * k + 2) by omega), if_neg (show ¬(16 * k + 5 = 16 * k + 2) by omega), if_neg (show ¬(16 * k + 4 = 16 * k + 2) by omega), if_neg (show ¬(16 * k + 3 = 16 * k + 2) by omega), if_true, if_pos (show 16 * k + 2 < O.length by omega)]; rfl
      · simp only [Nat.zero_add, Nat.reduceAdd, Nat.add_zero, if_neg (show ¬(16 * k + 15 = 16 * k + 3) by omega), if_neg (show ¬(16 * k + 14 = 16 * k + 3) by omega), if_neg (show ¬(16 * k + 13 = 16 * k + 3) by omega), if_neg (show ¬(16 * k + 12 = 16 * k + 3) by omega), if_neg (show ¬(16 * k + 11 = 16 * k + 3) by omega), if_neg (show ¬(16 * k + 10 = 16 * k + 3) by omega), if_neg (show ¬(16 * k + 9 = 16 * k + 3) by omega), if_neg (show ¬(16 * k + 8 = 16 * k + 3) by omega), if_neg (show ¬(16 * k + 7 = 16 * k + 3) by omega), if_neg (show ¬(16 * k + 6 = 16 * k + 3) by omega), if_neg (show ¬(16 * k + 5 = 16 * k + 3) by omega), if_neg (show ¬(16 * k + 4 = 16 * k + 3) by omega), if_true, if_pos (show 16 * k + 3 < O.length by omega)]; rfl
      · simp only [Nat.zero_add, Nat.reduceAdd, Nat.add_zero, if_neg (show ¬(16 * k + 15 = 16 * k + 4) by omega), if_neg (show ¬(16 * k + 14 = 16 * k + 4) by omega), if_neg (show ¬(16 * k + 13 = 16 * k + 4) by omega), if_neg (show ¬(16 * k + 12 = 16 * k + 4) by omega), if_neg (show ¬(16 * k + 11 = 16 * k + 4) by omega), if_neg (show ¬(16 * k + 10 = 16 * k + 4) by omega), if_neg (show ¬(16 * k + 9 = 16 * k + 4) by omega), if_neg (show ¬(16 * k + 8 = 16 * k + 4) by omega), if_neg (show ¬(16 * k + 7 = 16 * k + 4) by omega), if_neg (show ¬(16 * k + 6 = 16 * k + 4) by omega), if_neg (show ¬(16 * k + 5 = 16 * k + 4) by omega), if_true, if_pos (show 16 * k + 4 < O.length by omega)]; rfl
      · simp only [Nat.zero_add, Nat.reduceAdd, Nat.add_zero, if_neg (show ¬(16 * k + 15 = 16 * k + 5) by omega), if_neg (show ¬(16 * k + 14 = 16 * k + 5) by omega), if_neg (show ¬(16 * k + 13 = 16 * k + 5) by omega), if_neg (show ¬(16 * k + 12 = 16 * k + 5) by omega), if_neg (show ¬(16 * k + 11 = 16 * k + 5) by omega), if_neg (show ¬(16 * k + 10 = 16 * k + 5) by omega), if_neg (show ¬(16 * k + 9 = 16 * k + 5) by omega), if_neg (show ¬(16 * k + 8 = 16 * k + 5) by omega), if_neg (show ¬(16 * k + 7 = 16 * k + 5) by omega), if_neg (show ¬(16 * k + 6 = 16 * k + 5) by omega), if_true, if_pos (show 16 * k + 5 < O.length by omega)]; rfl
      · simp only [Nat.zero_add, Nat.reduceAdd, Nat.add_zero, if_neg (show ¬(16 * k + 15 = 16 * k + 6) by omega), if_neg (show ¬(16 * k + 14 = 16 * k + 6) by omega), if_neg (show ¬(16 * k + 13 = 16 * k + 6) by omega), if_neg (show ¬(16 * k + 12 = 16 * k + 6) by omega), if_neg (show ¬(16 * k + 11 = 16 * k + 6) by omega), if_neg (show ¬(16 * k + 10 = 16 * k + 6) by omega), if_neg (show ¬(16 * k + 9 = 16 * k + 6) by omega), if_neg (show ¬(16 * k + 8 = 16 * k + 6) by omega), if_neg (show ¬(16 * k + 7 = 16 * k + 6) by omega), if_true, if_pos (show 16 * k + 6 < O.length by omega)]; rfl
      · simp only [Nat.zero_add, Nat.reduceAdd, Nat.add_zero, if_neg (show ¬(16 * k + 15 = 16 * k + 7) by omega), if_neg (show ¬(16 * k + 14 = 16 * k + 7) by omega), if_neg (show ¬(16 * k + 13 = 16 * k + 7) by omega), if_neg (show ¬(16 * k + 12 = 16 * k + 7) by omega), if_neg (show ¬(16 * k + 11 = 16 * k + 7) by omega), if_neg (show ¬(16 * k + 10 = 16 * k + 7) by omega), if_neg (show ¬(16 * k + 9 = 16 * k + 7) by omega), if_neg (show ¬(16 * k + 8 = 16 * k + 7) by omega), if_true, if_pos (show 16 * k + 7 < O.length by omega)]; rfl
      · simp only [Nat.zero_add, Nat.reduceAdd, Nat.add_zero, if_neg (show ¬(16 * k + 15 = 16 * k + 8) by omega), if_neg (show ¬(16 * k + 14 = 16 * k + 8) by omega), if_neg (show ¬(16 * k + 13 = 16 * k + 8) by omega), if_neg (show ¬(16 * k + 12 = 16 * k + 8) by omega), if_neg (show ¬(16 * k + 11 = 16 * k + 8) by omega), if_neg (show ¬(16 * k + 10 = 16 * k + 8) by omega), if_neg (show ¬(16 * k + 9 = 16 * k + 8) by omega), if_true, if_pos (show 16 * k + 8 < O.length by omega)]; rfl
      · simp only [Nat.zero_add, Nat.reduceAdd, Nat.add_zero, if_neg (show ¬(16 * k + 15 = 16 * k + 9) by omega), if_neg (show ¬(16 * k + 14 = 16 * k + 9) by omega), if_neg (show ¬(16 * k + 13 = 16 * k + 9) by omega), if_neg (show ¬(16 * k + 12 = 16 * k + 9) by omega), if_neg (show ¬(16 * k + 11 = 16 * k + 9) by omega), if_neg (show ¬(16 * k + 10 = 16 * k + 9) by omega), if_true, if_pos (show 16 * k + 9 < O.length by omega)]; rfl
      · simp only [Nat.zero_add, Nat.reduceAdd, Nat.add_zero, if_neg (show ¬(16 * k + 15 = 16 * k + 10) by omega), if_neg (show ¬(16 * k + 14 = 16 * k + 10) by omega), if_neg (show ¬(16 * k + 13 = 16 * k + 10) by omega), if_neg (show ¬(16 * k + 12 = 16 * k + 10) by omega), if_neg (show ¬(16 * k + 11 = 16 * k + 10) by omega), if_true, if_pos (show 16 * k + 10 < O.length by omega)]; rfl
      · simp only [Nat.zero_add, Nat.reduceAdd, Nat.add_zero, if_neg (show ¬(16 * k + 15 = 16 * k + 11) by omega), if_neg (show ¬(16 * k + 14 = 16 * k + 11) by omega), if_neg (show ¬(16 * k + 13 = 16 * k + 11) by omega), if_neg (show ¬(16 * k + 12 = 16 * k + 11) by omega), if_true, if_pos (show 16 * k + 11 < O.length by omega)]; rfl
      · simp only [Nat.zero_add, Nat.reduceAdd, Nat.add_zero, if_neg (show ¬(16 * k + 15 = 16 * k + 12) by omega), if_neg (show ¬(16 * k + 14 = 16 * k + 12) by omega), if_neg (show ¬(16 * k + 13 = 16 * k + 12) by omega), if_true, if_pos (show 16 * k + 12 < O.length by omega)]; rfl
      · simp only [Nat.zero_add, Nat.reduceAdd, Nat.add_zero, if_neg (show ¬(16 * k + 15 = 16 * k + 13) by omega), if_neg (show ¬(16 * k + 14 = 16 * k + 13) by omega), if_true, if_pos (show 16 * k + 13 < O.length by omega)]; rfl
      · simp only [Nat.zero_add, Nat.reduceAdd, Nat.add_zero, if_neg (show ¬(16 * k + 15 = 16 * k + 14) by omega), if_true, if_pos (show 16 * k + 14 < O.length by omega)]; rfl
      · simp only [Nat.zero_add, Nat.reduceAdd, Nat.add_zero, if_true, if_pos (show 16 * k + 15 < O.length by omega)]; rfl
      · omega
    · rw [if_neg h2]
      simp only [if_neg (show ¬(16 * k = i) by omega), if_neg (show ¬(16 * k + 1 = i) by omega), if_neg (show ¬(16 * k + 2 = i) by omega), if_neg (show ¬(16 * k + 3 = i) by omega), if_neg (show ¬(16 * k + 4 = i) by omega), if_neg (show ¬(16 * k + 5 = i) by omega), if_neg (show ¬(16 * k + 6 = i) by omega), if_neg (show ¬(16 * k + 7 = i) by omega), if_neg (show ¬(16 * k + 8 = i) by omega), if_neg (show ¬(16 * k + 9 = i) by omega), if_neg (show ¬(16 * k + 10 = i) by omega), if_neg (show ¬(16 * k + 11 = i) by omega), if_neg (show ¬(16 * k + 12 = i) by omega), if_neg (show ¬(16 * k + 13 = i) by omega), if_neg (show ¬(16 * k + 14 = i) by omega), if_neg (show ¬(16 * k + 15 = i) by omega)]
theorem eR_blk (f : List Nat → List Nat) (kt : List Nat) (n : Nat) (s : List Nat) : ∀ m, m ≤ 4 → ∀ k, k < m → blkL (R.X.eR f kt n s m) (16 * k) = addX (f (M (R.X.partR s k (R.X.tweakR kt n k)))) (R.X.tweakR kt n k)
  | 0, _, k, hk => by omega
  | m + 1, hm, k, hk => by
    have l := R.X.eR_len f kt n s m
    rw [R.X.eR, set16_put (by omega)]
    by_cases h : k = m
    · subst h
      exact blk_put_eq (by omega) (addX_len ..)
    · rw [blk_put_ne (by omega) (addX_len ..) h]
      exact eR_blk f kt n s m (by omega) k (by omega)
theorem blk_getD (s : List Nat) (o i : Nat) (hi : i < 16) : (blkL s o).getD i 0 = s.getD (o + i) 0 := by
  rw [List.getD_eq_getElem?_getD, blk_at, if_pos hi, ← List.getD_eq_getElem?_getD]
theorem part_add (s : List Nat) (k : Nat) (t : List Nat) : R.X.partR s k t = addX (blkL s (16 * k)) t := by
  unfold R.X.partR addX
  rw [blk_getD s _ 0 (by omega), blk_getD s _ 1 (by omega), blk_getD s _ 2 (by omega), blk_getD s _ 3 (by omega), blk_getD s _ 4 (by omega), blk_getD s _ 5 (by omega), blk_getD s _ 6 (by omega), blk_getD s _ 7 (by omega), blk_getD s _ 8 (by omega), blk_getD s _ 9 (by omega), blk_getD s _ 10 (by omega), blk_getD s _ 11 (by omega), blk_getD s _ 12 (by omega), blk_getD s _ 13 (by omega), blk_getD s _ 14 (by omega), blk_getD s _ 15 (by omega)]
  rfl
theorem blkM (s : List Nat) (o : Nat) : M (blkL (M s) o) = M (blkL s o) := by
  have e : blkL (M s) o = M (blkL s o) := by simp [M, blkL, List.map_take, List.map_drop]
  rw [e, MM]
theorem sealR_M {ka kb s : List Nat} (ha : ka.length = 32) (hb : kb.length = 32) (n : Nat) (hs : s.length = 64) : M (R.X.sealR (M ka) (M kb) n (M s)) = M (eL (sealK (keysL S0 ka)) 4 0 (sealK (keysL S0 kb) (numL n)) s) := by
  refine blocks_ext (R.X.eR_len ..) (eL_len' _ 4 0 _ s rfl hs) fun k hk => ?_
  rw [eL_blk _ 4 0 _ s rfl hs k hk, if_neg (by omega), R.X.sealR, eR_blk _ _ _ _ 4 (by omega) k hk, part_add, Nat.sub_zero]
  have t := tweakR_M hb n k
  exact addX_c2 (seal_M (by rw [M_len, M_len, ha]) (by rw [MM, MM]) (by rw [MM]; exact addX_c2 (blkM s _) t)) t
theorem openR_M {ka kb s : List Nat} (ha : ka.length = 32) (hb : kb.length = 32) (n : Nat) (hs : s.length = 64) : M (R.X.openR (M ka) (M kb) n (M s)) = M (eL (openK (keysL S0 ka)) 4 0 (sealK (keysL S0 kb) (numL n)) s) := by
  refine blocks_ext (R.X.eR_len ..) (eL_len' _ 4 0 _ s rfl hs) fun k hk => ?_
  rw [eL_blk _ 4 0 _ s rfl hs k hk, if_neg (by omega), R.X.openR, eR_blk _ _ _ _ 4 (by omega) k hk, part_add, Nat.sub_zero]
  have t := tweakR_M hb n k
  exact addX_c2 (open_M (by rw [M_len, M_len, ha]) (by rw [MM, MM]) (by rw [MM]; exact addX_c2 (blkM s _) t)) t
end Go.Proofs.Ythcbefolifpbpaa
