/- Of this program, for all inputs: contracts. No condition but those in the theorems. -/
import Derived.Test.YthcbefolifpbpaaCA
import Derived.Test.YthcbefolifpbpaaA13
import Derived.Test.YthcbefolifpbpaaA15
import Derived.Test.YthcbefolifpbpaaAwArgs
namespace Go.Proofs.Ythcbefolifpbpaa
open Go Go.Ai Go.Aw Go.Proofs
open Nat renaming reduceBEq → uB, reduceEqDiff → uE, reduceLT → uL, reduceAdd → uA, reduceMul → uM, reduceSub → uS, reduceAnd → uN, reduceXor → uX, reduceOr → uO
open Int renaming reduceMod → vR, reduceDiv → vD, reduceLT → vL, reduceLE → vK, reduceEq → vE, reduceAdd → vA, reduceMul → vM, reduceToNat → vT
set_option linter.unusedSimpArgs false
set_option linter.unusedVariables false
set_option maxRecDepth 10000
theorem rnds_c {S K x y : List Nat} (h : M x = M y) : ∀ r, M (rnds S K x r) = M (rnds S K y r)
  | 0 => addL_c h
  | r + 1 => by
    have ih := subL_c (S := S) (rnds_c (S := S) (K := K) h r)
    rw [rnds, rnds]
    refine addL_c ?_
    cases decide (r + 1 < 14) with
    | true => exact mixL_c ih
    | false => exact ih
theorem ornds_c {O K x y : List Nat} (h : M x = M y) : ∀ r, M (ornds O K x r) = M (ornds O K y r)
  | 0 => h
  | j + 1 => by
    have ih := addL_c (K := K) (r := 14 - j) (ornds_c (O := O) (K := K) h j)
    rw [ornds, ornds]
    refine isubL_c ?_
    cases decide (14 - j < 14) with
    | true => exact mix3_c ih
    | false => exact ih
theorem sealK_c {K x y : List Nat} (h : M x = M y) : M (sealK K x) = M (sealK K y) := rnds_c h 14
theorem openK_c {K x y : List Nat} (h : M x = M y) : M (openK K x) = M (openK K y) := addL_c (ornds_c h 14)
theorem addX_c {x y t : List Nat} (h : M x = M y) : M (addX x t) = M (addX y t) := by
  simp only [addX, M, List.map_cons, List.map_nil, xm, M_at h]
theorem addX_addX {x t : List Nat} (h : x.length = 16) : M (addX (addX x t) t) = M x := by
  rw [M16 h]
  simp only [addX, M, List.map_cons, List.map_nil, List.getD_cons_zero, List.getD_cons_succ, Nat.xor_assoc, Nat.xor_self, Nat.xor_zero]
def enc (f : List Nat → List Nat) (t b : List Nat) : List Nat := addX (f (addX b t)) t
theorem enc_len (f : List Nat → List Nat) (t b : List Nat) : (enc f t b).length = 16 := rfl
def tw : Nat → List Nat → List Nat
  | 0, t => t
  | i + 1, t => tw i (dblX t)
theorem enc_enc {f g : List Nat → List Nat} (hf : ∀ b, (f b).length = 16) (hg : ∀ {x y}, M x = M y → M (g x) = M (g y)) (hfg : ∀ b, b.length = 16 → M (g (f b)) = M b) {t b : List Nat} (hb : b.length = 16) : M (enc g t (enc f t b)) = M b := by
  unfold enc
  exact (addX_c ((hg (addX_addX (hf _))).trans (hfg _ rfl))).trans (addX_addX hb)
theorem enc_c {g : List Nat → List Nat} (hg : ∀ {x y}, M x = M y → M (g x) = M (g y)) {t x y : List Nat} (h : M x = M y) : M (enc g t x) = M (enc g t y) := addX_c (hg (addX_c h))
theorem put_at {s x : List Nat} {o : Nat} (h : o + 16 ≤ s.length) (hx : x.length = 16) (i : Nat) : (putL s o x)[i]? = if i < o then s[i]? else if i < o + 16 then x[i - o]? else s[i]? := by
  unfold putL
  by_cases h1 : i < o
  · rw [if_pos h1, List.getElem?_append_left (by simp [hx]; omega), List.getElem?_append_left (by simp; omega), List.getElem?_take_of_lt h1]
  · rw [if_neg h1]
    by_cases h2 : i < o + 16
    · rw [if_pos h2, List.getElem?_append_left (by simp [hx]; omega), List.getElem?_append_right (by simp; omega)]
      congr 1; simp; omega
    · rw [if_neg h2, List.getElem?_append_right (by simp [hx]; omega), List.getElem?_drop]
      congr 1; simp [hx]; omega
theorem blk_at (s : List Nat) (o i : Nat) : (blkL s o)[i]? = if i < 16 then s[o + i]? else none := by
  unfold blkL
  split
  · rename_i h; rw [List.getElem?_take_of_lt h, List.getElem?_drop]
  · rename_i h; rw [List.getElem?_take_eq_none (by omega)]
theorem blk_put_eq {s x : List Nat} {o : Nat} (h : o + 16 ≤ s.length) (hx : x.length = 16) : blkL (putL s o x) o = x := by
  refine List.ext_getElem? fun i => ?_
  rw [blk_at, put_at h hx]
  by_cases hi : i < 16
  · rw [if_pos hi, if_neg (by omega), if_pos (by omega)]; congr 1; omega
  · rw [if_neg hi, List.getElem?_eq_none (by omega)]
theorem blk_put_ne {s x : List Nat} {q k : Nat} (h : 16 * q + 16 ≤ s.length) (hx : x.length = 16) (hqk : k ≠ q) : blkL (putL s (16 * q) x) (16 * k) = blkL s (16 * k) := by
  refine List.ext_getElem? fun i => ?_
  rw [blk_at, blk_at]
  by_cases hi : i < 16
  · rw [if_pos hi, if_pos hi, put_at h hx]
    by_cases h1 : 16 * k + i < 16 * q
    · rw [if_pos h1]
    · rw [if_neg h1, if_neg (by omega)]
  · rw [if_neg hi, if_neg hi]
theorem eL_blk (f : List Nat → List Nat) : ∀ (j q : Nat) (t s : List Nat), q + j = 4 → s.length = 64 → ∀ k, k < 4 → blkL (eL f j q t s) (16 * k) = if k < q then blkL s (16 * k) else enc f (tw (k - q) t) (blkL s (16 * k))
  | 0, q, t, s, hq, hs, k, hk => by rw [if_pos (by omega)]; rfl
  | j + 1, q, t, s, hq, hs, k, hk => by
    have hp : (putL s (16 * q) (addX (f (addX (blkL s (16 * q)) t)) t)).length = 64 := by rw [putL_len (by omega) (addX_len ..)]; exact hs
    rw [eL, eL_blk f j (q + 1) (dblX t) _ (by omega) hp k hk]
    by_cases h1 : k = q
    · subst h1
      rw [if_pos (by omega), if_neg (by omega), blk_put_eq (by omega) (addX_len ..), Nat.sub_self]
      rfl
    · rw [blk_put_ne (by omega) (addX_len ..) h1]
      by_cases h2 : k < q
      · rw [if_pos (by omega), if_pos h2]
      · rw [if_neg (by omega), if_neg h2, show k - q = (k - (q + 1)) + 1 by omega, tw]
theorem blocks_ext {s s' : List Nat} (hs : s.length = 64) (hs' : s'.length = 64) (h : ∀ k, k < 4 → M (blkL s (16 * k)) = M (blkL s' (16 * k))) : M s = M s' := by
  refine List.ext_getElem? fun i => ?_
  by_cases hi : i < 64
  · have e := congrArg (fun l => l[i % 16]?) (h (i / 16) (by omega))
    simp only [M, List.getElem?_map, blk_at, if_pos (show i % 16 < 16 by omega), show 16 * (i / 16) + i % 16 = i by omega] at e
    simpa [M] using e
  · rw [List.getElem?_eq_none (by simp [M]; omega), List.getElem?_eq_none (by simp [M]; omega)]
theorem eL_len' (f : List Nat → List Nat) : ∀ (j q : Nat) (t s : List Nat), q + j = 4 → s.length = 64 → (eL f j q t s).length = 64
  | 0, _, _, _, _, hs => hs
  | j + 1, q, t, s, hq, hs => by
    rw [eL]
    exact eL_len' f j (q + 1) _ _ (by omega) (by rw [putL_len (by omega) (addX_len ..)]; exact hs)
theorem eL_back {f g : List Nat → List Nat} (hf : ∀ b, (f b).length = 16) (hg : ∀ {x y}, M x = M y → M (g x) = M (g y)) (hfg : ∀ b, b.length = 16 → M (g (f b)) = M b) (t s : List Nat) (hs : s.length = 64) : M (eL g 4 0 t (eL f 4 0 t s)) = M s := by
  have h1 := eL_len' f 4 0 t s rfl hs
  refine blocks_ext (eL_len' g 4 0 t _ rfl h1) hs fun k hk => ?_
  rw [eL_blk g 4 0 t _ rfl h1 k hk, if_neg (by omega), eL_blk f 4 0 t s rfl hs k hk, if_neg (by omega)]
  exact enc_enc hf hg hfg (blkL_len (by omega))
theorem eL_c {g : List Nat → List Nat} (hg : ∀ {x y}, M x = M y → M (g x) = M (g y)) (t : List Nat) {s s' : List Nat} (hs : s.length = 64) (hs' : s'.length = 64) (h : M s = M s') : M (eL g 4 0 t s) = M (eL g 4 0 t s') := by
  refine blocks_ext (eL_len' g 4 0 t _ rfl hs) (eL_len' g 4 0 t _ rfl hs') fun k hk => ?_
  rw [eL_blk g 4 0 t _ rfl hs k hk, if_neg (by omega), eL_blk g 4 0 t _ rfl hs' k hk, if_neg (by omega)]
  refine enc_c hg ?_
  simp only [blkL, M, List.map_take, List.map_drop] at h ⊢
  rw [h]
end Go.Proofs.Ythcbefolifpbpaa
namespace Go.Proofs.Ythcbefolifpbpaa
open Go Go.Ai Go.Aw Go.Proofs
open Nat renaming reduceBEq → uB, reduceEqDiff → uE, reduceLT → uL, reduceAdd → uA, reduceMul → uM, reduceSub → uS, reduceAnd → uN, reduceXor → uX, reduceOr → uO
open Int renaming reduceMod → vR, reduceDiv → vD, reduceLT → vL, reduceLE → vK, reduceEq → vE, reduceAdd → vA, reduceMul → vM, reduceToNat → vT
set_option linter.unusedSimpArgs false
set_option linter.unusedVariables false
set_option maxRecDepth 10000
theorem cut_ka {ka kb : List Nat} {n : Nat} (ha : ka.length = 32) : cutE 0 32 (keysC ka kb n) = some (B ka) := by
  rw [cutE_of (by simp only [keysC, List.length_append, B_len, ha]; omega), List.drop_zero]
  unfold keysC
  rw [List.take_append_of_le_length (by rw [B_len, ha]; omega), List.take_of_length_le (by rw [B_len, ha]; omega)]
theorem cut_kb {ka kb : List Nat} {n : Nat} (ha : ka.length = 32) (hb : kb.length = 32) : cutE 32 32 (keysC ka kb n) = some (B kb) := by
  rw [cutE_of (by simp only [keysC, List.length_append, B_len, ha, hb]; omega)]
  have e : (keysC ka kb n).drop 32 = B kb ++ [AV.int .u64 (n : Int)] := by
    unfold keysC
    rw [List.drop_append_of_le_length (by rw [B_len, ha]; omega), List.drop_of_length_le (by rw [B_len, ha]; omega)]; rfl
  rw [e, List.take_append_of_le_length (by rw [B_len, hb]; omega), List.take_of_length_le (by rw [B_len, hb]; omega)]
theorem at_n {ka kb : List Nat} {n : Nat} (ha : ka.length = 32) (hb : kb.length = 32) : (keysC ka kb n)[64]? = some (.int .u64 (n : Int)) := by
  unfold keysC
  rw [List.getElem?_append_right (by rw [B_len, ha]; omega), List.getElem?_append_right (by rw [B_len, B_len, ha, hb]; omega), B_len, B_len, ha, hb]
  rfl
theorem wrap_u64 (x : Nat) : wrapA IntKind.u64 ((x : Nat) : Int) = ((x % 18446744073709551616 : Nat) : Int) := by
  rw [wrapA_eq]
  simp [IntKind.wrap, IntKind.bits, IntKind.signed]
structure Fx (H : Heap) (a m kd kt : Nat) (ka kb : List Nat) (n : Nat) (s o : List Nat) : Prop where
  k : H.get a = some (.cells (keysC ka kb n) 0 false)
  s : H.get (a + 1) = some (.cells (B s) 0 false)
  o : H.get (a + 2) = some (.cells (B o) 0 false)
  i : MIs H m kd kt (keysL S0 ka) (keysL S0 kb)
  lt : a + 2 < kd
theorem Fx.step {H H' : Heap} {a m kd kt n : Nat} {ka kb s o : List Nat} (x : Fx H a m kd kt ka kb n s o) (i : MIs H' m kd kt (keysL S0 ka) (keysL S0 kb)) (k : KeepsBut kd H H') : Fx H' a m kd kt ka kb n s o :=
  have hl := x.lt
  have hk := x.i.d.2.1
  ⟨(k.2 _ (by omega) (by omega)).trans x.k, (k.2 _ (by omega) (by omega)).trans x.s, (k.2 _ (by omega) (by omega)).trans x.o, i, hl⟩
set_option maxHeartbeats 4000000 in
theorem xtsBack_ok (d : Nat) (h : Heap) (ka kb : List Nat) (ha : ka.length = 32) (hb : kb.length = 32) (n : Nat) (hn : n < 18446744073709551616) (s o : List Nat) (hs : s.length = 64) (ho : o.length = 64) : G (callD env (d + 8) 7 [.agg (keysC ka kb n), .agg (B s), .agg (B o)] h) fun v h' => v = .bool true := by
  generalize hX : (fun (v : AV) (h' : Heap) => v = .bool true) = Q
  have hz := z64_len
  rw [callD_run (E := env) [(6, .fl [(5, 0, 1), (13, 1, 2), (22, 2, 3), (31, 3, 4), (33, 3, 4), (34, 3, 4)])] (by kernel_rfl) Try.func7 rfl (by rw [Try.ntmps7]; simp) (by kernel_rfl)]; simp (maxSteps := 2000000) (implicitDefEqProofs := false) (disch := first | omega | (simp only [SD.down, uA, uL] <;> omega) | fail) only [Try.ntmps7, Try.results7, env_P, env_L, cutB_all, hs, ho, cut_ka, cut_kb, ha, hb, TA.down, resE, oneV, ↓reduceIte, reduceCtorEq, uB, uE, uL, uA, uM, uS, uN, uX, uO, vR, vD, vL, vK, vE, vA, vM, vT]
  refine G.call (xnew_ok (d + 3) _ ka kb ha hb) ?_
  rintro v h1 ⟨m, kd, kt, rfl, hm, hkd, i1, k1⟩
  have hn1 := k1.1
  simp only [next_new, next_put] at hn1 hm hkd
  have x1 : Fx h1 h.next m kd kt ka kb n s o := ⟨by rw [k1.2 _ (by simp (maxSteps := 2000000) (implicitDefEqProofs := false) (disch := first | omega | (simp only [SD.down, uA, uL] <;> omega) | fail) only [TA.down, resE, oneV, ↓reduceIte, reduceCtorEq, uB, uE, uL, uA, uM, uS, uN, uX, uO, vR, vD, vL, vK, vE, vA, vM, vT]; omega)]; simp (maxSteps := 2000000) (implicitDefEqProofs := false) (disch := first | omega | (simp only [SD.down, uA, uL] <;> omega) | fail) only [TA.down, resE, oneV, ↓reduceIte, reduceCtorEq, uB, uE, uL, uA, uM, uS, uN, uX, uO, vR, vD, vL, vK, vE, vA, vM, vT], by rw [k1.2 _ (by simp (maxSteps := 2000000) (implicitDefEqProofs := false) (disch := first | omega | (simp only [SD.down, uA, uL] <;> omega) | fail) only [TA.down, resE, oneV, ↓reduceIte, reduceCtorEq, uB, uE, uL, uA, uM, uS, uN, uX, uO, vR, vD, vL, vK, vE, vA, vM, vT]; omega)]; simp (maxSteps := 2000000) (implicitDefEqProofs := false) (disch := first | omega | (simp only [SD.down, uA, uL] <;> omega) | fail) only [TA.down, resE, oneV, ↓reduceIte, reduceCtorEq, uB, uE, uL, uA, uM, uS, uN, uX, uO, vR, vD, vL, vK, vE, vA, vM, vT], by rw [k1.2 _ (by simp (maxSteps := 2000000) (implicitDefEqProofs := false) (disch := first | omega | (simp only [SD.down, uA, uL] <;> omega) | fail) only [TA.down, resE, oneV, ↓reduceIte, reduceCtorEq, uB, uE, uL, uA, uM, uS, uN, uX, uO, vR, vD, vL, vK, vE, vA, vM, vT]; omega)]; simp (maxSteps := 2000000) (implicitDefEqProofs := false) (disch := first | omega | (simp only [SD.down, uA, uL] <;> omega) | fail) only [TA.down, resE, oneV, ↓reduceIte, reduceCtorEq, uB, uE, uL, uA, uM, uS, uN, uX, uO, vR, vD, vL, vK, vE, vA, vM, vT], i1, by omega⟩
  have q1 := x1.k
  have q2 := x1.s
  have q3 := x1.o
  have q4 := at_n (n := n) ha hb
  simp (maxSteps := 2000000) (implicitDefEqProofs := false) (disch := first | omega | (simp only [SD.down, uA, uL] <;> omega) | fail) only [q1, q2, q3, q4, cutB_all, hs, ho, same_B, TA.down, resE, oneV, ↓reduceIte, reduceCtorEq, uB, uE, uL, uA, uM, uS, uN, uX, uO, vR, vD, vL, vK, vE, vA, vM, vT]
  refine G.call (mseal_ok (d + 1) _ m kd kt _ _ i1 n hn s hs) ?_
  rintro v h2 ⟨rfl, i2, k2⟩
  have x2 := x1.step i2 k2
  have l1 := eL_len (sealK (keysL S0 ka)) 4 0 (sealK (keysL S0 kb) (numL n)) s rfl hs
  generalize hA : eL (sealK (keysL S0 ka)) 4 0 (sealK (keysL S0 kb) (numL n)) s = A at l1 ⊢
  have hn2 := k2.1
  have q1 := x2.k
  have q2 := x2.s
  have q3 := x2.o
  simp (maxSteps := 2000000) (implicitDefEqProofs := false) (disch := first | omega | (simp only [SD.down, uA, uL] <;> omega) | fail) only [q1, q2, q3, q4, zz64, over_B, z64_len, cutB_all, hs, ho, l1, same_B, TA.down, resE, oneV, ↓reduceIte, reduceCtorEq, uB, uE, uL, uA, uM, uS, uN, uX, uO, vR, vD, vL, vK, vE, vA, vM, vT]
  have x2' : Fx ((h2.new (Blk.cells (B z64) 0 false)).put h2.next (some (Blk.cells (B A) 0 false))) h.next m kd kt ka kb n s o := x2.step (x2.i.keep ⟨by simp (maxSteps := 2000000) (implicitDefEqProofs := false) (disch := first | omega | (simp only [SD.down, uA, uL] <;> omega) | fail) only [TA.down, resE, oneV, ↓reduceIte, reduceCtorEq, uB, uE, uL, uA, uM, uS, uN, uX, uO, vR, vD, vL, vK, vE, vA, vM, vT]; omega, fun j hj => by simp (maxSteps := 2000000) (implicitDefEqProofs := false) (disch := first | omega | (simp only [SD.down, uA, uL] <;> omega) | fail) only [TA.down, resE, oneV, ↓reduceIte, reduceCtorEq, uB, uE, uL, uA, uM, uS, uN, uX, uO, vR, vD, vL, vK, vE, vA, vM, vT]⟩) (Keeps.but kd ⟨by simp (maxSteps := 2000000) (implicitDefEqProofs := false) (disch := first | omega | (simp only [SD.down, uA, uL] <;> omega) | fail) only [TA.down, resE, oneV, ↓reduceIte, reduceCtorEq, uB, uE, uL, uA, uM, uS, uN, uX, uO, vR, vD, vL, vK, vE, vA, vM, vT]; omega, fun j hj => by simp (maxSteps := 2000000) (implicitDefEqProofs := false) (disch := first | omega | (simp only [SD.down, uA, uL] <;> omega) | fail) only [TA.down, resE, oneV, ↓reduceIte, reduceCtorEq, uB, uE, uL, uA, uM, uS, uN, uX, uO, vR, vD, vL, vK, vE, vA, vM, vT]⟩)
  have a2 : ((h2.new (Blk.cells (B z64) 0 false)).put h2.next (some (Blk.cells (B A) 0 false))).get h2.next = some (.cells (B A) 0 false) := by simp (maxSteps := 2000000) (implicitDefEqProofs := false) (disch := first | omega | (simp only [SD.down, uA, uL] <;> omega) | fail) only [TA.down, resE, oneV, ↓reduceIte, reduceCtorEq, uB, uE, uL, uA, uM, uS, uN, uX, uO, vR, vD, vL, vK, vE, vA, vM, vT]
  have c2 : ((h2.new (Blk.cells (B z64) 0 false)).put h2.next (some (Blk.cells (B A) 0 false))).next = h2.next + 1 := by simp (maxSteps := 2000000) (implicitDefEqProofs := false) (disch := first | omega | (simp only [SD.down, uA, uL] <;> omega) | fail) only [TA.down, resE, oneV, ↓reduceIte, reduceCtorEq, uB, uE, uL, uA, uM, uS, uN, uX, uO, vR, vD, vL, vK, vE, vA, vM, vT]
  rw [show wrapA IntKind.u64 ((n + 1 : Nat) : Int) = (((n + 1) % 18446744073709551616 : Nat) : Int) from wrap_u64 _]
  refine G.call (mseal_ok (d + 1) _ m kd kt _ _ x2'.i _ (Nat.mod_lt _ (by omega)) o ho) ?_
  generalize ((h2.new (Blk.cells (B z64) 0 false)).put h2.next (some (Blk.cells (B A) 0 false))) = H2 at x2' a2 c2 ⊢
  rintro v h3 ⟨rfl, i3, k3⟩
  have x3 := x2'.step i3 k3
  have hkd2 := x2.i.d.2.1
  have hn3 := k3.1
  have a3 : h3.get h2.next = some (.cells (B A) 0 false) := by rw [k3.2 _ (by omega) (by omega)]; exact a2
  have q1 := x3.k
  have q2 := x3.s
  have q3 := x3.o
  simp (maxSteps := 2000000) (implicitDefEqProofs := false) (disch := first | omega | (simp only [SD.down, uA, uL] <;> omega) | fail) only [q1, q2, q3, q4, a3, zz64, over_B, z64_len, cutB_all, hs, ho, l1, same_B, TA.down, resE, oneV, ↓reduceIte, reduceCtorEq, uB, uE, uL, uA, uM, uS, uN, uX, uO, vR, vD, vL, vK, vE, vA, vM, vT]
  refine G.call (mopen_ok (d + 1) _ m kd kt _ _ x3.i n hn s hs) ?_
  rintro v h4 ⟨rfl, i4, k4⟩
  have x4 := x3.step i4 k4
  have hn4 := k4.1
  have a4 : h4.get h2.next = some (.cells (B A) 0 false) := by rw [k4.2 _ (by omega) (by omega)]; exact a3
  have l2 := eL_len (openK (keysL S0 ka)) 4 0 (sealK (keysL S0 kb) (numL n)) s rfl hs
  generalize hB : eL (openK (keysL S0 ka)) 4 0 (sealK (keysL S0 kb) (numL n)) s = B' at l2 ⊢
  have q1 := x4.k
  have q2 := x4.s
  have q3 := x4.o
  simp (maxSteps := 2000000) (implicitDefEqProofs := false) (disch := first | omega | (simp only [SD.down, uA, uL] <;> omega) | fail) only [q1, q2, q3, q4, a4, zz64, over_B, z64_len, cutB_all, hs, ho, l1, l2, same_B, TA.down, resE, oneV, ↓reduceIte, reduceCtorEq, uB, uE, uL, uA, uM, uS, uN, uX, uO, vR, vD, vL, vK, vE, vA, vM, vT]
  have x4' : Fx ((h4.new (Blk.cells (B z64) 0 false)).put h4.next (some (Blk.cells (B B') 0 false))) h.next m kd kt ka kb n s o := x4.step (x4.i.keep ⟨by simp (maxSteps := 2000000) (implicitDefEqProofs := false) (disch := first | omega | (simp only [SD.down, uA, uL] <;> omega) | fail) only [TA.down, resE, oneV, ↓reduceIte, reduceCtorEq, uB, uE, uL, uA, uM, uS, uN, uX, uO, vR, vD, vL, vK, vE, vA, vM, vT]; omega, fun j hj => by simp (maxSteps := 2000000) (implicitDefEqProofs := false) (disch := first | omega | (simp only [SD.down, uA, uL] <;> omega) | fail) only [TA.down, resE, oneV, ↓reduceIte, reduceCtorEq, uB, uE, uL, uA, uM, uS, uN, uX, uO, vR, vD, vL, vK, vE, vA, vM, vT]⟩) (Keeps.but kd ⟨by simp (maxSteps := 2000000) (implicitDefEqProofs := false) (disch := first | omega | (simp only [SD.down, uA, uL] <;> omega) | fail) only [TA.down, resE, oneV, ↓reduceIte, reduceCtorEq, uB, uE, uL, uA, uM, uS, uN, uX, uO, vR, vD, vL, vK, vE, vA, vM, vT]; omega, fun j hj => by simp (maxSteps := 2000000) (implicitDefEqProofs := false) (disch := first | omega | (simp only [SD.down, uA, uL] <;> omega) | fail) only [TA.down, resE, oneV, ↓reduceIte, reduceCtorEq, uB, uE, uL, uA, uM, uS, uN, uX, uO, vR, vD, vL, vK, vE, vA, vM, vT]⟩)
  have b4 : ((h4.new (Blk.cells (B z64) 0 false)).put h4.next (some (Blk.cells (B B') 0 false))).get h4.next = some (.cells (B B') 0 false) := by simp (maxSteps := 2000000) (implicitDefEqProofs := false) (disch := first | omega | (simp only [SD.down, uA, uL] <;> omega) | fail) only [TA.down, resE, oneV, ↓reduceIte, reduceCtorEq, uB, uE, uL, uA, uM, uS, uN, uX, uO, vR, vD, vL, vK, vE, vA, vM, vT]
  have a4' : ((h4.new (Blk.cells (B z64) 0 false)).put h4.next (some (Blk.cells (B B') 0 false))).get h2.next = some (.cells (B A) 0 false) := by simp (maxSteps := 2000000) (implicitDefEqProofs := false) (disch := first | omega | (simp only [SD.down, uA, uL] <;> omega) | fail) only [a4, TA.down, resE, oneV, ↓reduceIte, reduceCtorEq, uB, uE, uL, uA, uM, uS, uN, uX, uO, vR, vD, vL, vK, vE, vA, vM, vT]
  have c4 : ((h4.new (Blk.cells (B z64) 0 false)).put h4.next (some (Blk.cells (B B') 0 false))).next = h4.next + 1 := by simp (maxSteps := 2000000) (implicitDefEqProofs := false) (disch := first | omega | (simp only [SD.down, uA, uL] <;> omega) | fail) only [TA.down, resE, oneV, ↓reduceIte, reduceCtorEq, uB, uE, uL, uA, uM, uS, uN, uX, uO, vR, vD, vL, vK, vE, vA, vM, vT]
  refine G.call (mopen_ok (d + 1) _ m kd kt _ _ x4'.i n hn o ho) ?_
  generalize ((h4.new (Blk.cells (B z64) 0 false)).put h4.next (some (Blk.cells (B B') 0 false))) = H4 at x4' a4' b4 c4 ⊢
  rintro v h5 ⟨rfl, i5, k5⟩
  have x5 := x4'.step i5 k5
  have hkd4 := x4.i.d.2.1
  have hn5 := k5.1
  have a5 : h5.get h2.next = some (.cells (B A) 0 false) := by rw [k5.2 _ (by omega) (by omega)]; exact a4'
  have b5 : h5.get h4.next = some (.cells (B B') 0 false) := by rw [k5.2 _ (by omega) (by omega)]; exact b4
  have q1 := x5.k
  have q2 := x5.s
  have q3 := x5.o
  simp (maxSteps := 2000000) (implicitDefEqProofs := false) (disch := first | omega | (simp only [SD.down, uA, uL] <;> omega) | fail) only [q1, q2, q3, q4, a5, b5, zz64, over_B, z64_len, cutB_all, hs, ho, l1, l2, same_B, TA.down, resE, oneV, ↓reduceIte, reduceCtorEq, uB, uE, uL, uA, uM, uS, uN, uX, uO, vR, vD, vL, vK, vE, vA, vM, vT]
  refine G.callC (mopen_ok (d + 1) _ m kd kt _ _ x5.i n hn A l1) ?_
  rintro v h6 ⟨rfl, i6, k6⟩
  have x6 := x5.step i6 k6
  have hn6 := k6.1
  have a6 : h6.get h2.next = some (.cells (B A) 0 false) := by rw [k6.2 _ (by omega) (by omega)]; exact a5
  have b6 : h6.get h4.next = some (.cells (B B') 0 false) := by rw [k6.2 _ (by omega) (by omega)]; exact b5
  have l3 := eL_len (openK (keysL S0 ka)) 4 0 (sealK (keysL S0 kb) (numL n)) A rfl l1
  have e1 : M (eL (openK (keysL S0 ka)) 4 0 (sealK (keysL S0 kb) (numL n)) A) = M s := by
    rw [← hA]; exact eL_back (fun b => sealK_len ..) (fun e => openK_c e) (fun b hb => open_seal _ b hb) _ s hs
  have q5 := x6.k
  have q6 := x6.s
  have q7 := x6.o
  simp (maxSteps := 2000000) (implicitDefEqProofs := false) (disch := first | omega | (simp only [SD.down, uA, uL] <;> omega) | fail) only [q1, q2, q3, q4, q5, q6, q7, a5, a6, b5, b6, cutB_all, hs, ho, l1, l2, l3, same_B, TA.down, resE, oneV, ↓reduceIte, reduceCtorEq, uB, uE, uL, uA, uM, uS, uN, uX, uO, vR, vD, vL, vK, vE, vA, vM, vT]
  rw [bin_eql_agg, eq53 _ _ l3 hs, decide_eq_true e1]
  simp (maxSteps := 2000000) (implicitDefEqProofs := false) (disch := first | omega | (simp only [SD.down, uA, uL] <;> omega) | fail) only [q1, q2, q3, q4, q5, q6, q7, a5, a6, b5, b6, cutB_all, hs, ho, l1, l2, l3, same_B, TA.down, resE, oneV, ↓reduceIte, reduceCtorEq, uB, uE, uL, uA, uM, uS, uN, uX, uO, vR, vD, vL, vK, vE, vA, vM, vT]
  refine G.callC (mseal_ok (d + 1) _ m kd kt _ _ x6.i n hn B' l2) ?_
  rintro v h7 ⟨rfl, i7, k7⟩
  have x7 := x6.step i7 k7
  have hn7 := k7.1
  have a7 : h7.get h2.next = some (.cells (B A) 0 false) := by rw [k7.2 _ (by omega) (by omega)]; exact a6
  have b7 : h7.get h4.next = some (.cells (B B') 0 false) := by rw [k7.2 _ (by omega) (by omega)]; exact b6
  have l4 := eL_len (sealK (keysL S0 ka)) 4 0 (sealK (keysL S0 kb) (numL n)) B' rfl l2
  have e2 : M (eL (sealK (keysL S0 ka)) 4 0 (sealK (keysL S0 kb) (numL n)) B') = M s := by
    rw [← hB]; exact eL_back (fun b => openK_len ..) (fun e => sealK_c e) (fun b hb => seal_open _ b hb) _ s hs
  have r5 := x7.k
  have r6 := x7.s
  have r7 := x7.o
  simp (maxSteps := 2000000) (implicitDefEqProofs := false) (disch := first | omega | (simp only [SD.down, uA, uL] <;> omega) | fail) only [r5, r6, r7, q1, q2, q3, q4, q5, q6, q7, a5, a6, b5, b6, a7, b7, cutB_all, hs, ho, l1, l2, l3, l4, same_B, TA.down, resE, oneV, ↓reduceIte, reduceCtorEq, uB, uE, uL, uA, uM, uS, uN, uX, uO, vR, vD, vL, vK, vE, vA, vM, vT]
  rw [bin_eql_agg, eq53 _ _ l4 hs, decide_eq_true e2]
  simp (maxSteps := 2000000) (implicitDefEqProofs := false) (disch := first | omega | (simp only [SD.down, uA, uL] <;> omega) | fail) only [r5, r6, r7, q1, q2, q3, q4, q5, q6, q7, a5, a6, b5, b6, a7, b7, cutB_all, hs, ho, l1, l2, l3, l4, same_B, TA.down, resE, oneV, ↓reduceIte, reduceCtorEq, uB, uE, uL, uA, uM, uS, uN, uX, uO, vR, vD, vL, vK, vE, vA, vM, vT]
  refine G.callC (mseal_ok (d + 1) _ m kd kt _ _ x7.i n hn s hs) ?_
  rw [hA]
  rintro v h8 ⟨rfl, i8, k8⟩
  have x8 := x7.step i8 k8
  have hn8 := k8.1
  have a8 : h8.get h2.next = some (.cells (B A) 0 false) := by rw [k8.2 _ (by omega) (by omega)]; exact a7
  have t5 := x8.k
  have t6 := x8.s
  have t7 := x8.o
  simp (maxSteps := 2000000) (implicitDefEqProofs := false) (disch := first | omega | (simp only [SD.down, uA, uL] <;> omega) | fail) only [t5, t6, t7, r5, r6, r7, q4, a7, a8, cutB_all, hs, ho, l1, l2, l3, l4, same_B, TA.down, resE, oneV, ↓reduceIte, reduceCtorEq, uB, uE, uL, uA, uM, uS, uN, uX, uO, vR, vD, vL, vK, vE, vA, vM, vT]
  rw [bin_eql_agg, eq53 _ _ l1 l1, decide_eq_true rfl]
  simp (maxSteps := 2000000) (implicitDefEqProofs := false) (disch := first | omega | (simp only [SD.down, uA, uL] <;> omega) | fail) only [t5, t6, t7, r5, r6, r7, q4, a7, a8, cutB_all, hs, ho, l1, l2, l3, l4, same_B, TA.down, resE, oneV, ↓reduceIte, reduceCtorEq, uB, uE, uL, uA, uM, uS, uN, uX, uO, vR, vD, vL, vK, vE, vA, vM, vT]
  refine G.callC (mseal_ok (d + 1) _ m kd kt _ _ x8.i n hn o ho) ?_
  rintro v h9 ⟨rfl, i9, k9⟩
  have x9 := x8.step i9 k9
  have a9 : h9.get h2.next = some (.cells (B A) 0 false) := by rw [k9.2 _ (by omega) (by omega)]; exact a8
  have l5 := eL_len (sealK (keysL S0 ka)) 4 0 (sealK (keysL S0 kb) (numL n)) o rfl ho
  have e3 : decide (M (eL (sealK (keysL S0 ka)) 4 0 (sealK (keysL S0 kb) (numL n)) o) = M A) = decide (M o = M s) := by
    refine decide_eq_decide.2 ⟨fun e => ?_, fun e => ?_⟩
    · rw [← eL_back (f := sealK (keysL S0 ka)) (g := openK (keysL S0 ka)) (fun b => sealK_len ..) (fun e => openK_c e) (fun b hb => open_seal _ b hb) (sealK (keysL S0 kb) (numL n)) o ho, eL_c (fun e => openK_c e) _ l5 l1 e]
      exact e1
    · rw [← hA]; exact eL_c (fun e => sealK_c e) _ ho hs e
  have p5 := x9.k
  have p6 := x9.s
  have p7 := x9.o
  simp (maxSteps := 2000000) (implicitDefEqProofs := false) (disch := first | omega | (simp only [SD.down, uA, uL] <;> omega) | fail) only [p5, p6, p7, t5, t6, t7, q4, a8, a9, cutB_all, hs, ho, l1, l5, same_B, TA.down, resE, oneV, ↓reduceIte, reduceCtorEq, uB, uE, uL, uA, uM, uS, uN, uX, uO, vR, vD, vL, vK, vE, vA, vM, vT]
  rw [bin_eql_agg, eq53 _ _ l5 l1, e3]
  simp (maxSteps := 2000000) (implicitDefEqProofs := false) (disch := first | omega | (simp only [SD.down, uA, uL] <;> omega) | fail) only [p5, p6, p7, t5, t6, t7, q4, a8, a9, cutB_all, hs, ho, l1, l5, same_B, TA.down, resE, oneV, ↓reduceIte, reduceCtorEq, uB, uE, uL, uA, uM, uS, uN, uX, uO, vR, vD, vL, vK, vE, vA, vM, vT]
  rw [bin_eql_agg, eq53 _ _ ho hs]
  simp (maxSteps := 2000000) (implicitDefEqProofs := false) (disch := first | omega | (simp only [SD.down, uA, uL] <;> omega) | fail) only [p5, p6, p7, t5, t6, t7, q4, a8, a9, cutB_all, hs, ho, l1, l5, same_B, TA.down, resE, oneV, ↓reduceIte, reduceCtorEq, uB, uE, uL, uA, uM, uS, uN, uX, uO, vR, vD, vL, vK, vE, vA, vM, vT]
  have eb : ∀ b : Bool, binE Try.prog BinOp.eql 4 (AV.bool b) (AV.bool b) = some (AV.bool true) := by intro b; cases b <;> kernel_rfl
  rw [eb]
  simp (maxSteps := 2000000) (implicitDefEqProofs := false) (disch := first | omega | (simp only [SD.down, uA, uL] <;> omega) | fail) only [p5, p6, p7, TA.down, resE, oneV, ↓reduceIte, reduceCtorEq, uB, uE, uL, uA, uM, uS, uN, uX, uO, vR, vD, vL, vK, vE, vA, vM, vT]
  refine G.callC (works_ok d _) ?_
  rintro v h10 ⟨rfl, k10⟩
  simp (maxSteps := 2000000) (implicitDefEqProofs := false) (disch := first | omega | (simp only [SD.down, uA, uL] <;> omega) | fail) only [x5.k, x5.s, x5.o, x6.k, x6.s, x6.o, x7.k, x7.s, x7.o, x8.k, x8.s, x8.o, x9.k, x9.s, x9.o, q4, a5, a6, a7, a8, a9, b5, b6, b7, cutB_all, hs, ho, l1, l2, l3, l4, l5, same_B, TA.down, resE, oneV, ↓reduceIte, reduceCtorEq, uB, uE, uL, uA, uM, uS, uN, uX, uO, vR, vD, vL, vK, vE, vA, vM, vT]
  subst hX
  exact G.ok rfl
end Go.Proofs.Ythcbefolifpbpaa
