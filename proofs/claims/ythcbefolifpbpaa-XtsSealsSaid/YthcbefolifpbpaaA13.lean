/- Of this program, for all inputs: contracts. No condition but those in the theorems. -/
import Derived.Test.YthcbefolifpbpaaA12
namespace Go.Proofs.Ythcbefolifpbpaa
open Go Go.Ai Go.Aw Go.Proofs
open Nat renaming reduceBEq → uB, reduceEqDiff → uE, reduceLT → uL, reduceAdd → uA, reduceMul → uM, reduceSub → uS, reduceAnd → uN, reduceXor → uX, reduceOr → uO
open Int renaming reduceMod → vR, reduceDiv → vD, reduceLT → vL, reduceLE → vK, reduceEq → vE, reduceAdd → vA, reduceMul → vM, reduceToNat → vT
set_option linter.unusedSimpArgs false
set_option linter.unusedVariables false
set_option maxRecDepth 10000
def putL (s : List Nat) (o : Nat) (x : List Nat) : List Nat := s.take o ++ x ++ s.drop (o + 16)
def blkL (s : List Nat) (o : Nat) : List Nat := (s.drop o).take 16
def eL (f : List Nat → List Nat) : Nat → Nat → List Nat → List Nat → List Nat
  | 0, _, _, s => s
  | j + 1, q, t, s => eL f j (q + 1) (dblX t) (putL s (16 * q) (addX (f (addX (blkL s (16 * q)) t)) t))
theorem putL_len {s x : List Nat} {o : Nat} (h : o + 16 ≤ s.length) (hx : x.length = 16) : (putL s o x).length = s.length := by simp [putL, hx]; omega
theorem blkL_len {s : List Nat} {o : Nat} (h : o + 16 ≤ s.length) : (blkL s o).length = 16 := by simp [blkL]; omega
theorem over_put {s x : List Nat} {o : Nat} (h : o + 16 ≤ s.length) (hx : x.length = 16) : overE o (B x) (B s) = some (B (putL s o x)) := by
  rw [overE_n, B_len, hx, ovN_of (by rw [B_len]; exact h), allSc_B, scE_true]
  simp [putL, B, List.map_take, List.map_drop]
theorem cut_blk {s : List Nat} {o : Nat} (h : o + 16 ≤ s.length) : cutE o 16 (B s) = some (B (blkL s o)) := cutE_B h
theorem blk0 {x : List Nat} (h : x.length = 16) : blkL x 0 = x := by simp [blkL, List.take_of_length_le, h]
theorem put0 {s x : List Nat} (h : s.length = 16) (hx : x.length = 16) : putL s 0 x = x := by simp [putL, List.drop_eq_nil_of_le, h]
theorem Is.put {h : Heap} {k q : Nat} {K : List Nat} (i : Is h k K) (hq : k ≠ q) (b : Option Blk) : Is (h.put q b) k K := i.keepBut (q := q) ⟨Nat.le_refl _, fun j _ hj => get_put_ne hj⟩ hq
/-- a change of a block, by a call -/
def Chg (d F kd : Nat) (Kd : List Nat) (f : List Nat → List Nat) : Prop := ∀ (h : Heap) (b : List Nat), Is h kd Kd → b.length = 16 → G (callD env d F [.ptr kd 0, .agg (B b)] h) fun v h' => v = .agg (B (f b)) ∧ Is h' kd Kd ∧ KeepsBut kd h h'
theorem chg_seal (d kd : Nat) (Kd : List Nat) : Chg (d + 4) 13 kd Kd (sealK Kd) := fun h b i hb => (seal_is (d + 1) h kd Kd b hb i).mono fun v h' ⟨e, k⟩ => ⟨e, i.keep k, k.but kd⟩
theorem chg_open (d kd : Nat) (Kd : List Nat) : Chg (d + 4) 15 kd Kd (openK Kd) := fun h b i hb => open_is d h kd Kd b hb i
set_option maxHeartbeats 8000000 in
theorem each_ok (d : Nat) (h : Heap) (m kd kt : Nat) (Kd Kt : List Nat) (i : MIs h m kd kt Kd Kt) (n : Nat) (hn : n < 18446744073709551616) (s : List Nat) (hs : s.length = 64) (F : Nat) (f : List Nat → List Nat) (hf : ∀ b, (f b).length = 16) (hF : Chg (d + 4) F kd Kd f) :
    G (callD env (d + 5) 31 [.ptr m 0, .int .u64 n, .agg (B s), .func (.func F) [.ptr kd 0] []] h) fun v h' => v = .agg (B (eL f 4 0 (sealK Kt (numL n)) s)) ∧ Is h' kd Kd ∧ KeepsBut kd h h' := by
  generalize hX : (fun (v : AV) (h' : Heap) => v = .agg (B (eL f 4 0 (sealK Kt (numL n)) s)) ∧ Is h' kd Kd ∧ KeepsBut kd h h') = Q
  have hm := i.at_
  have hml := i.lt
  have hdl := i.d.2.1
  have hz := z16_len
  have hst := sealK_len Kt (numL n)
  rw [callD_run (E := env) [(7, .fl [(5, 0, 2)])] (by kernel_rfl) Try.func31 rfl (by rw [Try.ntmps31]; simp) (by kernel_rfl)]; simp (maxSteps := 2000000) (implicitDefEqProofs := false) (disch := first | omega | (simp only [SD.down, uA, uL] <;> omega) | fail) only [Try.ntmps31, Try.results31, env_P, env_L, TA.down, resE, oneV, ↓reduceIte, reduceCtorEq, uB, uE, uL, uA, uM, uS, uN, uX, uO, vR, vD, vL, vK, vE, vA, vM, vT]
  refine G.call (first_ok d _ m kd kt Kd Kt (i.keep ⟨by simp (maxSteps := 2000000) (implicitDefEqProofs := false) (disch := first | omega | (simp only [SD.down, uA, uL] <;> omega) | fail) only [TA.down, resE, oneV, ↓reduceIte, reduceCtorEq, uB, uE, uL, uA, uM, uS, uN, uX, uO, vR, vD, vL, vK, vE, vA, vM, vT]; omega, fun j hj => by simp (maxSteps := 2000000) (implicitDefEqProofs := false) (disch := first | omega | (simp only [SD.down, uA, uL] <;> omega) | fail) only [TA.down, resE, oneV, ↓reduceIte, reduceCtorEq, uB, uE, uL, uA, uM, uS, uN, uX, uO, vR, vD, vL, vK, vE, vA, vM, vT]⟩) n hn) ?_
  rintro v h1 ⟨rfl, k1⟩
  have hn1 := k1.1
  simp only [next_new] at hn1
  have g6 : h1.get h.next = some (.cells (B s) 0 false) := by rw [k1.2 _ (by simp (maxSteps := 2000000) (implicitDefEqProofs := false) (disch := first | omega | (simp only [SD.down, uA, uL] <;> omega) | fail) only [TA.down, resE, oneV, ↓reduceIte, reduceCtorEq, uB, uE, uL, uA, uM, uS, uN, uX, uO, vR, vD, vL, vK, vE, vA, vM, vT]; omega)]; simp (maxSteps := 2000000) (implicitDefEqProofs := false) (disch := first | omega | (simp only [SD.down, uA, uL] <;> omega) | fail) only [TA.down, resE, oneV, ↓reduceIte, reduceCtorEq, uB, uE, uL, uA, uM, uS, uN, uX, uO, vR, vD, vL, vK, vE, vA, vM, vT]
  have g8 : h1.get (h.next + 1) = some (.cells (List.replicate 64 (b8 0)) 0 false) := by rw [k1.2 _ (by simp (maxSteps := 2000000) (implicitDefEqProofs := false) (disch := first | omega | (simp only [SD.down, uA, uL] <;> omega) | fail) only [TA.down, resE, oneV, ↓reduceIte, reduceCtorEq, uB, uE, uL, uA, uM, uS, uN, uX, uO, vR, vD, vL, vK, vE, vA, vM, vT]; omega)]; simp (maxSteps := 2000000) (implicitDefEqProofs := false) (disch := first | omega | (simp only [SD.down, uA, uL] <;> omega) | fail) only [TA.down, resE, oneV, ↓reduceIte, reduceCtorEq, uB, uE, uL, uA, uM, uS, uN, uX, uO, vR, vD, vL, vK, vE, vA, vM, vT]
  have kk : KeepsBut kd h h1 := ⟨by omega, fun j hj _ => by rw [k1.2 j (by simp (maxSteps := 2000000) (implicitDefEqProofs := false) (disch := first | omega | (simp only [SD.down, uA, uL] <;> omega) | fail) only [TA.down, resE, oneV, ↓reduceIte, reduceCtorEq, uB, uE, uL, uA, uM, uS, uN, uX, uO, vR, vD, vL, vK, vE, vA, vM, vT]; omega)]; simp (maxSteps := 2000000) (implicitDefEqProofs := false) (disch := first | omega | (simp only [SD.down, uA, uL] <;> omega) | fail) only [TA.down, resE, oneV, ↓reduceIte, reduceCtorEq, uB, uE, uL, uA, uM, uS, uN, uX, uO, vR, vD, vL, vK, vE, vA, vM, vT]⟩
  have i1 : Is h1 kd Kd := i.d.keep ⟨by omega, fun j hj => by rw [k1.2 j (by simp (maxSteps := 2000000) (implicitDefEqProofs := false) (disch := first | omega | (simp only [SD.down, uA, uL] <;> omega) | fail) only [TA.down, resE, oneV, ↓reduceIte, reduceCtorEq, uB, uE, uL, uA, uM, uS, uN, uX, uO, vR, vD, vL, vK, vE, vA, vM, vT]; omega)]; simp (maxSteps := 2000000) (implicitDefEqProofs := false) (disch := first | omega | (simp only [SD.down, uA, uL] <;> omega) | fail) only [TA.down, resE, oneV, ↓reduceIte, reduceCtorEq, uB, uE, uL, uA, uM, uS, uN, uX, uO, vR, vD, vL, vK, vE, vA, vM, vT]⟩
  simp (maxSteps := 2000000) (implicitDefEqProofs := false) (disch := first | omega | (simp only [SD.down, uA, uL] <;> omega) | fail) only [Z16, over_B, cutB_all, hst, hz, TA.down, resE, oneV, ↓reduceIte, reduceCtorEq, uB, uE, uL, uA, uM, uS, uN, uX, uO, vR, vD, vL, vK, vE, vA, vM, vT]
  rw [run_loop]
  have hp : h.next + 2 ≤ h1.next := by omega
  refine loop_ind (fun j σ hh => ∃ q t' s', q + j = 4 ∧ σ 3 = .func (.func F) [.ptr kd 0] [] ∧ σ 6 = .ptr h.next 0 ∧ σ 8 = .ptr (h.next + 1) 0 ∧ σ 9 = .ptr h1.next 0 ∧ σ 10 = .int .i64 ((16 * q : Nat) : Int) ∧ hh.get h.next = some (.cells (B s') 0 false) ∧ hh.get h1.next = some (.cells (B t') 0 false) ∧ hh.get (h.next + 1) = some (.cells (List.replicate 64 (b8 0)) 0 false) ∧ s'.length = 64 ∧ t'.length = 16 ∧ eL f j q t' s' = eL f 4 0 (sealK Kt (numL n)) s ∧ Is hh kd Kd ∧ KeepsBut kd h hh ∧ h1.next < hh.next) ?_ ?_ 4 _ _ _ (by simp) ?_
  · rintro mm σ hh ⟨q, t', s', hq, h3, h6, h8, h9, h10, gs, gt, g8, hsl, htl, hE, iD, kB, hp1⟩
    obtain rfl : q = 4 := by omega
    simp (maxSteps := 2000000) (implicitDefEqProofs := false) (disch := first | omega | (simp only [SD.down, uA, uL] <;> omega) | fail) only [run_it, h3, h6, h8, h9, h10, gs, g8, cutB_all, B_rep, over_B, hsl, List.length_replicate, env_P, TA.down, resE, oneV, ↓reduceIte, reduceCtorEq, uB, uE, uL, uA, uM, uS, uN, uX, uO, vR, vD, vL, vK, vE, vA, vM, vT]
    subst hX
    have h9' : h.next + 1 ≠ kd := by omega
    refine G.ok ⟨by rw [← hE]; rfl, iD.keepBut (q := h.next + 1) ⟨Nat.le_refl _, fun j _ hj => get_put_ne hj⟩ (by omega), kB.1, fun j hj hjk => ?_⟩
    rw [get_put_ne (by omega)]
    exact kB.2 j hj hjk
  · rintro j mm σ hh ⟨q, t', s', hq, h3, h6, h8, h9, h10, gs, gt, g8, hsl, htl, hE, iD, kB, hp1⟩ ih
    have hbl : (blkL s' (16 * q)).length = 16 := blkL_len (by omega)
    simp (maxSteps := 2000000) (implicitDefEqProofs := false) (disch := first | omega | (simp only [SD.down, uA, uL] <;> omega) | fail) only [run_it, h3, h6, h8, h9, h10, gs, gt, Z16, over_B, cut_blk, blk0, hsl, htl, hz, hbl, env_P, TA.down, resE, oneV, ↓reduceIte, reduceCtorEq, uB, uE, uL, uA, uM, uS, uN, uX, uO, vR, vD, vL, vK, vE, vA, vM, vT]
    refine G.callC (added_ok (d + 3) _ (blkL s' (16 * q)) t' hbl htl) ?_
    rintro v u2 ⟨rfl, k2⟩
    have ha1 := addX_len (blkL s' (16 * q)) t'
    have hn2 := k2.1
    simp only [next_new, next_put] at hn2
    have up2 : ∀ j, j < hh.next → u2.get j = hh.get j := fun j hj => by rw [k2.2 j (by simp (maxSteps := 2000000) (implicitDefEqProofs := false) (disch := first | omega | (simp only [SD.down, uA, uL] <;> omega) | fail) only [TA.down, resE, oneV, ↓reduceIte, reduceCtorEq, uB, uE, uL, uA, uM, uS, uN, uX, uO, vR, vD, vL, vK, vE, vA, vM, vT]; omega)]; simp (maxSteps := 2000000) (implicitDefEqProofs := false) (disch := first | omega | (simp only [SD.down, uA, uL] <;> omega) | fail) only [TA.down, resE, oneV, ↓reduceIte, reduceCtorEq, uB, uE, uL, uA, uM, uS, uN, uX, uO, vR, vD, vL, vK, vE, vA, vM, vT]
    have b2 : u2.get hh.next = some (.cells (B (blkL s' (16 * q))) 0 false) := by rw [k2.2 _ (by simp (maxSteps := 2000000) (implicitDefEqProofs := false) (disch := first | omega | (simp only [SD.down, uA, uL] <;> omega) | fail) only [TA.down, resE, oneV, ↓reduceIte, reduceCtorEq, uB, uE, uL, uA, uM, uS, uN, uX, uO, vR, vD, vL, vK, vE, vA, vM, vT]; omega)]; simp (maxSteps := 2000000) (implicitDefEqProofs := false) (disch := first | omega | (simp only [SD.down, uA, uL] <;> omega) | fail) only [TA.down, resE, oneV, ↓reduceIte, reduceCtorEq, uB, uE, uL, uA, uM, uS, uN, uX, uO, vR, vD, vL, vK, vE, vA, vM, vT]
    have iD2 : Is u2 kd Kd := iD.keep ⟨by omega, up2⟩
    simp (maxSteps := 2000000) (implicitDefEqProofs := false) (disch := first | omega | (simp only [SD.down, uA, uL] <;> omega) | fail) only [blk0, ha1, h3, h6, h8, h9, h10, TA.down, resE, oneV, ↓reduceIte, reduceCtorEq, uB, uE, uL, uA, uM, uS, uN, uX, uO, vR, vD, vL, vK, vE, vA, vM, vT]
    refine G.callC (hF _ _ iD2 ha1) ?_
    rintro v u3 ⟨rfl, iD3, k3⟩
    have hn3 := k3.1
    have hfl := hf (addX (blkL s' (16 * q)) t')
    have hkd : kd < hh.next := Nat.lt_of_lt_of_le hdl kB.1
    have up3 : ∀ j, j < hh.next → j ≠ kd → u3.get j = hh.get j := fun j hj hjk => by rw [k3.2 j (by omega) hjk]; exact up2 j hj
    have b3 : u3.get hh.next = some (.cells (B (blkL s' (16 * q))) 0 false) := by rw [k3.2 _ (by omega) (by omega)]; exact b2
    have t3 : u3.get h1.next = some (.cells (B t') 0 false) := by rw [up3 _ hp1 (by omega)]; exact gt
    have t2 : u2.get h1.next = some (.cells (B t') 0 false) := by rw [up2 _ hp1]; exact gt
    simp (maxSteps := 2000000) (implicitDefEqProofs := false) (disch := first | omega | (simp only [SD.down, uA, uL] <;> omega) | fail) only [cut_blk, blk0, htl, t3, h3, h6, h8, h9, h10, TA.down, resE, oneV, ↓reduceIte, reduceCtorEq, uB, uE, uL, uA, uM, uS, uN, uX, uO, vR, vD, vL, vK, vE, vA, vM, vT]
    refine G.callC (added_ok (d + 3) _ _ t' hfl htl) ?_
    rintro v u4 ⟨rfl, k4⟩
    have ha2 := addX_len (f (addX (blkL s' (16 * q)) t')) t'
    have hn4 := k4.1
    have up4 : ∀ j, j < hh.next → j ≠ kd → u4.get j = hh.get j := fun j hj hjk => by rw [k4.2 j (by omega)]; exact up3 j hj hjk
    have b4 : u4.get hh.next = some (.cells (B (blkL s' (16 * q))) 0 false) := by rw [k4.2 _ (by omega)]; exact b3
    have s4 : u4.get h.next = some (.cells (B s') 0 false) := by rw [up4 _ (by omega) (by omega)]; exact gs
    have t4 : u4.get h1.next = some (.cells (B t') 0 false) := by rw [up4 _ hp1 (by omega)]; exact gt
    have z4 : u4.get (h.next + 1) = some (.cells (List.replicate 64 (b8 0)) 0 false) := by rw [up4 _ (by omega) (by omega)]; exact g8
    have iD4 := iD3.keep k4
    simp (maxSteps := 2000000) (implicitDefEqProofs := false) (disch := first | omega | (simp only [SD.down, uA, uL] <;> omega) | fail) only [cut_blk, blk0, over_B, htl, hbl, ha2, b4, s4, t4, t3, t2, gt, same_B, over_put, put0, cutB_all, hsl, h3, h6, h8, h9, h10, TA.down, resE, oneV, ↓reduceIte, reduceCtorEq, uB, uE, uL, uA, uM, uS, uN, uX, uO, vR, vD, vL, vK, vE, vA, vM, vT]
    refine G.call (xdouble_ok (d + 3) _ t' htl) ?_
    rintro v u5 ⟨rfl, k5⟩
    have hdl' := dblX_len t'
    have hn5 := k5.1
    simp only [next_new, next_put] at hn5
    have hnew : (addX (f (addX (blkL s' (16 * q)) t')) t').length = 16 := ha2
    have up5 : ∀ j, j < hh.next → j ≠ kd → j ≠ h.next → u5.get j = hh.get j := fun j hj hjk hjn => by rw [k5.2 j (by simp (maxSteps := 2000000) (implicitDefEqProofs := false) (disch := first | omega | (simp only [SD.down, uA, uL] <;> omega) | fail) only [TA.down, resE, oneV, ↓reduceIte, reduceCtorEq, uB, uE, uL, uA, uM, uS, uN, uX, uO, vR, vD, vL, vK, vE, vA, vM, vT]; omega), get_put_ne hjn, get_put_ne (by omega)]; exact up4 j hj hjk
    have s5 : u5.get h.next = some (.cells (B (putL s' (16 * q) (addX (f (addX (blkL s' (16 * q)) t')) t'))) 0 false) := by rw [k5.2 _ (by simp (maxSteps := 2000000) (implicitDefEqProofs := false) (disch := first | omega | (simp only [SD.down, uA, uL] <;> omega) | fail) only [TA.down, resE, oneV, ↓reduceIte, reduceCtorEq, uB, uE, uL, uA, uM, uS, uN, uX, uO, vR, vD, vL, vK, vE, vA, vM, vT]; omega)]; simp (maxSteps := 2000000) (implicitDefEqProofs := false) (disch := first | omega | (simp only [SD.down, uA, uL] <;> omega) | fail) only [TA.down, resE, oneV, ↓reduceIte, reduceCtorEq, uB, uE, uL, uA, uM, uS, uN, uX, uO, vR, vD, vL, vK, vE, vA, vM, vT]
    have t5 : u5.get h1.next = some (.cells (B t') 0 false) := by rw [up5 _ hp1 (by omega) (by omega)]; exact gt
    have z5 : u5.get (h.next + 1) = some (.cells (List.replicate 64 (b8 0)) 0 false) := by rw [up5 _ (by omega) (by omega) (by omega)]; exact g8
    simp (maxSteps := 2000000) (implicitDefEqProofs := false) (disch := first | omega | (simp only [SD.down, uA, uL] <;> omega) | fail) only [s5, t5, z5, same_B, over_B, htl, hdl', h3, h6, h8, h9, h10, TA.down, resE, oneV, ↓reduceIte, reduceCtorEq, uB, uE, uL, uA, uM, uS, uN, uX, uO, vR, vD, vL, vK, vE, vA, vM, vT]
    refine ih _ _ ⟨q + 1, dblX t', putL s' (16 * q) (addX (f (addX (blkL s' (16 * q)) t')) t'), by omega, ?_, ?_, ?_, ?_, ?_, ?_, ?_, ?_, ?_, hdl', hE, ?_, ?_, ?_⟩
    · simp (maxSteps := 2000000) (implicitDefEqProofs := false) (disch := first | omega | (simp only [SD.down, uA, uL] <;> omega) | fail) only [h3, TA.down, resE, oneV, ↓reduceIte, reduceCtorEq, uB, uE, uL, uA, uM, uS, uN, uX, uO, vR, vD, vL, vK, vE, vA, vM, vT]
    · simp (maxSteps := 2000000) (implicitDefEqProofs := false) (disch := first | omega | (simp only [SD.down, uA, uL] <;> omega) | fail) only [h6, TA.down, resE, oneV, ↓reduceIte, reduceCtorEq, uB, uE, uL, uA, uM, uS, uN, uX, uO, vR, vD, vL, vK, vE, vA, vM, vT]
    · simp (maxSteps := 2000000) (implicitDefEqProofs := false) (disch := first | omega | (simp only [SD.down, uA, uL] <;> omega) | fail) only [h8, TA.down, resE, oneV, ↓reduceIte, reduceCtorEq, uB, uE, uL, uA, uM, uS, uN, uX, uO, vR, vD, vL, vK, vE, vA, vM, vT]
    · simp (maxSteps := 2000000) (implicitDefEqProofs := false) (disch := first | omega | (simp only [SD.down, uA, uL] <;> omega) | fail) only [h9, TA.down, resE, oneV, ↓reduceIte, reduceCtorEq, uB, uE, uL, uA, uM, uS, uN, uX, uO, vR, vD, vL, vK, vE, vA, vM, vT]
    · simp (maxSteps := 2000000) (implicitDefEqProofs := false) (disch := first | omega | (simp only [SD.down, uA, uL] <;> omega) | fail) only [TA.down, resE, oneV, ↓reduceIte, reduceCtorEq, uB, uE, uL, uA, uM, uS, uN, uX, uO, vR, vD, vL, vK, vE, vA, vM, vT]
      rw [show 16 * (q + 1) = 16 * q + 16 by omega]
    · simp (maxSteps := 2000000) (implicitDefEqProofs := false) (disch := first | omega | (simp only [SD.down, uA, uL] <;> omega) | fail) only [s5, TA.down, resE, oneV, ↓reduceIte, reduceCtorEq, uB, uE, uL, uA, uM, uS, uN, uX, uO, vR, vD, vL, vK, vE, vA, vM, vT]
    · simp (maxSteps := 2000000) (implicitDefEqProofs := false) (disch := first | omega | (simp only [SD.down, uA, uL] <;> omega) | fail) only [TA.down, resE, oneV, ↓reduceIte, reduceCtorEq, uB, uE, uL, uA, uM, uS, uN, uX, uO, vR, vD, vL, vK, vE, vA, vM, vT]
    · simp (maxSteps := 2000000) (implicitDefEqProofs := false) (disch := first | omega | (simp only [SD.down, uA, uL] <;> omega) | fail) only [z5, TA.down, resE, oneV, ↓reduceIte, reduceCtorEq, uB, uE, uL, uA, uM, uS, uN, uX, uO, vR, vD, vL, vK, vE, vA, vM, vT]
    · rw [putL_len (by omega) hnew]; exact hsl
    · exact (((iD4.put (by omega) _).put (by omega) _).keep k5).put (by omega) _
    · refine ⟨by simp (maxSteps := 2000000) (implicitDefEqProofs := false) (disch := first | omega | (simp only [SD.down, uA, uL] <;> omega) | fail) only [TA.down, resE, oneV, ↓reduceIte, reduceCtorEq, uB, uE, uL, uA, uM, uS, uN, uX, uO, vR, vD, vL, vK, vE, vA, vM, vT]; omega, fun j hj hjk => ?_⟩
      rw [get_put_ne (by omega), up5 j (by omega) hjk (by omega)]
      exact kB.2 j hj hjk
    · simp (maxSteps := 2000000) (implicitDefEqProofs := false) (disch := first | omega | (simp only [SD.down, uA, uL] <;> omega) | fail) only [TA.down, resE, oneV, ↓reduceIte, reduceCtorEq, uB, uE, uL, uA, uM, uS, uN, uX, uO, vR, vD, vL, vK, vE, vA, vM, vT]
      omega
  · refine ⟨0, sealK Kt (numL n), s, by omega, ?_, ?_, ?_, ?_, ?_, ?_, ?_, ?_, hs, hst, rfl, ?_, ?_, ?_⟩
    · simp (maxSteps := 2000000) (implicitDefEqProofs := false) (disch := first | omega | (simp only [SD.down, uA, uL] <;> omega) | fail) only [TA.down, resE, oneV, ↓reduceIte, reduceCtorEq, uB, uE, uL, uA, uM, uS, uN, uX, uO, vR, vD, vL, vK, vE, vA, vM, vT]
    · simp (maxSteps := 2000000) (implicitDefEqProofs := false) (disch := first | omega | (simp only [SD.down, uA, uL] <;> omega) | fail) only [TA.down, resE, oneV, ↓reduceIte, reduceCtorEq, uB, uE, uL, uA, uM, uS, uN, uX, uO, vR, vD, vL, vK, vE, vA, vM, vT]
    · simp (maxSteps := 2000000) (implicitDefEqProofs := false) (disch := first | omega | (simp only [SD.down, uA, uL] <;> omega) | fail) only [TA.down, resE, oneV, ↓reduceIte, reduceCtorEq, uB, uE, uL, uA, uM, uS, uN, uX, uO, vR, vD, vL, vK, vE, vA, vM, vT]
    · simp (maxSteps := 2000000) (implicitDefEqProofs := false) (disch := first | omega | (simp only [SD.down, uA, uL] <;> omega) | fail) only [TA.down, resE, oneV, ↓reduceIte, reduceCtorEq, uB, uE, uL, uA, uM, uS, uN, uX, uO, vR, vD, vL, vK, vE, vA, vM, vT]
    · simp (maxSteps := 2000000) (implicitDefEqProofs := false) (disch := first | omega | (simp only [SD.down, uA, uL] <;> omega) | fail) only [TA.down, resE, oneV, ↓reduceIte, reduceCtorEq, uB, uE, uL, uA, uM, uS, uN, uX, uO, vR, vD, vL, vK, vE, vA, vM, vT]
    · simp (maxSteps := 2000000) (implicitDefEqProofs := false) (disch := first | omega | (simp only [SD.down, uA, uL] <;> omega) | fail) only [g6, TA.down, resE, oneV, ↓reduceIte, reduceCtorEq, uB, uE, uL, uA, uM, uS, uN, uX, uO, vR, vD, vL, vK, vE, vA, vM, vT]
    · simp (maxSteps := 2000000) (implicitDefEqProofs := false) (disch := first | omega | (simp only [SD.down, uA, uL] <;> omega) | fail) only [TA.down, resE, oneV, ↓reduceIte, reduceCtorEq, uB, uE, uL, uA, uM, uS, uN, uX, uO, vR, vD, vL, vK, vE, vA, vM, vT]
    · simp (maxSteps := 2000000) (implicitDefEqProofs := false) (disch := first | omega | (simp only [SD.down, uA, uL] <;> omega) | fail) only [g8, TA.down, resE, oneV, ↓reduceIte, reduceCtorEq, uB, uE, uL, uA, uM, uS, uN, uX, uO, vR, vD, vL, vK, vE, vA, vM, vT]
    · exact i1.keep ⟨by simp (maxSteps := 2000000) (implicitDefEqProofs := false) (disch := first | omega | (simp only [SD.down, uA, uL] <;> omega) | fail) only [TA.down, resE, oneV, ↓reduceIte, reduceCtorEq, uB, uE, uL, uA, uM, uS, uN, uX, uO, vR, vD, vL, vK, vE, vA, vM, vT]; omega, fun j hj => by simp (maxSteps := 2000000) (implicitDefEqProofs := false) (disch := first | omega | (simp only [SD.down, uA, uL] <;> omega) | fail) only [TA.down, resE, oneV, ↓reduceIte, reduceCtorEq, uB, uE, uL, uA, uM, uS, uN, uX, uO, vR, vD, vL, vK, vE, vA, vM, vT]⟩
    · exact ⟨by simp (maxSteps := 2000000) (implicitDefEqProofs := false) (disch := first | omega | (simp only [SD.down, uA, uL] <;> omega) | fail) only [TA.down, resE, oneV, ↓reduceIte, reduceCtorEq, uB, uE, uL, uA, uM, uS, uN, uX, uO, vR, vD, vL, vK, vE, vA, vM, vT]; omega, fun j hj hjk => by simp (maxSteps := 2000000) (implicitDefEqProofs := false) (disch := first | omega | (simp only [SD.down, uA, uL] <;> omega) | fail) only [TA.down, resE, oneV, ↓reduceIte, reduceCtorEq, uB, uE, uL, uA, uM, uS, uN, uX, uO, vR, vD, vL, vK, vE, vA, vM, vT]; exact kk.2 j hj hjk⟩
    · simp (maxSteps := 2000000) (implicitDefEqProofs := false) (disch := first | omega | (simp only [SD.down, uA, uL] <;> omega) | fail) only [TA.down, resE, oneV, ↓reduceIte, reduceCtorEq, uB, uE, uL, uA, uM, uS, uN, uX, uO, vR, vD, vL, vK, vE, vA, vM, vT]
      omega
end Go.Proofs.Ythcbefolifpbpaa
