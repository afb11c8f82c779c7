/- Of this program, for all inputs: contracts. No condition but those in the theorems. -/
import Derived.Test.YthcbefolifpbpaaA6
namespace Go.Proofs.Ythcbefolifpbpaa
open Go Go.Ai Go.Aw Go.Proofs
open Nat renaming reduceBEq → uB, reduceEqDiff → uE, reduceLT → uL, reduceAdd → uA, reduceMul → uM, reduceSub → uS, reduceAnd → uN, reduceXor → uX, reduceOr → uO
open Int renaming reduceMod → vR, reduceDiv → vD, reduceLT → vL, reduceLE → vK, reduceEq → vE, reduceAdd → vA, reduceMul → vM, reduceToNat → vT
set_option linter.unusedSimpArgs false
set_option linter.unusedVariables false
set_option maxRecDepth 10000
theorem do_eq (d : Nat) (h : Heap) (args : List AV) : callD env (d + 1) 29 args h = onceG (callD env d) args h := rfl
theorem do_done' (d : Nat) (h : Heap) (k F : Nat) (a c : List AV) (cs : List AV) (e : Nat) (w : Bool) (hk : h.get k = some (.cells cs e w)) (h1 : cs[753]? = some (.int .u32 1)) : callD env (d + 1) 29 [.ptr k 753, .func (.func F) a c] h = some (.tup [], h) := by
  rw [do_eq]
  simp only [onceG, getK_E, hk, th_some, lget_E, h1]
  rfl
theorem do_first' (d : Nat) (h h2 : Heap) (k F : Nat) (a c : List AV) (cs : List AV) (e : Nat) (v : AV) (hk : h.get k = some (.cells cs e false)) (h1 : cs[753]? = some (.int .u32 0)) (h3 : cs[754]? = some (.int .i32 0))
    (hF : callD env d F (a ++ c) (h.put k (some (.cells (cs.set 754 (.int .i32 1)) e false))) = some (v, h2)) (cs2 : List AV) (hk2 : h2.get k = some (.cells cs2 e false)) (g1 : cs2[753]? = some (.int .u32 0)) (g2 : cs2[754]? = some (.int .i32 1)) :
    callD env (d + 1) 29 [.ptr k 753, .func (.func F) a c] h = some (.tup [], h2.put k (some (.cells ((cs2.set 753 (.int .u32 1)).set 754 (.int .i32 0)) e false))) := by
  have hl : 754 < cs.length := (List.getElem?_eq_some_iff.1 h3).1
  have hl2 : 754 < cs2.length := (List.getElem?_eq_some_iff.1 g2).1
  have i0 : ieq 0 0 = true := rfl
  have i1 : ieq 1 1 = true := rfl
  rw [do_eq]
  simp (disch := first | omega | (simp only [List.length_set] <;> omega) | fail) only [onceG, getK_E, hk, th_some, lget_E, h1, h3, i0, storeCK_E, storeCE, overE_one, isSc_int, scE_true, hF, hk2, g1, g2, i1, get_put_same, put_put, Nat.reduceAdd]
theorem set_far {X Y : List AV} {i : Nat} {v : AV} (h1 : X.length ≤ i) : (X ++ Y).set i v = X ++ Y.set (i - X.length) v := List.set_append_right _ _ h1
def tailB (o a : Nat) : List AV := [.bool true, .int .u32 o, .int .i32 a, .int .u32 0]
theorem at_tail {S O K : List Nat} {o a : Nat} (hS : S.length = 256) (hO : O.length = 256) (hK : K.length = 240) (q : Nat) (hq : q < 4) : (B S ++ (B O ++ (B K ++ tailB o a)))[752 + q]? = (tailB o a)[q]? := by
  rw [List.getElem?_append_right (by rw [B_len]; omega), B_len, List.getElem?_append_right (by rw [B_len]; omega), B_len, List.getElem?_append_right (by rw [B_len]; omega), B_len, hS, hO, hK]
  congr 1
  omega
theorem set_tail {S O K : List Nat} {o a : Nat} (hS : S.length = 256) (hO : O.length = 256) (hK : K.length = 240) (q : Nat) (v : AV) : (B S ++ (B O ++ (B K ++ tailB o a))).set (752 + q) v = B S ++ (B O ++ (B K ++ (tailB o a).set q v)) := by
  rw [set_far (by rw [B_len]; omega), set_far (by simp only [B_len]; omega), set_far (by simp only [B_len]; omega)]
  simp only [B_len, hS, hO, hK]
  congr 4
  omega
def Inv0 : List Nat := invN S0 256 0 (List.replicate 256 0)
theorem Inv0_len : Inv0.length = 256 := by simp [Inv0, invN_len]
theorem do_ok (d : Nat) (h : Heap) (k p : Nat) (hpk : p ≠ k) (hp : h.get p = some (.cells [.ptr k 0] 0 false)) (O K : List Nat) (hO : O.length = 256) (hK : K.length = 240) (o : Nat) (ho : o = 0 ∧ O = List.replicate 256 0 ∨ o = 1 ∧ O = Inv0) (hk : h.get k = some (.cells (ciphC O K o) 0 false)) :
    ∃ h', callD env (d + 2) 29 [.ptr k 753, .func (.func 30) [] [.ptr p 0]] h = some (.tup [], h') ∧ h'.get k = some (.cells (ciphC Inv0 K 1) 0 false) ∧ h'.next = h.next ∧ ∀ j, j ≠ k → h'.get j = h.get j := by
  rcases ho with ⟨rfl, rfl⟩ | ⟨rfl, rfl⟩
  · have hc : ciphC (List.replicate 256 0) K 0 = B S0 ++ (B (List.replicate 256 0) ++ (B K ++ tailB 0 0)) := rfl
    have g1 := at_tail (o := 0) (a := 0) S0_len hO hK 1 (by omega)
    have g2 := at_tail (o := 0) (a := 0) S0_len hO hK 2 (by omega)
    have s1 := set_tail (o := 0) (a := 0) S0_len hO hK 2 (.int .i32 1)
    rw [hc] at hk
    have hF := open1_ok d (h.put k (some (.cells (B S0 ++ (B (List.replicate 256 0) ++ (B K ++ tailB 0 1))) 0 false))) p k hpk 0 false (by rw [get_put_ne hpk]; exact hp) S0 (List.replicate 256 0) S0_len hO (B K ++ tailB 0 1) (by rw [get_put_same])
    have e1 := at_tail (o := 0) (a := 1) S0_len Inv0_len hK 1 (by omega)
    have e2 := at_tail (o := 0) (a := 1) S0_len Inv0_len hK 2 (by omega)
    have s2 := set_tail (o := 0) (a := 1) S0_len Inv0_len hK 1 (.int .u32 1)
    have s3 := set_tail (o := 1) (a := 1) S0_len Inv0_len hK 2 (.int .i32 0)
    rw [put_put] at hF
    have := do_first' (d + 1) h _ k 30 [] [.ptr p 0] _ 0 (.tup []) hk g1 g2 (by rw [s1]; exact hF) (B S0 ++ (B Inv0 ++ (B K ++ tailB 0 1))) (by rw [get_put_same]; rfl) e1 e2
    refine ⟨_, this, ?_, rfl, fun j hj => ?_⟩
    · rw [get_put_same, s2]
      exact congrArg (fun l => some (Blk.cells l 0 false)) s3
    · rw [get_put_ne hj, get_put_ne hj]
  · have e1 := at_tail (o := 1) (a := 0) S0_len Inv0_len hK 1 (by omega)
    exact ⟨h, do_done' (d + 1) h k 30 [] [.ptr p 0] _ 0 false hk e1, hk, rfl, fun _ _ => rfl⟩
def isubL (O : List Nat) (x : List Nat) : List Nat := [sub O (x.getD 0 0), sub O (x.getD 13 0), sub O (x.getD 10 0), sub O (x.getD 7 0), sub O (x.getD 4 0), sub O (x.getD 1 0), sub O (x.getD 14 0), sub O (x.getD 11 0), sub O (x.getD 8 0), sub O (x.getD 5 0), sub O (x.getD 2 0), sub O (x.getD 15 0), sub O (x.getD 12 0), sub O (x.getD 9 0), sub O (x.getD 6 0), sub O (x.getD 3 0)]
def ornds (O K : List Nat) (b : List Nat) : Nat → List Nat
  | 0 => b
  | j + 1 => isubL O (cond (decide (14 - j < 14)) (mixL (mixL (mixL (addL K (14 - j) (ornds O K b j))))) (addL K (14 - j) (ornds O K b j)))
theorem ornds_len (O K b : List Nat) (hb : b.length = 16) : ∀ r, (ornds O K b r).length = 16
  | 0 => hb
  | _ + 1 => rfl
def openL (O K b : List Nat) : List Nat := addL K 0 (ornds O K b 14)
set_option maxHeartbeats 16000000 in
theorem open_ok (d : Nat) (h : Heap) (k : Nat) (hkn : k < h.next) (b : List Nat) (hb : b.length = 16) (O K : List Nat) (hO : O.length = 256) (hK : K.length = 240) (o : Nat) (ho : o = 0 ∧ O = List.replicate 256 0 ∨ o = 1 ∧ O = Inv0) (hk : h.get k = some (.cells (ciphC O K o) 0 false)) :
    G (callD env (d + 4) 15 [.ptr k 0, .agg (B b)] h) fun v h' => v = .agg (B (openL Inv0 K b)) ∧ h'.get k = some (.cells (ciphC Inv0 K 1) 0 false) ∧ h.next ≤ h'.next ∧ ∀ j, j < h.next → j ≠ k → h'.get j = h.get j := by
  generalize hX : (fun (v : AV) (h' : Heap) => v = .agg (B (openL Inv0 K b)) ∧ h'.get k = some (.cells (ciphC Inv0 K 1) 0 false) ∧ h.next ≤ h'.next ∧ ∀ j, j < h.next → j ≠ k → h'.get j = h.get j) = Q
  have hmade : (ciphC O K o)[752]? = some (.bool true) := at_tail (o := o) (a := 0) S0_len hO hK 0 (by omega)
  rw [callD_run (E := env) [] (by kernel_rfl) Try.func15 rfl (by rw [Try.ntmps15]; simp) (by kernel_rfl)]; simp (maxSteps := 2000000) (implicitDefEqProofs := false) (disch := first | omega | (simp only [SD.down, uA, uL] <;> omega) | fail) only [Try.ntmps15, Try.results15, env_P, env_L, hk, hmade, in26, Try.f26, TA.down, resE, oneV, ↓reduceIte, reduceCtorEq, uB, uE, uL, uA, uM, uS, uN, uX, uO, vR, vD, vL, vK, vE, vA, vM, vT]
  obtain ⟨hd, e1, hkd, hnd, hfd⟩ := do_ok (d + 1) (((h.new (Blk.cells [AV.ptr k 0] 0 false)).new (Blk.cells (B b) 0 false)).new (Blk.cells (List.replicate 16 (b8 0)) 0 false)) k h.next (by omega) (by simp (maxSteps := 2000000) (implicitDefEqProofs := false) (disch := first | omega | (simp only [SD.down, uA, uL] <;> omega) | fail) only [TA.down, resE, oneV, ↓reduceIte, reduceCtorEq, uB, uE, uL, uA, uM, uS, uN, uX, uO, vR, vD, vL, vK, vE, vA, vM, vT]) O K hO hK o ho (by simp (maxSteps := 2000000) (implicitDefEqProofs := false) (disch := first | omega | (simp only [SD.down, uA, uL] <;> omega) | fail) only [hk, TA.down, resE, oneV, ↓reduceIte, reduceCtorEq, uB, uE, uL, uA, uM, uS, uN, uX, uO, vR, vD, vL, vK, vE, vA, vM, vT])
  rw [e1]
  have hnd : hd.next = h.next + 1 + 1 + 1 := hnd
  have hb3 : hd.get (h.next + 1) = some (.cells (B b) 0 false) := by rw [hfd _ (by omega)]; simp (maxSteps := 2000000) (implicitDefEqProofs := false) (disch := first | omega | (simp only [SD.down, uA, uL] <;> omega) | fail) only [TA.down, resE, oneV, ↓reduceIte, reduceCtorEq, uB, uE, uL, uA, uM, uS, uN, uX, uO, vR, vD, vL, vK, vE, vA, vM, vT]
  have hb4 : hd.get (h.next + 1 + 1) = some (.cells (List.replicate 16 (b8 0)) 0 false) := by rw [hfd _ (by omega)]; simp (maxSteps := 2000000) (implicitDefEqProofs := false) (disch := first | omega | (simp only [SD.down, uA, uL] <;> omega) | fail) only [TA.down, resE, oneV, ↓reduceIte, reduceCtorEq, uB, uE, uL, uA, uM, uS, uN, uX, uO, vR, vD, vL, vK, vE, vA, vM, vT]
  have hb2 : hd.get h.next = some (.cells [.ptr k 0] 0 false) := by rw [hfd _ (by omega)]; simp (maxSteps := 2000000) (implicitDefEqProofs := false) (disch := first | omega | (simp only [SD.down, uA, uL] <;> omega) | fail) only [TA.down, resE, oneV, ↓reduceIte, reduceCtorEq, uB, uE, uL, uA, uM, uS, uN, uX, uO, vR, vD, vL, vK, vE, vA, vM, vT]
  have hfr : ∀ j, j < h.next → j ≠ k → hd.get j = h.get j := fun j hj hjk => by rw [hfd j hjk]; simp (maxSteps := 2000000) (implicitDefEqProofs := false) (disch := first | omega | (simp only [SD.down, uA, uL] <;> omega) | fail) only [TA.down, resE, oneV, ↓reduceIte, reduceCtorEq, uB, uE, uL, uA, uM, uS, uN, uX, uO, vR, vD, vL, vK, vE, vA, vM, vT]
  clear e1 hfd
  rw [B16 hb] at hb3
  simp only [lit16] at hb3
  simp (maxSteps := 2000000) (implicitDefEqProofs := false) (disch := first | omega | (simp only [SD.down, uA, uL] <;> omega) | fail) only [hb3, hb4, TA.down, resE, oneV, ↓reduceIte, reduceCtorEq, uB, uE, uL, uA, uM, uS, uN, uX, uO, vR, vD, vL, vK, vE, vA, vM, vT]
  rw [run_loop]
  have hbox : ∀ j, j < 256 → (ciphC Inv0 K 1)[j]? = some (b8 (S0.getD j 0)) := fun j hj => by
    rw [ciphC, List.getElem?_append_left (by rw [B_len, S0_len]; exact hj), B_get (by rw [S0_len]; exact hj)]
  have hoth : ∀ j, 256 ≤ j → j < 512 → (ciphC Inv0 K 1)[j]? = some (b8 (Inv0.getD (j - 256) 0)) := fun j hj hj2 => by
    rw [ciphC, List.getElem?_append_right (by rw [B_len, S0_len]; exact hj), List.getElem?_append_left (by rw [B_len, B_len, S0_len, Inv0_len]; omega), B_get (by rw [B_len, S0_len, Inv0_len]; omega), B_len, S0_len]
  have hkey : ∀ j, 512 ≤ j → j < 752 → (ciphC Inv0 K 1)[j]? = some (b8 (K.getD (j - 512) 0)) := fun j hj hj2 => by
    rw [ciphC, List.getElem?_append_right (by rw [B_len, S0_len]; omega), List.getElem?_append_right (by rw [B_len, B_len, S0_len, Inv0_len]; omega), List.getElem?_append_left (by rw [B_len, B_len, B_len, S0_len, Inv0_len]; omega), B_get (by rw [B_len, B_len, S0_len, Inv0_len]; omega), B_len, B_len, S0_len, Inv0_len]
    congr 3
  refine loop_ind (fun j σ hh => ∃ q, q + j = 14 ∧ σ 2 = .ptr h.next 0 ∧ σ 4 = .ptr (h.next + 1 + 1) 0 ∧ σ 5 = .int .i64 ((14 - q : Nat) : Int) ∧ hh.get (h.next + 1 + 1) = some (.cells (B (ornds Inv0 K b q)) 0 false) ∧ hh.get k = some (.cells (ciphC Inv0 K 1) 0 false) ∧ hh.get h.next = some (.cells [.ptr k 0] 0 false) ∧ h.next + 3 ≤ hh.next ∧ ∀ j, j < h.next → j ≠ k → hh.get j = h.get j) ?_ ?_ 14 _ _ _ (by simp) ?_
  · rintro m σ hh ⟨q, hq, h2, h4, h5, hs, hk2, hb2, hnx, hf⟩
    obtain rfl : q = 14 := by omega
    have hx := ornds_len Inv0 K b hb 14
    generalize hy : ornds Inv0 K b 14 = x at hs hx
    rw [B16 hx] at hs
    simp only [lit16] at hs
    simp only [Nat.reduceSub] at h5
    simp (maxSteps := 2000000) (implicitDefEqProofs := false) (disch := first | omega | (simp only [SD.down, uA, uL] <;> omega) | fail) only [run_it, run_loop, h2, h4, h5, hs, hk2, hb2, hkey, env_P, env_L, in27, Try.f27, TA.down, resE, oneV, ↓reduceIte, reduceCtorEq, uB, uE, uL, uA, uM, uS, uN, uX, uO, vR, vD, vL, vK, vE, vA, vM, vT]
    subst hX
    refine G.ok ⟨?_, ?_, ?_, fun j hj hjk => ?_⟩
    · simp only [openL, hy, addL, B, List.map_cons, List.map_nil, Nat.add_assoc, Nat.add_sub_cancel_left, Nat.add_zero]
    · simp (maxSteps := 2000000) (implicitDefEqProofs := false) (disch := first | omega | (simp only [SD.down, uA, uL] <;> omega) | fail) only [hk2, TA.down, resE, oneV, ↓reduceIte, reduceCtorEq, uB, uE, uL, uA, uM, uS, uN, uX, uO, vR, vD, vL, vK, vE, vA, vM, vT]
    · simp (maxSteps := 2000000) (implicitDefEqProofs := false) (disch := first | omega | (simp only [SD.down, uA, uL] <;> omega) | fail) only [TA.down, resE, oneV, ↓reduceIte, reduceCtorEq, uB, uE, uL, uA, uM, uS, uN, uX, uO, vR, vD, vL, vK, vE, vA, vM, vT]
      try omega
    · simp (maxSteps := 2000000) (implicitDefEqProofs := false) (disch := first | omega | (simp only [SD.down, uA, uL] <;> omega) | fail) only [hf j hj hjk, TA.down, resE, oneV, ↓reduceIte, reduceCtorEq, uB, uE, uL, uA, uM, uS, uN, uX, uO, vR, vD, vL, vK, vE, vA, vM, vT]
  · rintro j m σ hh ⟨q, hq, h2, h4, h5, hs, hk2, hb2, hnx, hf⟩ ih
    have hx := ornds_len Inv0 K b hb q
    generalize hy : ornds Inv0 K b q = x at hs hx
    rw [B16 hx] at hs
    simp only [lit16] at hs
    by_cases h13 : 14 - q < 14
    · simp (maxSteps := 2000000) (implicitDefEqProofs := false) (disch := first | omega | (simp only [SD.down, uA, uL] <;> omega) | fail) only [run_it, run_loop, h2, h4, h5, hs, hk2, hb2, hbox, hkey, hoth, env_P, env_L, double_ok, in27, in28, Try.f27, Try.f28, List.replicate_succ, List.replicate_zero, TA.down, resE, oneV, ↓reduceIte, reduceCtorEq, uB, uE, uL, uA, uM, uS, uN, uX, uO, vR, vD, vL, vK, vE, vA, vM, vT]
      refine ih _ _ ⟨q + 1, by omega, ?_, ?_, ?_, ?_, ?_, ?_, ?_, fun j hj hjk => ?_⟩
      · simp (maxSteps := 2000000) (implicitDefEqProofs := false) (disch := first | omega | (simp only [SD.down, uA, uL] <;> omega) | fail) only [h2, TA.down, resE, oneV, ↓reduceIte, reduceCtorEq, uB, uE, uL, uA, uM, uS, uN, uX, uO, vR, vD, vL, vK, vE, vA, vM, vT]
      · simp (maxSteps := 2000000) (implicitDefEqProofs := false) (disch := first | omega | (simp only [SD.down, uA, uL] <;> omega) | fail) only [h4, TA.down, resE, oneV, ↓reduceIte, reduceCtorEq, uB, uE, uL, uA, uM, uS, uN, uX, uO, vR, vD, vL, vK, vE, vA, vM, vT]
      · simp (maxSteps := 2000000) (implicitDefEqProofs := false) (disch := first | omega | (simp only [SD.down, uA, uL] <;> omega) | fail) only [TA.down, resE, oneV, ↓reduceIte, reduceCtorEq, uB, uE, uL, uA, uM, uS, uN, uX, uO, vR, vD, vL, vK, vE, vA, vM, vT]
        try simp only [AV.int.injEq, true_and]
        try omega
      · simp (maxSteps := 2000000) (implicitDefEqProofs := false) (disch := first | omega | (simp only [SD.down, uA, uL] <;> omega) | fail) only [TA.down, resE, oneV, ↓reduceIte, reduceCtorEq, uB, uE, uL, uA, uM, uS, uN, uX, uO, vR, vD, vL, vK, vE, vA, vM, vT]
        simp only [ornds, hy, decide_eq_true h13, cond_true, addL, mixL, isubL, B, List.map_cons, List.map_nil, List.getD_cons_zero, List.getD_cons_succ, mix0, mix1, mix2, mix3, sub, Nat.add_assoc, Nat.add_sub_cancel_left, Nat.add_zero]
      · simp (maxSteps := 2000000) (implicitDefEqProofs := false) (disch := first | omega | (simp only [SD.down, uA, uL] <;> omega) | fail) only [hk2, TA.down, resE, oneV, ↓reduceIte, reduceCtorEq, uB, uE, uL, uA, uM, uS, uN, uX, uO, vR, vD, vL, vK, vE, vA, vM, vT]
      · simp (maxSteps := 2000000) (implicitDefEqProofs := false) (disch := first | omega | (simp only [SD.down, uA, uL] <;> omega) | fail) only [hb2, TA.down, resE, oneV, ↓reduceIte, reduceCtorEq, uB, uE, uL, uA, uM, uS, uN, uX, uO, vR, vD, vL, vK, vE, vA, vM, vT]
      · simp (maxSteps := 2000000) (implicitDefEqProofs := false) (disch := first | omega | (simp only [SD.down, uA, uL] <;> omega) | fail) only [TA.down, resE, oneV, ↓reduceIte, reduceCtorEq, uB, uE, uL, uA, uM, uS, uN, uX, uO, vR, vD, vL, vK, vE, vA, vM, vT]
        try omega
      · simp (maxSteps := 2000000) (implicitDefEqProofs := false) (disch := first | omega | (simp only [SD.down, uA, uL] <;> omega) | fail) only [hf j hj hjk, TA.down, resE, oneV, ↓reduceIte, reduceCtorEq, uB, uE, uL, uA, uM, uS, uN, uX, uO, vR, vD, vL, vK, vE, vA, vM, vT]
    · simp (maxSteps := 2000000) (implicitDefEqProofs := false) (disch := first | omega | (simp only [SD.down, uA, uL] <;> omega) | fail) only [run_it, run_loop, h2, h4, h5, hs, hk2, hb2, hbox, hkey, hoth, env_P, env_L, double_ok, in27, in28, Try.f27, Try.f28, List.replicate_succ, List.replicate_zero, TA.down, resE, oneV, ↓reduceIte, reduceCtorEq, uB, uE, uL, uA, uM, uS, uN, uX, uO, vR, vD, vL, vK, vE, vA, vM, vT]
      refine ih _ _ ⟨q + 1, by omega, ?_, ?_, ?_, ?_, ?_, ?_, ?_, fun j hj hjk => ?_⟩
      · simp (maxSteps := 2000000) (implicitDefEqProofs := false) (disch := first | omega | (simp only [SD.down, uA, uL] <;> omega) | fail) only [h2, TA.down, resE, oneV, ↓reduceIte, reduceCtorEq, uB, uE, uL, uA, uM, uS, uN, uX, uO, vR, vD, vL, vK, vE, vA, vM, vT]
      · simp (maxSteps := 2000000) (implicitDefEqProofs := false) (disch := first | omega | (simp only [SD.down, uA, uL] <;> omega) | fail) only [h4, TA.down, resE, oneV, ↓reduceIte, reduceCtorEq, uB, uE, uL, uA, uM, uS, uN, uX, uO, vR, vD, vL, vK, vE, vA, vM, vT]
      · simp (maxSteps := 2000000) (implicitDefEqProofs := false) (disch := first | omega | (simp only [SD.down, uA, uL] <;> omega) | fail) only [TA.down, resE, oneV, ↓reduceIte, reduceCtorEq, uB, uE, uL, uA, uM, uS, uN, uX, uO, vR, vD, vL, vK, vE, vA, vM, vT]
        try simp only [AV.int.injEq, true_and]
        try omega
      · simp (maxSteps := 2000000) (implicitDefEqProofs := false) (disch := first | omega | (simp only [SD.down, uA, uL] <;> omega) | fail) only [TA.down, resE, oneV, ↓reduceIte, reduceCtorEq, uB, uE, uL, uA, uM, uS, uN, uX, uO, vR, vD, vL, vK, vE, vA, vM, vT]
        simp only [ornds, hy, decide_eq_false h13, cond_false, addL, mixL, isubL, B, List.map_cons, List.map_nil, List.getD_cons_zero, List.getD_cons_succ, mix0, mix1, mix2, mix3, sub, Nat.add_assoc, Nat.add_sub_cancel_left, Nat.add_zero]
      · simp (maxSteps := 2000000) (implicitDefEqProofs := false) (disch := first | omega | (simp only [SD.down, uA, uL] <;> omega) | fail) only [hk2, TA.down, resE, oneV, ↓reduceIte, reduceCtorEq, uB, uE, uL, uA, uM, uS, uN, uX, uO, vR, vD, vL, vK, vE, vA, vM, vT]
      · simp (maxSteps := 2000000) (implicitDefEqProofs := false) (disch := first | omega | (simp only [SD.down, uA, uL] <;> omega) | fail) only [hb2, TA.down, resE, oneV, ↓reduceIte, reduceCtorEq, uB, uE, uL, uA, uM, uS, uN, uX, uO, vR, vD, vL, vK, vE, vA, vM, vT]
      · simp (maxSteps := 2000000) (implicitDefEqProofs := false) (disch := first | omega | (simp only [SD.down, uA, uL] <;> omega) | fail) only [TA.down, resE, oneV, ↓reduceIte, reduceCtorEq, uB, uE, uL, uA, uM, uS, uN, uX, uO, vR, vD, vL, vK, vE, vA, vM, vT]
        try omega
      · simp (maxSteps := 2000000) (implicitDefEqProofs := false) (disch := first | omega | (simp only [SD.down, uA, uL] <;> omega) | fail) only [hf j hj hjk, TA.down, resE, oneV, ↓reduceIte, reduceCtorEq, uB, uE, uL, uA, uM, uS, uN, uX, uO, vR, vD, vL, vK, vE, vA, vM, vT]
  · refine ⟨0, by omega, ?_, ?_, ?_, ?_, ?_, ?_, ?_, fun j hj hjk => ?_⟩
    · simp (maxSteps := 2000000) (implicitDefEqProofs := false) (disch := first | omega | (simp only [SD.down, uA, uL] <;> omega) | fail) only [TA.down, resE, oneV, ↓reduceIte, reduceCtorEq, uB, uE, uL, uA, uM, uS, uN, uX, uO, vR, vD, vL, vK, vE, vA, vM, vT]
    · simp (maxSteps := 2000000) (implicitDefEqProofs := false) (disch := first | omega | (simp only [SD.down, uA, uL] <;> omega) | fail) only [TA.down, resE, oneV, ↓reduceIte, reduceCtorEq, uB, uE, uL, uA, uM, uS, uN, uX, uO, vR, vD, vL, vK, vE, vA, vM, vT]
    · simp (maxSteps := 2000000) (implicitDefEqProofs := false) (disch := first | omega | (simp only [SD.down, uA, uL] <;> omega) | fail) only [TA.down, resE, oneV, ↓reduceIte, reduceCtorEq, uB, uE, uL, uA, uM, uS, uN, uX, uO, vR, vD, vL, vK, vE, vA, vM, vT]
    · simp (maxSteps := 2000000) (implicitDefEqProofs := false) (disch := first | omega | (simp only [SD.down, uA, uL] <;> omega) | fail) only [TA.down, resE, oneV, ↓reduceIte, reduceCtorEq, uB, uE, uL, uA, uM, uS, uN, uX, uO, vR, vD, vL, vK, vE, vA, vM, vT]
      rw [ornds, B16 hb]
      rfl
    · simp (maxSteps := 2000000) (implicitDefEqProofs := false) (disch := first | omega | (simp only [SD.down, uA, uL] <;> omega) | fail) only [hkd, TA.down, resE, oneV, ↓reduceIte, reduceCtorEq, uB, uE, uL, uA, uM, uS, uN, uX, uO, vR, vD, vL, vK, vE, vA, vM, vT]
    · simp (maxSteps := 2000000) (implicitDefEqProofs := false) (disch := first | omega | (simp only [SD.down, uA, uL] <;> omega) | fail) only [hb2, TA.down, resE, oneV, ↓reduceIte, reduceCtorEq, uB, uE, uL, uA, uM, uS, uN, uX, uO, vR, vD, vL, vK, vE, vA, vM, vT]
    · simp (maxSteps := 2000000) (implicitDefEqProofs := false) (disch := first | omega | (simp only [SD.down, uA, uL] <;> omega) | fail) only [TA.down, resE, oneV, ↓reduceIte, reduceCtorEq, uB, uE, uL, uA, uM, uS, uN, uX, uO, vR, vD, vL, vK, vE, vA, vM, vT]
      try omega
    · simp (maxSteps := 2000000) (implicitDefEqProofs := false) (disch := first | omega | (simp only [SD.down, uA, uL] <;> omega) | fail) only [hfr j hj hjk, TA.down, resE, oneV, ↓reduceIte, reduceCtorEq, uB, uE, uL, uA, uM, uS, uN, uX, uO, vR, vD, vL, vK, vE, vA, vM, vT]
end Go.Proofs.Ythcbefolifpbpaa
