/- Of this program, for all inputs: contracts. No condition but those in the theorems. -/
import Derived.Test.YthcbefolifpbpaaA2
import Derived.Test.YthcbefolifpbpaaA7
import Derived.Test.YthcbefolifpbpaaAwM3
namespace Go.Proofs.Ythcbefolifpbpaa
open Go Go.Ai Go.Aw Go.Proofs
open Nat renaming reduceBEq → uB, reduceEqDiff → uE, reduceLT → uL, reduceAdd → uA, reduceMul → uM, reduceSub → uS, reduceAnd → uN, reduceXor → uX, reduceOr → uO
open Int renaming reduceMod → vR, reduceDiv → vD, reduceLT → vL, reduceLE → vK, reduceEq → vE, reduceAdd → vA, reduceMul → vM, reduceToNat → vT
set_option linter.unusedSimpArgs false
set_option linter.unusedVariables false
set_option maxRecDepth 10000
/-- the memory that was there is as it was -/
def Keeps (h h' : Heap) : Prop := h.next ≤ h'.next ∧ ∀ j, j < h.next → h'.get j = h.get j
theorem Keeps.refl (h : Heap) : Keeps h h := ⟨Nat.le_refl _, fun _ _ => rfl⟩
theorem Keeps.trans {a b c : Heap} (x : Keeps a b) (y : Keeps b c) : Keeps a c := ⟨Nat.le_trans x.1 y.1, fun j hj => (y.2 j (Nat.lt_of_lt_of_le hj x.1)).trans (x.2 j hj)⟩
theorem rep32 : List.replicate 32 (b8 0) = B [0, 0, 0, 0, 0, 0, 0, 0, 0, 0, 0, 0, 0, 0, 0, 0, 0, 0, 0, 0, 0, 0, 0, 0, 0, 0, 0, 0, 0, 0, 0, 0] := rfl
theorem rep16 : List.replicate 16 (b8 0) = B [0, 0, 0, 0, 0, 0, 0, 0, 0, 0, 0, 0, 0, 0, 0, 0] := rfl
def kS : List Nat := [0, 1, 2, 3, 4, 5, 6, 7, 8, 9, 10, 11, 12, 13, 14, 15, 16, 17, 18, 19, 20, 21, 22, 23, 24, 25, 26, 27, 28, 29, 30, 31]
def bS : List Nat := [0, 17, 34, 51, 68, 85, 102, 119, 136, 153, 170, 187, 204, 221, 238, 255]
set_option maxHeartbeats 4000000 in
theorem steps_ok (d : Nat) (h : Heap) : G (callD env (d + 1) 11 [] h) fun v h' => v = .tup [.agg (B kS), .agg (B bS)] ∧ Keeps h h' := by
  generalize hX : (fun (v : AV) (h' : Heap) => v = .tup [.agg (B kS), .agg (B bS)] ∧ Keeps h h') = Q
  rw [callD_run (E := env) [(11, .fl [(1, 0, 1)])] (by kernel_rfl) Try.func11 rfl (by rw [Try.ntmps11]; simp) (by kernel_rfl)]; simp (maxSteps := 2000000) (implicitDefEqProofs := false) (disch := first | omega | (simp only [SD.down, uA, uL] <;> omega) | fail) only [Try.ntmps11, Try.results11, env_P, env_L, rep32, rep16, over_B, cutB_all, List.length_set, same_B, TA.down, resE, oneV, ↓reduceIte, reduceCtorEq, uB, uE, uL, uA, uM, uS, uN, uX, uO, vR, vD, vL, vK, vE, vA, vM, vT, run_loop, run_it]
  subst hX
  refine G.ok ⟨rfl, ?_, fun j hj => ?_⟩
  · simp (maxSteps := 2000000) (implicitDefEqProofs := false) (disch := first | omega | (simp only [SD.down, uA, uL] <;> omega) | fail) only [TA.down, resE, oneV, ↓reduceIte, reduceCtorEq, uB, uE, uL, uA, uM, uS, uN, uX, uO, vR, vD, vL, vK, vE, vA, vM, vT]
    try omega
  · simp (maxSteps := 2000000) (implicitDefEqProofs := false) (disch := first | omega | (simp only [SD.down, uA, uL] <;> omega) | fail) only [TA.down, resE, oneV, ↓reduceIte, reduceCtorEq, uB, uE, uL, uA, uM, uS, uN, uX, uO, vR, vD, vL, vK, vE, vA, vM, vT]
def sealK (K b : List Nat) : List Nat := rnds S0 K b 14
def openK (K b : List Nat) : List Nat := openL Inv0 K b
theorem ciph_of {h : Heap} {k : Nat} {O K : List Nat} {o : Nat} (hO : O.length = 256) (hK : K.length = 240) (hk : h.get k = some (.cells (ciphC O K o) 0 false)) : Ciph h k S0 K (ciphC O K o) 0 false where
  at_ := hk
  box j hj := by rw [ciphC, List.getElem?_append_left (by rw [B_len, S0_len]; exact hj), B_get (by rw [S0_len]; exact hj)]
  keys j hj hj2 := by
    rw [ciphC, List.getElem?_append_right (by rw [B_len, S0_len]; omega), List.getElem?_append_right (by rw [B_len, B_len, S0_len, hO]; omega), List.getElem?_append_left (by rw [B_len, B_len, B_len, S0_len, hO]; omega), B_get (by rw [B_len, B_len, S0_len, hO]; omega), B_len, B_len, S0_len, hO]
    congr 3
  made := at_tail (o := o) (a := 0) S0_len hO hK 0 (by omega)
/-- a cipher of this key, ready to open or not yet -/
def Is (h : Heap) (k : Nat) (K : List Nat) : Prop := K.length = 240 ∧ k < h.next ∧ ∃ O o, O.length = 256 ∧ (o = 0 ∧ O = List.replicate 256 0 ∨ o = 1 ∧ O = Inv0) ∧ h.get k = some (.cells (ciphC O K o) 0 false)
theorem Is.keep {h h' : Heap} {k : Nat} {K : List Nat} (i : Is h k K) (hk : Keeps h h') : Is h' k K := by
  obtain ⟨h1, h2, O, o, h3, h4, h5⟩ := i
  exact ⟨h1, Nat.lt_of_lt_of_le h2 hk.1, O, o, h3, h4, (hk.2 k h2).trans h5⟩
/-- all but one block is as it was -/
def KeepsBut (k : Nat) (h h' : Heap) : Prop := h.next ≤ h'.next ∧ ∀ j, j < h.next → j ≠ k → h'.get j = h.get j
theorem new_is (d : Nat) (h : Heap) (kl : List Nat) (hkl : kl.length = 32) : G (callD env (d + 3) 12 [.agg (B kl)] h) fun v h' => ∃ c, v = .ptr c 0 ∧ h.next ≤ c ∧ Is h' c (keysL S0 kl) ∧ Keeps h h' := by
  refine (new_ok d h kl hkl).mono ?_
  rintro v h' ⟨rfl, hc, hn, hf⟩
  exact ⟨_, rfl, by omega, ⟨keysL_len _ _, by omega, _, 0, by simp, .inl ⟨rfl, rfl⟩, hc⟩, by omega, hf⟩
theorem seal_is (d : Nat) (h : Heap) (k : Nat) (K b : List Nat) (hb : b.length = 16) (i : Is h k K) : G (callD env (d + 3) 13 [.ptr k 0, .agg (B b)] h) fun v h' => v = .agg (B (sealK K b)) ∧ Keeps h h' := by
  obtain ⟨h1, h2, O, o, h3, h4, h5⟩ := i
  rw [B16 hb]
  exact seal_ok d h k h2 b hb S0 K _ 0 false (ciph_of h3 h1 h5)
theorem open_is (d : Nat) (h : Heap) (k : Nat) (K b : List Nat) (hb : b.length = 16) (i : Is h k K) : G (callD env (d + 4) 15 [.ptr k 0, .agg (B b)] h) fun v h' => v = .agg (B (openK K b)) ∧ Is h' k K ∧ KeepsBut k h h' := by
  obtain ⟨h1, h2, O, o, h3, h4, h5⟩ := i
  refine (open_ok d h k h2 b hb O K h3 h1 o h4 h5).mono ?_
  rintro v h' ⟨rfl, hc, hn, hf⟩
  exact ⟨rfl, ⟨h1, by omega, Inv0, 1, Inv0_len, .inr ⟨rfl, rfl⟩, hc⟩, hn, hf⟩
theorem sealK_len (K b : List Nat) : (sealK K b).length = 16 := rnds_len ..
theorem openK_len (K b : List Nat) : (openK K b).length = 16 := rfl
theorem eq24 (x y : List Nat) (hx : x.length = 16) (hy : y.length = 16) : eqlE Try.prog 24 (.agg (B x)) (.agg (B y)) = some (decide (M x = M y)) := eql_B Try.underlying24 rfl (by kernel_rfl) (by kernel_rfl) x y hx hy
theorem fips : M (sealK (keysL S0 kS) bS) = [0x8e, 0xa2, 0xb7, 0xca, 0x51, 0x67, 0x45, 0xbf, 0xea, 0xfc, 0x49, 0x90, 0x4b, 0x49, 0x60, 0x89] := by kernel_rfl
end Go.Proofs.Ythcbefolifpbpaa
