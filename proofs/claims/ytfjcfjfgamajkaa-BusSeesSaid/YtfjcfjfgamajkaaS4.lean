/- Of this program, for all inputs: contracts. No condition but those in the theorems. -/
import Derived.Test.YtfjcfjfgamajkaaS3
namespace Go.Proofs.Ytfjcfjfgamajkaa
open Go Go.Ai Go.Aw Go.Proofs
open Nat renaming reduceBEq → uB, reduceEqDiff → uE, reduceLT → uL, reduceAdd → uA, reduceMul → uM, reduceSub → uS, reduceAnd → uN, reduceXor → uX, reduceOr → uO
open Int renaming reduceMod → vR, reduceDiv → vD, reduceLT → vL, reduceLE → vK, reduceEq → vE, reduceAdd → vA, reduceMul → vM, reduceToNat → vT, reduceSub → vS
set_option linter.unusedSimpArgs false
set_option linter.unusedVariables false
set_option maxRecDepth 10000
theorem entC_1 (x : List Nat) : (entC x)[1]? = some (.int .i64 0) := rfl
theorem entC_2 (x : List Nat) : (entC x)[2]? = some (.int .i64 3) := rfl
theorem ent_data (x y : List Nat) (hx : x.length = 64) (hy : y.length = 64) : overE 3 (B y) (entC x) = some (entC y) := by
  have l := entC_len x hx
  unfold overE
  rw [if_pos ⟨by rw [l, B_len, hy]; omega, allSc_B _⟩]
  unfold entC
  simp only [List.take_succ_cons, List.take_zero, B_len, hy]
  rw [show 3 + 64 = 64 + 1 + 1 + 1 from rfl]
  simp only [List.drop_succ_cons]
  rw [List.drop_append_of_le_length (by rw [B_len, hx]; omega), List.drop_of_length_le (by rw [B_len, hx]; omega)]
  rfl
theorem ent_d (x : List Nat) (hx : x.length = 64) : cutE 3 64 (entC x) = some (B x) := by
  rw [cutE_of (by rw [entC_len x hx]; omega)]
  show some ((B x ++ [AV.int .i64 0]).take 64) = _
  rw [List.take_append_of_le_length (by simp [B_len, hx]), List.take_of_length_le (by simp [B_len, hx])]
theorem ent_67 (x : List Nat) (hx : x.length = 64) : (entC x)[67]? = some (.int .i64 0) := by
  show (B x ++ [AV.int .i64 0])[64]? = _
  rw [List.getElem?_append_right (by simp [B_len, hx])]
  simp [B_len, hx]
theorem ent_err (x : List Nat) (hx : x.length = 64) : (entC x).set 67 (.int .i64 0) = entC x := by
  have h := ent_67 x hx
  obtain ⟨hl, e⟩ := List.getElem?_eq_some_iff.1 h
  rw [← e, List.set_getElem_self]
theorem read58 (d : Nat) (h : Heap) (a a1 a2 x : Nat) (hu z : Bool) (s : List Nat) (hs : s.length = 64) (hm : h.get a = some (.cells (memH a1 a2 hu) 0 false)) (hm1 : h.get a1 = some (.map (mapS s z) false)) (l4 : a < h.next) (l5 : a1 < h.next) (hx : h.get x = some (.cells (entC zz) 0 false)) (hxn : x < h.next) : G (callD env (d + 6) 58 [.ptr a 0, .ptr x 0] h) fun v h' => v = .int .i64 0 ∧ h'.get x = some (.cells (entC (cond z s zz)) 0 false) ∧ h.next ≤ h'.next ∧ ∀ j, j < h.next → j ≠ x → h'.get j = h.get j := by
  generalize hX : (fun (v : AV) (h' : Heap) => v = .int .i64 0 ∧ h'.get x = some (.cells (entC (cond z s zz)) 0 false) ∧ h.next ≤ h'.next ∧ ∀ j, j < h.next → j ≠ x → h'.get j = h.get j) = Q
  have hzl := zz_len
  have hel := entC_len zz hzl
  have lz : (cond z s zz).length = 64 := by cases z <;> simp [hs, zz_len]
  rw [callD_run (E := env) [] (by kernel_rfl) Try.func58 rfl (by rw [Try.ntmps58]; simp) (by kernel_rfl)]; simp (maxSteps := 2000000) (implicitDefEqProofs := false) (disch := first | omega | (simp only [SD.down, uA, uL] <;> omega) | fail) only [Try.ntmps58, Try.results58, env_P, env_L, hx, entC_1, entC_2, TA.down, TL.down, same_nilslice, resE, oneV, ↓reduceIte, reduceCtorEq, uB, uE, uL, uA, uM, uS, uN, uX, uO, vR, vD, vL, vK, vE, vA, vM, vT, vS]
  first | refine G.call (mread d h a a1 a2 hu z s hs l4 l5 hm hm1) ?_ | refine G.callC (mread d h a a1 a2 hu z s hs l4 l5 hm hm1) ?_ | refine G.callL (mread d h a a1 a2 hu z s hs l4 l5 hm hm1) ?_
  rintro v h1 ⟨rfl, k1⟩
  have n1 := k1.1
  have hx1 : h1.get x = some (.cells (entC zz) 0 false) := (k1.2 _ hxn).trans hx
  simp (maxSteps := 2000000) (implicitDefEqProofs := false) (disch := first | omega | (simp only [SD.down, uA, uL] <;> omega) | fail) only [hx1, ent_data zz _ hzl lz, hel, lz, TA.down, TL.down, same_nilslice, resE, oneV, ↓reduceIte, reduceCtorEq, uB, uE, uL, uA, uM, uS, uN, uX, uO, vR, vD, vL, vK, vE, vA, vM, vT, vS]
  subst hX
  refine G.ok ⟨rfl, by simp (maxSteps := 2000000) (implicitDefEqProofs := false) (disch := first | omega | (simp only [SD.down, uA, uL] <;> omega) | fail) only [TA.down, TL.down, same_nilslice, resE, oneV, ↓reduceIte, reduceCtorEq, uB, uE, uL, uA, uM, uS, uN, uX, uO, vR, vD, vL, vK, vE, vA, vM, vT, vS], by simp (maxSteps := 2000000) (implicitDefEqProofs := false) (disch := first | omega | (simp only [SD.down, uA, uL] <;> omega) | fail) only [TA.down, TL.down, same_nilslice, resE, oneV, ↓reduceIte, reduceCtorEq, uB, uE, uL, uA, uM, uS, uN, uX, uO, vR, vD, vL, vK, vE, vA, vM, vT, vS]; try omega, fun j hj jx => ?_⟩
  simp (maxSteps := 2000000) (implicitDefEqProofs := false) (disch := first | omega | (simp only [SD.down, uA, uL] <;> omega) | fail) only [TA.down, TL.down, same_nilslice, resE, oneV, ↓reduceIte, reduceCtorEq, uB, uE, uL, uA, uM, uS, uN, uX, uO, vR, vD, vL, vK, vE, vA, vM, vT, vS]
  exact k1.2 j hj
theorem doread (d : Nat) (h : Heap) (β S Ms a b a1 a2 c p q x : Nat) (hu z : Bool) (lg : AV) (s : List Nat) (hs : s.length = 64) (hb : h.get β = some (.cells [.eslice Ms 0 0 2, .ptr c 0, .eslice S 0 0 1, .bool false, lg] 0 false)) (hms : h.get Ms = some (.cells [.ptr a 0, .ptr b 0] 1 false)) (hm : h.get a = some (.cells (memH a1 a2 hu) 0 false)) (hm1 : h.get a1 = some (.map (mapS s z) false)) (l1 : β < h.next) (l3 : Ms < h.next) (l4 : a < h.next) (l5 : a1 < h.next) (hp : h.get p = some (.cells [.ptr β 0] 0 false)) (hq : h.get q = some (.cells [.func (.func 58) [] []] 0 false)) (hx : h.get x = some (.cells (entC zz) 0 false)) (hpn : p < h.next) (hqn : q < h.next) (hxn : x < h.next) : G (callD env (d + 7) 97 [.ptr x 0, .ptr p 0, .ptr q 0] h) fun v h' => v = .int .i64 0 ∧ h'.get x = some (.cells (entC (cond z s zz)) 0 false) ∧ h.next ≤ h'.next ∧ ∀ j, j < h.next → j ≠ x → h'.get j = h.get j := by
  generalize hX : (fun (v : AV) (h' : Heap) => v = .int .i64 0 ∧ h'.get x = some (.cells (entC (cond z s zz)) 0 false) ∧ h.next ≤ h'.next ∧ ∀ j, j < h.next → j ≠ x → h'.get j = h.get j) = Q
  have hzl := zz_len
  have hel := entC_len zz hzl
  have lz : (cond z s zz).length = 64 := by cases z <;> simp [hs, zz_len]
  rw [callD_run (E := env) [] (by kernel_rfl) Try.func97 rfl (by rw [Try.ntmps97]; simp) (by kernel_rfl)]; simp (maxSteps := 2000000) (implicitDefEqProofs := false) (disch := first | omega | (simp only [SD.down, uA, uL] <;> omega) | fail) only [Try.ntmps97, Try.results97, env_P, env_L, hb, hms, hp, hq, hx, hzl, hel, ent_cut zz hzl, entC_1, entC_2, hs, TA.down, TL.down, same_nilslice, resE, oneV, ↓reduceIte, reduceCtorEq, uB, uE, uL, uA, uM, uS, uN, uX, uO, vR, vD, vL, vK, vE, vA, vM, vT, vS]
  first | refine G.call (read58 d h a a1 a2 x hu z s hs hm hm1 l4 l5 hx hxn) ?_ | refine G.callC (read58 d h a a1 a2 x hu z s hs hm hm1 l4 l5 hx hxn) ?_ | refine G.callL (read58 d h a a1 a2 x hu z s hs hm hm1 l4 l5 hx hxn) ?_
  rintro v h1 ⟨rfl, k1, k2, k3⟩
  simp (maxSteps := 2000000) (implicitDefEqProofs := false) (disch := first | omega | (simp only [SD.down, uA, uL] <;> omega) | fail) only [TA.down, TL.down, same_nilslice, resE, oneV, ↓reduceIte, reduceCtorEq, uB, uE, uL, uA, uM, uS, uN, uX, uO, vR, vD, vL, vK, vE, vA, vM, vT, vS]
  subst hX
  exact G.ok ⟨rfl, k1, k2, k3⟩
end Go.Proofs.Ytfjcfjfgamajkaa
