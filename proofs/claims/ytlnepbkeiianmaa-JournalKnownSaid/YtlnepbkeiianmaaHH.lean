/- Of this program, for all inputs: contracts. No condition but those in the theorems. -/
import Derived.Test.YtlnepbkeiianmaaGA
import Derived.Test.YtlnepbkeiianmaaGD
import Derived.Test.YtlnepbkeiianmaaRB
namespace Go.Proofs.Ytlnepbkeiianmaa
open Go Go.Ai Go.Aw Go.Proofs
open Nat renaming reduceBEq -> uB,reduceEqDiff -> uE,reduceLT -> uL,reduceAdd -> uA,reduceMul -> uM,reduceSub -> uS,reduceAnd -> uN,reduceXor -> uX,reduceOr -> uO
open Int renaming reduceMod -> vR,reduceDiv -> vD,reduceLT -> vL,reduceLE -> vK,reduceEq -> vE,reduceAdd -> vA,reduceMul -> vM,reduceToNat -> vT,reduceSub -> vS
set_option linter.unusedSimpArgs false
set_option linter.unusedVariables false
set_option maxRecDepth 10000
/-! the document's geometry -/
theorem rchk_ok (d : Nat) (h : Heap) (m r : Int) : callD env (d + 1) 39 [gA m r] h = some (.int .i64 (cond (gOk m r) 0 2),h.new (.cells [.int .i64 m, .int .i64 r] 0 false)) := by
 unfold gA
 cases hg : gOk m r with
 | true =>
  obtain ⟨h1,h2,h3,h4⟩ := gOk_t hg
  rw [callD_run (E := env) [] (by kernel_rfl) Try.func39 rfl (by rw [Try.ntmps39]; simp) (by kernel_rfl)]; simp (maxSteps := 2000000) (implicitDefEqProofs := false) (disch := first | omega | (simp only [SD.down,uA,uL] <;> omega) | fail) only [Try.ntmps39,Try.results39,env_P,env_L,cond_true,TQ.down,resE,oneV, ↓reduceIte,reduceCtorEq,uB,uE,uL,uA,uM,uS,uN,uX,uO,vR,vD,vL,vK,vE,vA,vM,vT,vS]
 | false =>
  have hn := gOk_f hg
  by_cases h1 : m < 4
  ·rw [callD_run (E := env) [] (by kernel_rfl) Try.func39 rfl (by rw [Try.ntmps39]; simp) (by kernel_rfl)]; simp (maxSteps := 2000000) (implicitDefEqProofs := false) (disch := first | omega | (simp only [SD.down,uA,uL] <;> omega) | fail) only [Try.ntmps39,Try.results39,env_P,env_L,cond_false,TQ.down,resE,oneV, ↓reduceIte,reduceCtorEq,uB,uE,uL,uA,uM,uS,uN,uX,uO,vR,vD,vL,vK,vE,vA,vM,vT,vS]
  by_cases h2 : 64 < m
  ·rw [callD_run (E := env) [] (by kernel_rfl) Try.func39 rfl (by rw [Try.ntmps39]; simp) (by kernel_rfl)]; simp (maxSteps := 2000000) (implicitDefEqProofs := false) (disch := first | omega | (simp only [SD.down,uA,uL] <;> omega) | fail) only [Try.ntmps39,Try.results39,env_P,env_L,cond_false,TQ.down,resE,oneV, ↓reduceIte,reduceCtorEq,uB,uE,uL,uA,uM,uS,uN,uX,uO,vR,vD,vL,vK,vE,vA,vM,vT,vS]
  by_cases h3 : r < 1
  ·rw [callD_run (E := env) [] (by kernel_rfl) Try.func39 rfl (by rw [Try.ntmps39]; simp) (by kernel_rfl)]; simp (maxSteps := 2000000) (implicitDefEqProofs := false) (disch := first | omega | (simp only [SD.down,uA,uL] <;> omega) | fail) only [Try.ntmps39,Try.results39,env_P,env_L,cond_false,TQ.down,resE,oneV, ↓reduceIte,reduceCtorEq,uB,uE,uL,uA,uM,uS,uN,uX,uO,vR,vD,vL,vK,vE,vA,vM,vT,vS]
  have h4 : 64 < r := by omega
  rw [callD_run (E := env) [] (by kernel_rfl) Try.func39 rfl (by rw [Try.ntmps39]; simp) (by kernel_rfl)]; simp (maxSteps := 2000000) (implicitDefEqProofs := false) (disch := first | omega | (simp only [SD.down,uA,uL] <;> omega) | fail) only [Try.ntmps39,Try.results39,env_P,env_L,cond_false,TQ.down,resE,oneV, ↓reduceIte,reduceCtorEq,uB,uE,uL,uA,uM,uS,uN,uX,uO,vR,vD,vL,vK,vE,vA,vM,vT,vS]
theorem rleaves_ok (d : Nat) (h : Heap) (m r : Int) : G (callD env (d + 2) 82 [gA m r] h) fun v h' => v = .int .i64 (gLeaves m r : Nat) /\ Keeps h h' := by
 refine G.gen fun Q hX => ?_
 have hb := fun h => mul_le (m := m) (r := r) h
 have ck := fun (d : Nat) (h : Heap) => rchk_ok d h m r
 unfold gA at ck ⊢
 cases hg : gOk m r with
 | true =>
  rw [hg] at ck
  obtain ⟨b1,b2⟩ := hb hg
  have e : gLeaves m r = (m * r).toNat := if_pos hg
  have e2 : m * r = ((gLeaves m r : Nat) : Int) := by omega
  rw [callD_run (E := env) [] (by kernel_rfl) Try.func82 rfl (by rw [Try.ntmps82]; simp) (by kernel_rfl)]; simp (maxSteps := 2000000) (implicitDefEqProofs := false) (disch := first | omega | (simp only [SD.down,uA,uL] <;> omega) | fail) only [Try.ntmps82,Try.results82,env_P,env_L,ck,cond_true,TQ.down,resE,oneV, ↓reduceIte,reduceCtorEq,uB,uE,uL,uA,uM,uS,uN,uX,uO,vR,vD,vL,vK,vE,vA,vM,vT,vS]
  subst hX
  exact G.ok ⟨by rw [e2],(Keeps.refl h).post (by simp (maxSteps := 2000000) (implicitDefEqProofs := false) (disch := first | omega | (simp only [SD.down,uA,uL] <;> omega) | fail) only [TQ.down,resE,oneV, ↓reduceIte,reduceCtorEq,uB,uE,uL,uA,uM,uS,uN,uX,uO,vR,vD,vL,vK,vE,vA,vM,vT,vS] <;> omega) (fun j hj => by simp (maxSteps := 2000000) (implicitDefEqProofs := false) (disch := first | omega | (simp only [SD.down,uA,uL] <;> omega) | fail) only [TQ.down,resE,oneV, ↓reduceIte,reduceCtorEq,uB,uE,uL,uA,uM,uS,uN,uX,uO,vR,vD,vL,vK,vE,vA,vM,vT,vS])⟩
 | false =>
  rw [hg] at ck
  have e : gLeaves m r = 0 := if_neg (by rw [hg]; simp)
  rw [callD_run (E := env) [] (by kernel_rfl) Try.func82 rfl (by rw [Try.ntmps82]; simp) (by kernel_rfl)]; simp (maxSteps := 2000000) (implicitDefEqProofs := false) (disch := first | omega | (simp only [SD.down,uA,uL] <;> omega) | fail) only [Try.ntmps82,Try.results82,env_P,env_L,ck,cond_false,TQ.down,resE,oneV, ↓reduceIte,reduceCtorEq,uB,uE,uL,uA,uM,uS,uN,uX,uO,vR,vD,vL,vK,vE,vA,vM,vT,vS]
  subst hX
  exact G.ok ⟨by rw [e]; rfl,(Keeps.refl h).post (by simp (maxSteps := 2000000) (implicitDefEqProofs := false) (disch := first | omega | (simp only [SD.down,uA,uL] <;> omega) | fail) only [TQ.down,resE,oneV, ↓reduceIte,reduceCtorEq,uB,uE,uL,uA,uM,uS,uN,uX,uO,vR,vD,vL,vK,vE,vA,vM,vT,vS] <;> omega) (fun j hj => by simp (maxSteps := 2000000) (implicitDefEqProofs := false) (disch := first | omega | (simp only [SD.down,uA,uL] <;> omega) | fail) only [TQ.down,resE,oneV, ↓reduceIte,reduceCtorEq,uB,uE,uL,uA,uM,uS,uN,uX,uO,vR,vD,vL,vK,vE,vA,vM,vT,vS])⟩
theorem power_ok (d : Nat) (h : Heap) (q : Nat) (hq : q <= 12) : callD env (d + 1) 74 [.int .i64 (q : Int)] h = some (.int .i64 ((2 ^ q : Nat) : Int),h) := by
 have key : G (callD env (d + 1) 74 [.int .i64 (q : Int)] h) fun v h' => v = .int .i64 ((2 ^ q : Nat) : Int) /\ h' = h := by
  refine G.gen fun Q hX => ?_
  rw [callD_run (E := env) [] (by kernel_rfl) Try.func74 rfl (by rw [Try.ntmps74]; simp) (by kernel_rfl)]; simp (maxSteps := 2000000) (implicitDefEqProofs := false) (disch := first | omega | (simp only [SD.down,uA,uL] <;> omega) | fail) only [Try.ntmps74,Try.results74,env_P,env_L,TQ.down,resE,oneV, ↓reduceIte,reduceCtorEq,uB,uE,uL,uA,uM,uS,uN,uX,uO,vR,vD,vL,vK,vE,vA,vM,vT,vS]
  rw [run_loop]
  refine loop_ind (fun j σ hh => ∃ i : Nat,i + j = q /\ σ 0 = .int .i64 (q : Int) /\ σ 3 = .int .i64 ((2 ^ i : Nat) : Int) /\ σ 4 = .int .i64 (i : Int) /\ hh = h) ?_ ?_ q _ _ _ (by simp; omega) ?_
  ·rintro mm σ hh ⟨i,hi,s0,s3,s4,rfl⟩
   obtain rfl : i = q := by omega
   simp (maxSteps := 2000000) (implicitDefEqProofs := false) (disch := first | omega | (simp only [SD.down,uA,uL] <;> omega) | fail) only [run_it,s0,s3,s4,env_P,env_L,TQ.down,resE,oneV, ↓reduceIte,reduceCtorEq,uB,uE,uL,uA,uM,uS,uN,uX,uO,vR,vD,vL,vK,vE,vA,vM,vT,vS]
   subst hX
   exact G.ok ⟨rfl,rfl⟩
  ·rintro j mm σ hh ⟨i,hi,s0,s3,s4,rfl⟩ ih
   have hp := Nat.pow_le_pow_right (n := 2) (by omega) (show i + 1 <= 12 by omega)
   have e2 : 2 * 2 ^ i = 2 ^ (i + 1) := by rw [Nat.pow_succ,Nat.mul_comm]
   generalize hX : 2 ^ i = X at *
   simp (maxSteps := 2000000) (implicitDefEqProofs := false) (disch := first | omega | (simp only [SD.down,uA,uL] <;> omega) | fail) only [run_it,s0,s3,s4,env_P,env_L,TQ.down,resE,oneV, ↓reduceIte,reduceCtorEq,uB,uE,uL,uA,uM,uS,uN,uX,uO,vR,vD,vL,vK,vE,vA,vM,vT,vS]
   exact ih _ _ ⟨i + 1,by omega,by simp (maxSteps := 2000000) (implicitDefEqProofs := false) (disch := first | omega | (simp only [SD.down,uA,uL] <;> omega) | fail) only [s0,TQ.down,resE,oneV, ↓reduceIte,reduceCtorEq,uB,uE,uL,uA,uM,uS,uN,uX,uO,vR,vD,vL,vK,vE,vA,vM,vT,vS],by rw [<- e2]; simp (maxSteps := 2000000) (implicitDefEqProofs := false) (disch := first | omega | (simp only [SD.down,uA,uL] <;> omega) | fail) only [TQ.down,resE,oneV, ↓reduceIte,reduceCtorEq,uB,uE,uL,uA,uM,uS,uN,uX,uO,vR,vD,vL,vK,vE,vA,vM,vT,vS],by simp (maxSteps := 2000000) (implicitDefEqProofs := false) (disch := first | omega | (simp only [SD.down,uA,uL] <;> omega) | fail) only [TQ.down,resE,oneV, ↓reduceIte,reduceCtorEq,uB,uE,uL,uA,uM,uS,uN,uX,uO,vR,vD,vL,vK,vE,vA,vM,vT,vS],rfl⟩
  ·exact ⟨0,by omega,by simp (maxSteps := 2000000) (implicitDefEqProofs := false) (disch := first | omega | (simp only [SD.down,uA,uL] <;> omega) | fail) only [TQ.down,resE,oneV, ↓reduceIte,reduceCtorEq,uB,uE,uL,uA,uM,uS,uN,uX,uO,vR,vD,vL,vK,vE,vA,vM,vT,vS],by simp (maxSteps := 2000000) (implicitDefEqProofs := false) (disch := first | omega | (simp only [SD.down,uA,uL] <;> omega) | fail) only [TQ.down,resE,oneV, ↓reduceIte,reduceCtorEq,uB,uE,uL,uA,uM,uS,uN,uX,uO,vR,vD,vL,vK,vE,vA,vM,vT,vS]; rfl,by simp (maxSteps := 2000000) (implicitDefEqProofs := false) (disch := first | omega | (simp only [SD.down,uA,uL] <;> omega) | fail) only [TQ.down,resE,oneV, ↓reduceIte,reduceCtorEq,uB,uE,uL,uA,uM,uS,uN,uX,uO,vR,vD,vL,vK,vE,vA,vM,vT,vS],rfl⟩
 obtain ⟨v,h',e,rfl,rfl⟩ := key
 exact e
theorem rheight_ok (d : Nat) (h : Heap) (m r : Int) : G (callD env (d + 3) 75 [gA m r] h) fun v h' => v = .int .i64 (gHeight m r : Nat) /\ Keeps h h' := by
 refine G.gen fun Q hX => ?_
 have hH := gHeight_le m r
 unfold gA
 rw [callD_run (E := env) [(2, .fl [(2,0,1)])] (by kernel_rfl) Try.func75 rfl (by rw [Try.ntmps75]; simp) (by kernel_rfl)]; simp (maxSteps := 2000000) (implicitDefEqProofs := false) (disch := first | omega | (simp only [SD.down,uA,uL] <;> omega) | fail) only [Try.ntmps75,Try.results75,env_P,env_L,TQ.down,resE,oneV, ↓reduceIte,reduceCtorEq,uB,uE,uL,uA,uM,uS,uN,uX,uO,vR,vD,vL,vK,vE,vA,vM,vT,vS]
 rw [run_loop]
 refine loop_ind (fun j σ hh => ∃ q : Nat,q + j = gHeight m r /\ σ 1 = .ptr h.next 0 /\ σ 3 = .int .i64 (q : Int) /\ hh.get h.next = some (.cells [.int .i64 m, .int .i64 r] 0 false) /\ h.next < hh.next /\ Keeps h hh) ?_ ?_ (gHeight m r) _ _ _ (by simp; omega) ?_
 ·rintro mm σ hh ⟨q,hq,s1,s3,g0,gn,k⟩
  have hq12 : q <= 12 := by omega
  have pw := fun d h => power_ok d h q hq12
  have hn : ¬ 2 ^ q < gLeaves m r := fun x => by have := hgt_lt.2 x; unfold gHeight at hq; omega
  generalize 2 ^ q = X at *
  simp (maxSteps := 2000000) (implicitDefEqProofs := false) (disch := first | omega | (simp only [SD.down,uA,uL] <;> omega) | fail) only [run_it,s1,s3,g0,pw,env_P,env_L,TQ.down,resE,oneV, ↓reduceIte,reduceCtorEq,uB,uE,uL,uA,uM,uS,uN,uX,uO,vR,vD,vL,vK,vE,vA,vM,vT,vS]
  first | refine G.call (rleaves_ok d _ m r) ?_ | refine G.callC (rleaves_ok d _ m r) ?_ | refine G.callL (rleaves_ok d _ m r) ?_
  rintro v h1 ⟨rfl,k1⟩
  simp (maxSteps := 2000000) (implicitDefEqProofs := false) (disch := first | omega | (simp only [SD.down,uA,uL] <;> omega) | fail) only [run_it,s1,s3,g0,sgA,env_P,env_L,TQ.down,resE,oneV, ↓reduceIte,reduceCtorEq,uB,uE,uL,uA,uM,uS,uN,uX,uO,vR,vD,vL,vK,vE,vA,vM,vT,vS]
  subst hX
  exact G.ok ⟨by rw [show q = gHeight m r by omega],k.trans k1⟩
 ·rintro j mm σ hh ⟨q,hq,s1,s3,g0,gn,k⟩ ih
  have hq12 : q <= 12 := by omega
  have pw := fun d h => power_ok d h q hq12
  have hn : 2 ^ q < gLeaves m r := hgt_lt.1 (by unfold gHeight at hq; omega)
  generalize 2 ^ q = X at *
  simp (maxSteps := 2000000) (implicitDefEqProofs := false) (disch := first | omega | (simp only [SD.down,uA,uL] <;> omega) | fail) only [run_it,s1,s3,g0,pw,env_P,env_L,TQ.down,resE,oneV, ↓reduceIte,reduceCtorEq,uB,uE,uL,uA,uM,uS,uN,uX,uO,vR,vD,vL,vK,vE,vA,vM,vT,vS]
  first | refine G.call (rleaves_ok d _ m r) ?_ | refine G.callC (rleaves_ok d _ m r) ?_ | refine G.callL (rleaves_ok d _ m r) ?_
  rintro v h1 ⟨rfl,k1⟩
  simp (maxSteps := 2000000) (implicitDefEqProofs := false) (disch := first | omega | (simp only [SD.down,uA,uL] <;> omega) | fail) only [run_it,s1,s3,g0,sgA,env_P,env_L,TQ.down,resE,oneV, ↓reduceIte,reduceCtorEq,uB,uE,uL,uA,uM,uS,uN,uX,uO,vR,vD,vL,vK,vE,vA,vM,vT,vS]
  have k1n := k1.1
  exact ih _ _ ⟨q + 1,by omega,by simp (maxSteps := 2000000) (implicitDefEqProofs := false) (disch := first | omega | (simp only [SD.down,uA,uL] <;> omega) | fail) only [s1,TQ.down,resE,oneV, ↓reduceIte,reduceCtorEq,uB,uE,uL,uA,uM,uS,uN,uX,uO,vR,vD,vL,vK,vE,vA,vM,vT,vS],by simp (maxSteps := 2000000) (implicitDefEqProofs := false) (disch := first | omega | (simp only [SD.down,uA,uL] <;> omega) | fail) only [s3,TQ.down,resE,oneV, ↓reduceIte,reduceCtorEq,uB,uE,uL,uA,uM,uS,uN,uX,uO,vR,vD,vL,vK,vE,vA,vM,vT,vS],(k1.2 _ gn).trans g0,by omega,k.trans k1⟩
 ·exact ⟨0,by omega,by simp (maxSteps := 2000000) (implicitDefEqProofs := false) (disch := first | omega | (simp only [SD.down,uA,uL] <;> omega) | fail) only [TQ.down,resE,oneV, ↓reduceIte,reduceCtorEq,uB,uE,uL,uA,uM,uS,uN,uX,uO,vR,vD,vL,vK,vE,vA,vM,vT,vS],by simp (maxSteps := 2000000) (implicitDefEqProofs := false) (disch := first | omega | (simp only [SD.down,uA,uL] <;> omega) | fail) only [TQ.down,resE,oneV, ↓reduceIte,reduceCtorEq,uB,uE,uL,uA,uM,uS,uN,uX,uO,vR,vD,vL,vK,vE,vA,vM,vT,vS],by simp (maxSteps := 2000000) (implicitDefEqProofs := false) (disch := first | omega | (simp only [SD.down,uA,uL] <;> omega) | fail) only [TQ.down,resE,oneV, ↓reduceIte,reduceCtorEq,uB,uE,uL,uA,uM,uS,uN,uX,uO,vR,vD,vL,vK,vE,vA,vM,vT,vS],by simp (maxSteps := 2000000) (implicitDefEqProofs := false) (disch := first | omega | (simp only [SD.down,uA,uL] <;> omega) | fail) only [TQ.down,resE,oneV, ↓reduceIte,reduceCtorEq,uB,uE,uL,uA,uM,uS,uN,uX,uO,vR,vD,vL,vK,vE,vA,vM,vT,vS] <;> omega,(Keeps.refl h).post (by simp (maxSteps := 2000000) (implicitDefEqProofs := false) (disch := first | omega | (simp only [SD.down,uA,uL] <;> omega) | fail) only [TQ.down,resE,oneV, ↓reduceIte,reduceCtorEq,uB,uE,uL,uA,uM,uS,uN,uX,uO,vR,vD,vL,vK,vE,vA,vM,vT,vS] <;> omega) (fun j hj => by simp (maxSteps := 2000000) (implicitDefEqProofs := false) (disch := first | omega | (simp only [SD.down,uA,uL] <;> omega) | fail) only [TQ.down,resE,oneV, ↓reduceIte,reduceCtorEq,uB,uE,uL,uA,uM,uS,uN,uX,uO,vR,vD,vL,vK,vE,vA,vM,vT,vS])⟩
theorem rnodes_ok (d : Nat) (h : Heap) (m r : Int) : G (callD env (d + 4) 60 [gA m r] h) fun v h' => v = .int .i64 (gNodes m r : Nat) /\ Keeps h h' := by
 refine G.gen fun Q hX => ?_
 have hH := gHeight_le m r
 have pw := fun d h => power_ok d h (gHeight m r) hH
 have hp := Nat.pow_le_pow_right (n := 2) (by omega) hH
 have hp1 := Nat.one_le_two_pow (n := gHeight m r)
 have eN : gNodes m r = 2 ^ gHeight m r - 1 := rfl
 unfold gA
 rw [callD_run (E := env) [] (by kernel_rfl) Try.func60 rfl (by rw [Try.ntmps60]; simp) (by kernel_rfl)]; simp (maxSteps := 2000000) (implicitDefEqProofs := false) (disch := first | omega | (simp only [SD.down,uA,uL] <;> omega) | fail) only [Try.ntmps60,Try.results60,env_P,env_L,TQ.down,resE,oneV, ↓reduceIte,reduceCtorEq,uB,uE,uL,uA,uM,uS,uN,uX,uO,vR,vD,vL,vK,vE,vA,vM,vT,vS]
 first | refine G.call (rheight_ok d _ m r) ?_ | refine G.callC (rheight_ok d _ m r) ?_ | refine G.callL (rheight_ok d _ m r) ?_
 rintro v h1 ⟨rfl,k⟩
 generalize 2 ^ gHeight m r = X at *
 simp (maxSteps := 2000000) (implicitDefEqProofs := false) (disch := first | omega | (simp only [SD.down,uA,uL] <;> omega) | fail) only [pw,env_P,env_L,TQ.down,resE,oneV, ↓reduceIte,reduceCtorEq,uB,uE,uL,uA,uM,uS,uN,uX,uO,vR,vD,vL,vK,vE,vA,vM,vT,vS]
 subst hX
 exact G.ok ⟨congrArg _ (by rw [eN]),k.pre (by simp (maxSteps := 2000000) (implicitDefEqProofs := false) (disch := first | omega | (simp only [SD.down,uA,uL] <;> omega) | fail) only [TQ.down,resE,oneV, ↓reduceIte,reduceCtorEq,uB,uE,uL,uA,uM,uS,uN,uX,uO,vR,vD,vL,vK,vE,vA,vM,vT,vS] <;> omega) (fun j hj => by simp (maxSteps := 2000000) (implicitDefEqProofs := false) (disch := first | omega | (simp only [SD.down,uA,uL] <;> omega) | fail) only [TQ.down,resE,oneV, ↓reduceIte,reduceCtorEq,uB,uE,uL,uA,uM,uS,uN,uX,uO,vR,vD,vL,vK,vE,vA,vM,vT,vS])⟩
set_option maxHeartbeats 1000000 in
theorem rcap_ok (d : Nat) (h : Heap) (m r : Int) : G (callD env (d + 5) 73 [gA m r] h) fun v h' => v = .int .i64 (gCap m r : Nat) /\ Keeps h h' := by
 refine G.gen fun Q hX => ?_
 have hH := gHeight_le m r
 have hN := gNodes_le m r
 have ck := fun (d : Nat) (h : Heap) => rchk_ok d h m r
 unfold gA at ck ⊢
 cases hg : gOk m r with
 | false =>
  rw [hg] at ck
  rw [callD_run (E := env) [] (by kernel_rfl) Try.func73 rfl (by rw [Try.ntmps73]; simp) (by kernel_rfl)]; simp (maxSteps := 2000000) (implicitDefEqProofs := false) (disch := first | omega | (simp only [SD.down,uA,uL] <;> omega) | fail) only [Try.ntmps73,Try.results73,env_P,env_L,ck,cond_false,TQ.down,resE,oneV, ↓reduceIte,reduceCtorEq,uB,uE,uL,uA,uM,uS,uN,uX,uO,vR,vD,vL,vK,vE,vA,vM,vT,vS]
  subst hX
  exact G.ok ⟨by unfold gCap; rw [hg]; rfl,(Keeps.refl h).post (by simp (maxSteps := 2000000) (implicitDefEqProofs := false) (disch := first | omega | (simp only [SD.down,uA,uL] <;> omega) | fail) only [TQ.down,resE,oneV, ↓reduceIte,reduceCtorEq,uB,uE,uL,uA,uM,uS,uN,uX,uO,vR,vD,vL,vK,vE,vA,vM,vT,vS] <;> omega) (fun j hj => by simp (maxSteps := 2000000) (implicitDefEqProofs := false) (disch := first | omega | (simp only [SD.down,uA,uL] <;> omega) | fail) only [TQ.down,resE,oneV, ↓reduceIte,reduceCtorEq,uB,uE,uL,uA,uM,uS,uN,uX,uO,vR,vD,vL,vK,vE,vA,vM,vT,vS])⟩
 | true =>
  rw [hg] at ck
  obtain ⟨b1,b2,b3,b4⟩ := gOk_t hg
  obtain ⟨M,eM⟩ : ∃ M : Nat,max 6 m = (M : Int) := ⟨(max 6 m).toNat,by omega⟩
  have hM : M <= 64 := by omega
  have hMH : M * gHeight m r <= 768 := Nat.le_trans (Nat.mul_le_mul hM hH) (by decide)
  have eMH : (M : Int) * ((gHeight m r : Nat) : Int) = ((M * gHeight m r : Nat) : Int) := by simp
  have eC : gCap m r = M + min (M * gHeight m r) (gNodes m r) + 8 := by unfold gCap; rw [hg,eM]; rfl
  have tail : ∀ (X : Cx) (k : List Itm),True := fun _ _ => trivial
  have go2 : ∀ (h1 : Heap),Keeps h h1 -> gNodes m r < M * gHeight m r -> True := fun _ _ _ => trivial
  by_cases h6 : 6 < m
  ·have eMm : m = (M : Int) := by omega
   rw [callD_run (E := env) [] (by kernel_rfl) Try.func73 rfl (by rw [Try.ntmps73]; simp) (by kernel_rfl)]; simp (maxSteps := 2000000) (implicitDefEqProofs := false) (disch := first | omega | (simp only [SD.down,uA,uL] <;> omega) | fail) only [Try.ntmps73,Try.results73,env_P,env_L,ck,cond_true,TQ.down,resE,oneV, ↓reduceIte,reduceCtorEq,uB,uE,uL,uA,uM,uS,uN,uX,uO,vR,vD,vL,vK,vE,vA,vM,vT,vS]
   first | refine G.call (rheight_ok (d + 1) _ m r) ?_ | refine G.callC (rheight_ok (d + 1) _ m r) ?_ | refine G.callL (rheight_ok (d + 1) _ m r) ?_
   rintro v h2 ⟨rfl,k2⟩
   have n2 := k2.1
   simp (maxSteps := 2000000) (implicitDefEqProofs := false) (disch := first | omega | (simp only [SD.down,uA,uL] <;> omega) | fail) only [TQ.down,resE,oneV, ↓reduceIte,reduceCtorEq,uB,uE,uL,uA,uM,uS,uN,uX,uO,vR,vD,vL,vK,vE,vA,vM,vT,vS] at n2
   have g2 : h2.get h.next = some (.cells [.int .i64 m, .int .i64 r] 0 false) := by rw [k2.2 _ (by simp (maxSteps := 2000000) (implicitDefEqProofs := false) (disch := first | omega | (simp only [SD.down,uA,uL] <;> omega) | fail) only [TQ.down,resE,oneV, ↓reduceIte,reduceCtorEq,uB,uE,uL,uA,uM,uS,uN,uX,uO,vR,vD,vL,vK,vE,vA,vM,vT,vS] <;> omega)]; simp (maxSteps := 2000000) (implicitDefEqProofs := false) (disch := first | omega | (simp only [SD.down,uA,uL] <;> omega) | fail) only [TQ.down,resE,oneV, ↓reduceIte,reduceCtorEq,uB,uE,uL,uA,uM,uS,uN,uX,uO,vR,vD,vL,vK,vE,vA,vM,vT,vS]
   rw [<- eMm] at eMH
   simp (maxSteps := 2000000) (implicitDefEqProofs := false) (disch := first | omega | (simp only [SD.down,uA,uL] <;> omega) | fail) only [g2,eMH,env_P,env_L,TQ.down,resE,oneV, ↓reduceIte,reduceCtorEq,uB,uE,uL,uA,uM,uS,uN,uX,uO,vR,vD,vL,vK,vE,vA,vM,vT,vS]
   first | refine G.call (rnodes_ok d _ m r) ?_ | refine G.callC (rnodes_ok d _ m r) ?_ | refine G.callL (rnodes_ok d _ m r) ?_
   rintro v h3 ⟨rfl,k3⟩
   have n3 := k3.1
   have g3 := k3.at (by omega) g2
   by_cases hlt : gNodes m r < M * gHeight m r
   ·simp (maxSteps := 2000000) (implicitDefEqProofs := false) (disch := first | omega | (simp only [SD.down,uA,uL] <;> omega) | fail) only [g3,env_P,env_L,TQ.down,resE,oneV, ↓reduceIte,reduceCtorEq,uB,uE,uL,uA,uM,uS,uN,uX,uO,vR,vD,vL,vK,vE,vA,vM,vT,vS]
    first | refine G.call (rnodes_ok d _ m r) ?_ | refine G.callC (rnodes_ok d _ m r) ?_ | refine G.callL (rnodes_ok d _ m r) ?_
    rintro v h4 ⟨rfl,k4⟩
    simp (maxSteps := 2000000) (implicitDefEqProofs := false) (disch := first | omega | (simp only [SD.down,uA,uL] <;> omega) | fail) only [g3,env_P,env_L,TQ.down,resE,oneV, ↓reduceIte,reduceCtorEq,uB,uE,uL,uA,uM,uS,uN,uX,uO,vR,vD,vL,vK,vE,vA,vM,vT,vS]
    subst hX
    exact G.ok ⟨congrArg _ (by rw [eC,Nat.min_eq_right (by omega)] <;> omega),((k2.trans k3).trans k4).pre (by simp (maxSteps := 2000000) (implicitDefEqProofs := false) (disch := first | omega | (simp only [SD.down,uA,uL] <;> omega) | fail) only [TQ.down,resE,oneV, ↓reduceIte,reduceCtorEq,uB,uE,uL,uA,uM,uS,uN,uX,uO,vR,vD,vL,vK,vE,vA,vM,vT,vS] <;> omega) (fun j hj => by simp (maxSteps := 2000000) (implicitDefEqProofs := false) (disch := first | omega | (simp only [SD.down,uA,uL] <;> omega) | fail) only [TQ.down,resE,oneV, ↓reduceIte,reduceCtorEq,uB,uE,uL,uA,uM,uS,uN,uX,uO,vR,vD,vL,vK,vE,vA,vM,vT,vS])⟩
   ·simp (maxSteps := 2000000) (implicitDefEqProofs := false) (disch := first | omega | (simp only [SD.down,uA,uL] <;> omega) | fail) only [g3,env_P,env_L,TQ.down,resE,oneV, ↓reduceIte,reduceCtorEq,uB,uE,uL,uA,uM,uS,uN,uX,uO,vR,vD,vL,vK,vE,vA,vM,vT,vS]
    subst hX
    exact G.ok ⟨congrArg _ (by rw [eC,Nat.min_eq_left (by omega)] <;> omega),(k2.trans k3).pre (by simp (maxSteps := 2000000) (implicitDefEqProofs := false) (disch := first | omega | (simp only [SD.down,uA,uL] <;> omega) | fail) only [TQ.down,resE,oneV, ↓reduceIte,reduceCtorEq,uB,uE,uL,uA,uM,uS,uN,uX,uO,vR,vD,vL,vK,vE,vA,vM,vT,vS] <;> omega) (fun j hj => by simp (maxSteps := 2000000) (implicitDefEqProofs := false) (disch := first | omega | (simp only [SD.down,uA,uL] <;> omega) | fail) only [TQ.down,resE,oneV, ↓reduceIte,reduceCtorEq,uB,uE,uL,uA,uM,uS,uN,uX,uO,vR,vD,vL,vK,vE,vA,vM,vT,vS])⟩
  ·have eMm : M = 6 := by omega
   rw [callD_run (E := env) [] (by kernel_rfl) Try.func73 rfl (by rw [Try.ntmps73]; simp) (by kernel_rfl)]; simp (maxSteps := 2000000) (implicitDefEqProofs := false) (disch := first | omega | (simp only [SD.down,uA,uL] <;> omega) | fail) only [Try.ntmps73,Try.results73,env_P,env_L,ck,cond_true,TQ.down,resE,oneV, ↓reduceIte,reduceCtorEq,uB,uE,uL,uA,uM,uS,uN,uX,uO,vR,vD,vL,vK,vE,vA,vM,vT,vS]
   first | refine G.call (rheight_ok (d + 1) _ m r) ?_ | refine G.callC (rheight_ok (d + 1) _ m r) ?_ | refine G.callL (rheight_ok (d + 1) _ m r) ?_
   rintro v h2 ⟨rfl,k2⟩
   have n2 := k2.1
   simp (maxSteps := 2000000) (implicitDefEqProofs := false) (disch := first | omega | (simp only [SD.down,uA,uL] <;> omega) | fail) only [TQ.down,resE,oneV, ↓reduceIte,reduceCtorEq,uB,uE,uL,uA,uM,uS,uN,uX,uO,vR,vD,vL,vK,vE,vA,vM,vT,vS] at n2
   have g2 : h2.get h.next = some (.cells [.int .i64 m, .int .i64 r] 0 false) := by rw [k2.2 _ (by simp (maxSteps := 2000000) (implicitDefEqProofs := false) (disch := first | omega | (simp only [SD.down,uA,uL] <;> omega) | fail) only [TQ.down,resE,oneV, ↓reduceIte,reduceCtorEq,uB,uE,uL,uA,uM,uS,uN,uX,uO,vR,vD,vL,vK,vE,vA,vM,vT,vS] <;> omega)]; simp (maxSteps := 2000000) (implicitDefEqProofs := false) (disch := first | omega | (simp only [SD.down,uA,uL] <;> omega) | fail) only [TQ.down,resE,oneV, ↓reduceIte,reduceCtorEq,uB,uE,uL,uA,uM,uS,uN,uX,uO,vR,vD,vL,vK,vE,vA,vM,vT,vS]
   rw [eMm] at hMH eC
   simp (maxSteps := 2000000) (implicitDefEqProofs := false) (disch := first | omega | (simp only [SD.down,uA,uL] <;> omega) | fail) only [g2,env_P,env_L,TQ.down,resE,oneV, ↓reduceIte,reduceCtorEq,uB,uE,uL,uA,uM,uS,uN,uX,uO,vR,vD,vL,vK,vE,vA,vM,vT,vS]
   first | refine G.call (rnodes_ok d _ m r) ?_ | refine G.callC (rnodes_ok d _ m r) ?_ | refine G.callL (rnodes_ok d _ m r) ?_
   rintro v h3 ⟨rfl,k3⟩
   have n3 := k3.1
   have g3 := k3.at (by omega) g2
   by_cases hlt : gNodes m r < 6 * gHeight m r
   ·simp (maxSteps := 2000000) (implicitDefEqProofs := false) (disch := first | omega | (simp only [SD.down,uA,uL] <;> omega) | fail) only [g3,env_P,env_L,TQ.down,resE,oneV, ↓reduceIte,reduceCtorEq,uB,uE,uL,uA,uM,uS,uN,uX,uO,vR,vD,vL,vK,vE,vA,vM,vT,vS]
    first | refine G.call (rnodes_ok d _ m r) ?_ | refine G.callC (rnodes_ok d _ m r) ?_ | refine G.callL (rnodes_ok d _ m r) ?_
    rintro v h4 ⟨rfl,k4⟩
    simp (maxSteps := 2000000) (implicitDefEqProofs := false) (disch := first | omega | (simp only [SD.down,uA,uL] <;> omega) | fail) only [g3,env_P,env_L,TQ.down,resE,oneV, ↓reduceIte,reduceCtorEq,uB,uE,uL,uA,uM,uS,uN,uX,uO,vR,vD,vL,vK,vE,vA,vM,vT,vS]
    subst hX
    exact G.ok ⟨congrArg _ (by rw [eC,Nat.min_eq_right (by omega)] <;> omega),((k2.trans k3).trans k4).pre (by simp (maxSteps := 2000000) (implicitDefEqProofs := false) (disch := first | omega | (simp only [SD.down,uA,uL] <;> omega) | fail) only [TQ.down,resE,oneV, ↓reduceIte,reduceCtorEq,uB,uE,uL,uA,uM,uS,uN,uX,uO,vR,vD,vL,vK,vE,vA,vM,vT,vS] <;> omega) (fun j hj => by simp (maxSteps := 2000000) (implicitDefEqProofs := false) (disch := first | omega | (simp only [SD.down,uA,uL] <;> omega) | fail) only [TQ.down,resE,oneV, ↓reduceIte,reduceCtorEq,uB,uE,uL,uA,uM,uS,uN,uX,uO,vR,vD,vL,vK,vE,vA,vM,vT,vS])⟩
   ·simp (maxSteps := 2000000) (implicitDefEqProofs := false) (disch := first | omega | (simp only [SD.down,uA,uL] <;> omega) | fail) only [g3,env_P,env_L,TQ.down,resE,oneV, ↓reduceIte,reduceCtorEq,uB,uE,uL,uA,uM,uS,uN,uX,uO,vR,vD,vL,vK,vE,vA,vM,vT,vS]
    subst hX
    exact G.ok ⟨congrArg _ (by rw [eC,Nat.min_eq_left (by omega)] <;> omega),(k2.trans k3).pre (by simp (maxSteps := 2000000) (implicitDefEqProofs := false) (disch := first | omega | (simp only [SD.down,uA,uL] <;> omega) | fail) only [TQ.down,resE,oneV, ↓reduceIte,reduceCtorEq,uB,uE,uL,uA,uM,uS,uN,uX,uO,vR,vD,vL,vK,vE,vA,vM,vT,vS] <;> omega) (fun j hj => by simp (maxSteps := 2000000) (implicitDefEqProofs := false) (disch := first | omega | (simp only [SD.down,uA,uL] <;> omega) | fail) only [TQ.down,resE,oneV, ↓reduceIte,reduceCtorEq,uB,uE,uL,uA,uM,uS,uN,uX,uO,vR,vD,vL,vK,vE,vA,vM,vT,vS])⟩
set_option maxHeartbeats 1000000 in
theorem rhalf_ok (d : Nat) (h : Heap) (m r : Int) : G (callD env (d + 6) 59 [gA m r] h) fun v h' => v = .int .i64 (gHalf m r : Nat) /\ Keeps h h' := by
 refine G.gen fun Q hX => ?_
 have hC := gCap_le m r
 have ck := fun (d : Nat) (h : Heap) => rchk_ok d h m r
 unfold gA at ck ⊢
 cases hg : gOk m r with
 | false =>
  rw [hg] at ck
  rw [callD_run (E := env) [] (by kernel_rfl) Try.func59 rfl (by rw [Try.ntmps59]; simp) (by kernel_rfl)]; simp (maxSteps := 2000000) (implicitDefEqProofs := false) (disch := first | omega | (simp only [SD.down,uA,uL] <;> omega) | fail) only [Try.ntmps59,Try.results59,env_P,env_L,ck,cond_false,TQ.down,resE,oneV, ↓reduceIte,reduceCtorEq,uB,uE,uL,uA,uM,uS,uN,uX,uO,vR,vD,vL,vK,vE,vA,vM,vT,vS]
  subst hX
  exact G.ok ⟨by unfold gHalf; rw [hg]; rfl,(Keeps.refl h).post (by simp (maxSteps := 2000000) (implicitDefEqProofs := false) (disch := first | omega | (simp only [SD.down,uA,uL] <;> omega) | fail) only [TQ.down,resE,oneV, ↓reduceIte,reduceCtorEq,uB,uE,uL,uA,uM,uS,uN,uX,uO,vR,vD,vL,vK,vE,vA,vM,vT,vS] <;> omega) (fun j hj => by simp (maxSteps := 2000000) (implicitDefEqProofs := false) (disch := first | omega | (simp only [SD.down,uA,uL] <;> omega) | fail) only [TQ.down,resE,oneV, ↓reduceIte,reduceCtorEq,uB,uE,uL,uA,uM,uS,uN,uX,uO,vR,vD,vL,vK,vE,vA,vM,vT,vS])⟩
 | true =>
  rw [hg] at ck
  have eH : gHalf m r = 2 + (69 * gCap m r + 63) / 64 := by unfold gHalf; rw [if_pos hg]
  rw [callD_run (E := env) [] (by kernel_rfl) Try.func59 rfl (by rw [Try.ntmps59]; simp) (by kernel_rfl)]; simp (maxSteps := 2000000) (implicitDefEqProofs := false) (disch := first | omega | (simp only [SD.down,uA,uL] <;> omega) | fail) only [Try.ntmps59,Try.results59,env_P,env_L,ck,cond_true,TQ.down,resE,oneV, ↓reduceIte,reduceCtorEq,uB,uE,uL,uA,uM,uS,uN,uX,uO,vR,vD,vL,vK,vE,vA,vM,vT,vS]
  rw [run_loop]
  refine loop_ind (fun j σ hh => ∃ q : Nat,q + j = (69 * gCap m r + 63) / 64 /\ σ 1 = .ptr h.next 0 /\ σ 3 = .int .i64 (q : Int) /\ hh.get h.next = some (.cells [.int .i64 m, .int .i64 r] 0 false) /\ h.next < hh.next /\ Keeps h hh) ?_ ?_ ((69 * gCap m r + 63) / 64) _ _ _ (by simp; omega) ?_
  ·rintro mm σ hh ⟨q,hq,s1,s3,g0,gn,k⟩
   simp (maxSteps := 2000000) (implicitDefEqProofs := false) (disch := first | omega | (simp only [SD.down,uA,uL] <;> omega) | fail) only [run_it,s1,s3,g0,env_P,env_L,TQ.down,resE,oneV, ↓reduceIte,reduceCtorEq,uB,uE,uL,uA,uM,uS,uN,uX,uO,vR,vD,vL,vK,vE,vA,vM,vT,vS]
   first | refine G.call (rcap_ok d _ m r) ?_ | refine G.callC (rcap_ok d _ m r) ?_ | refine G.callL (rcap_ok d _ m r) ?_
   rintro v h1 ⟨rfl,k1⟩
   simp (maxSteps := 2000000) (implicitDefEqProofs := false) (disch := first | omega | (simp only [SD.down,uA,uL] <;> omega) | fail) only [run_it,s1,s3,g0,env_P,env_L,TQ.down,resE,oneV, ↓reduceIte,reduceCtorEq,uB,uE,uL,uA,uM,uS,uN,uX,uO,vR,vD,vL,vK,vE,vA,vM,vT,vS]
   subst hX
   exact G.ok ⟨congrArg _ (by rw [eH]; omega),k.trans k1⟩
  ·rintro j mm σ hh ⟨q,hq,s1,s3,g0,gn,k⟩ ih
   simp (maxSteps := 2000000) (implicitDefEqProofs := false) (disch := first | omega | (simp only [SD.down,uA,uL] <;> omega) | fail) only [run_it,s1,s3,g0,env_P,env_L,TQ.down,resE,oneV, ↓reduceIte,reduceCtorEq,uB,uE,uL,uA,uM,uS,uN,uX,uO,vR,vD,vL,vK,vE,vA,vM,vT,vS]
   first | refine G.call (rcap_ok d _ m r) ?_ | refine G.callC (rcap_ok d _ m r) ?_ | refine G.callL (rcap_ok d _ m r) ?_
   rintro v h1 ⟨rfl,k1⟩
   have n1 := k1.1
   simp (maxSteps := 2000000) (implicitDefEqProofs := false) (disch := first | omega | (simp only [SD.down,uA,uL] <;> omega) | fail) only [run_it,s1,s3,g0,env_P,env_L,TQ.down,resE,oneV, ↓reduceIte,reduceCtorEq,uB,uE,uL,uA,uM,uS,uN,uX,uO,vR,vD,vL,vK,vE,vA,vM,vT,vS]
   exact ih _ _ ⟨q + 1,by omega,by simp (maxSteps := 2000000) (implicitDefEqProofs := false) (disch := first | omega | (simp only [SD.down,uA,uL] <;> omega) | fail) only [s1,TQ.down,resE,oneV, ↓reduceIte,reduceCtorEq,uB,uE,uL,uA,uM,uS,uN,uX,uO,vR,vD,vL,vK,vE,vA,vM,vT,vS],by simp (maxSteps := 2000000) (implicitDefEqProofs := false) (disch := first | omega | (simp only [SD.down,uA,uL] <;> omega) | fail) only [s3,TQ.down,resE,oneV, ↓reduceIte,reduceCtorEq,uB,uE,uL,uA,uM,uS,uN,uX,uO,vR,vD,vL,vK,vE,vA,vM,vT,vS],k1.at gn g0,by omega,k.trans k1⟩
  ·exact ⟨0,by omega,by simp (maxSteps := 2000000) (implicitDefEqProofs := false) (disch := first | omega | (simp only [SD.down,uA,uL] <;> omega) | fail) only [TQ.down,resE,oneV, ↓reduceIte,reduceCtorEq,uB,uE,uL,uA,uM,uS,uN,uX,uO,vR,vD,vL,vK,vE,vA,vM,vT,vS],by simp (maxSteps := 2000000) (implicitDefEqProofs := false) (disch := first | omega | (simp only [SD.down,uA,uL] <;> omega) | fail) only [TQ.down,resE,oneV, ↓reduceIte,reduceCtorEq,uB,uE,uL,uA,uM,uS,uN,uX,uO,vR,vD,vL,vK,vE,vA,vM,vT,vS],by simp (maxSteps := 2000000) (implicitDefEqProofs := false) (disch := first | omega | (simp only [SD.down,uA,uL] <;> omega) | fail) only [TQ.down,resE,oneV, ↓reduceIte,reduceCtorEq,uB,uE,uL,uA,uM,uS,uN,uX,uO,vR,vD,vL,vK,vE,vA,vM,vT,vS],by simp (maxSteps := 2000000) (implicitDefEqProofs := false) (disch := first | omega | (simp only [SD.down,uA,uL] <;> omega) | fail) only [TQ.down,resE,oneV, ↓reduceIte,reduceCtorEq,uB,uE,uL,uA,uM,uS,uN,uX,uO,vR,vD,vL,vK,vE,vA,vM,vT,vS] <;> omega,(Keeps.refl h).post (by simp (maxSteps := 2000000) (implicitDefEqProofs := false) (disch := first | omega | (simp only [SD.down,uA,uL] <;> omega) | fail) only [TQ.down,resE,oneV, ↓reduceIte,reduceCtorEq,uB,uE,uL,uA,uM,uS,uN,uX,uO,vR,vD,vL,vK,vE,vA,vM,vT,vS] <;> omega) (fun j hj => by simp (maxSteps := 2000000) (implicitDefEqProofs := false) (disch := first | omega | (simp only [SD.down,uA,uL] <;> omega) | fail) only [TQ.down,resE,oneV, ↓reduceIte,reduceCtorEq,uB,uE,uL,uA,uM,uS,uN,uX,uO,vR,vD,vL,vK,vE,vA,vM,vT,vS])⟩
def gCnt (m r : Int) (region : Nat) : Nat := if region = 1 then 8 else if region = 2 then 2 * gHalf m r else if region = 3 then gNodes m r else r.toNat
theorem rcount_ok (d : Nat) (h : Heap) (m r : Int) (hg : gOk m r = true) (region : Nat) : G (callD env (d + 7) 40 [gA m r, .int .i64 (region : Int)] h) fun v h' => v = .int .i64 (gCnt m r region : Nat) /\ Keeps h h' := by
 refine G.gen fun Q hX => ?_
 have hH := gHalf_le m r
 obtain ⟨b1,b2,b3,b4⟩ := gOk_t hg
 unfold gA
 by_cases h1 : region = 1
 ·have e : gCnt m r region = 8 := if_pos h1
  rw [callD_run (E := env) [] (by kernel_rfl) Try.func40 rfl (by rw [Try.ntmps40]; simp) (by kernel_rfl)]; simp (maxSteps := 2000000) (implicitDefEqProofs := false) (disch := first | omega | (simp only [SD.down,uA,uL] <;> omega) | fail) only [Try.ntmps40,Try.results40,env_P,env_L,TQ.down,resE,oneV, ↓reduceIte,reduceCtorEq,uB,uE,uL,uA,uM,uS,uN,uX,uO,vR,vD,vL,vK,vE,vA,vM,vT,vS]
  subst hX
  exact G.ok ⟨by rw [e]; rfl,(Keeps.refl h).post (by simp (maxSteps := 2000000) (implicitDefEqProofs := false) (disch := first | omega | (simp only [SD.down,uA,uL] <;> omega) | fail) only [TQ.down,resE,oneV, ↓reduceIte,reduceCtorEq,uB,uE,uL,uA,uM,uS,uN,uX,uO,vR,vD,vL,vK,vE,vA,vM,vT,vS] <;> omega) (fun j hj => by simp (maxSteps := 2000000) (implicitDefEqProofs := false) (disch := first | omega | (simp only [SD.down,uA,uL] <;> omega) | fail) only [TQ.down,resE,oneV, ↓reduceIte,reduceCtorEq,uB,uE,uL,uA,uM,uS,uN,uX,uO,vR,vD,vL,vK,vE,vA,vM,vT,vS])⟩
 by_cases h2 : region = 2
 ·have e : gCnt m r region = 2 * gHalf m r := by unfold gCnt; rw [if_neg h1,if_pos h2]
  rw [callD_run (E := env) [] (by kernel_rfl) Try.func40 rfl (by rw [Try.ntmps40]; simp) (by kernel_rfl)]; simp (maxSteps := 2000000) (implicitDefEqProofs := false) (disch := first | omega | (simp only [SD.down,uA,uL] <;> omega) | fail) only [Try.ntmps40,Try.results40,env_P,env_L,TQ.down,resE,oneV, ↓reduceIte,reduceCtorEq,uB,uE,uL,uA,uM,uS,uN,uX,uO,vR,vD,vL,vK,vE,vA,vM,vT,vS]
  first | refine G.call (rhalf_ok d _ m r) ?_ | refine G.callC (rhalf_ok d _ m r) ?_ | refine G.callL (rhalf_ok d _ m r) ?_
  rintro v h3 ⟨rfl,k⟩
  simp (maxSteps := 2000000) (implicitDefEqProofs := false) (disch := first | omega | (simp only [SD.down,uA,uL] <;> omega) | fail) only [env_P,env_L,TQ.down,resE,oneV, ↓reduceIte,reduceCtorEq,uB,uE,uL,uA,uM,uS,uN,uX,uO,vR,vD,vL,vK,vE,vA,vM,vT,vS]
  subst hX
  exact G.ok ⟨congrArg _ (by rw [e]),k.pre (by simp (maxSteps := 2000000) (implicitDefEqProofs := false) (disch := first | omega | (simp only [SD.down,uA,uL] <;> omega) | fail) only [TQ.down,resE,oneV, ↓reduceIte,reduceCtorEq,uB,uE,uL,uA,uM,uS,uN,uX,uO,vR,vD,vL,vK,vE,vA,vM,vT,vS] <;> omega) (fun j hj => by simp (maxSteps := 2000000) (implicitDefEqProofs := false) (disch := first | omega | (simp only [SD.down,uA,uL] <;> omega) | fail) only [TQ.down,resE,oneV, ↓reduceIte,reduceCtorEq,uB,uE,uL,uA,uM,uS,uN,uX,uO,vR,vD,vL,vK,vE,vA,vM,vT,vS])⟩
 by_cases h3 : region = 3
 ·have e : gCnt m r region = gNodes m r := by unfold gCnt; rw [if_neg h1,if_neg h2,if_pos h3]
  rw [callD_run (E := env) [] (by kernel_rfl) Try.func40 rfl (by rw [Try.ntmps40]; simp) (by kernel_rfl)]; simp (maxSteps := 2000000) (implicitDefEqProofs := false) (disch := first | omega | (simp only [SD.down,uA,uL] <;> omega) | fail) only [Try.ntmps40,Try.results40,env_P,env_L,TQ.down,resE,oneV, ↓reduceIte,reduceCtorEq,uB,uE,uL,uA,uM,uS,uN,uX,uO,vR,vD,vL,vK,vE,vA,vM,vT,vS]
  first | refine G.call (rnodes_ok (d + 2) _ m r) ?_ | refine G.callC (rnodes_ok (d + 2) _ m r) ?_ | refine G.callL (rnodes_ok (d + 2) _ m r) ?_
  rintro v h3 ⟨rfl,k⟩
  simp (maxSteps := 2000000) (implicitDefEqProofs := false) (disch := first | omega | (simp only [SD.down,uA,uL] <;> omega) | fail) only [env_P,env_L,TQ.down,resE,oneV, ↓reduceIte,reduceCtorEq,uB,uE,uL,uA,uM,uS,uN,uX,uO,vR,vD,vL,vK,vE,vA,vM,vT,vS]
  subst hX
  exact G.ok ⟨by rw [e],k.pre (by simp (maxSteps := 2000000) (implicitDefEqProofs := false) (disch := first | omega | (simp only [SD.down,uA,uL] <;> omega) | fail) only [TQ.down,resE,oneV, ↓reduceIte,reduceCtorEq,uB,uE,uL,uA,uM,uS,uN,uX,uO,vR,vD,vL,vK,vE,vA,vM,vT,vS] <;> omega) (fun j hj => by simp (maxSteps := 2000000) (implicitDefEqProofs := false) (disch := first | omega | (simp only [SD.down,uA,uL] <;> omega) | fail) only [TQ.down,resE,oneV, ↓reduceIte,reduceCtorEq,uB,uE,uL,uA,uM,uS,uN,uX,uO,vR,vD,vL,vK,vE,vA,vM,vT,vS])⟩
 ·have e : gCnt m r region = r.toNat := by unfold gCnt; rw [if_neg h1,if_neg h2,if_neg h3]
  rw [callD_run (E := env) [] (by kernel_rfl) Try.func40 rfl (by rw [Try.ntmps40]; simp) (by kernel_rfl)]; simp (maxSteps := 2000000) (implicitDefEqProofs := false) (disch := first | omega | (simp only [SD.down,uA,uL] <;> omega) | fail) only [Try.ntmps40,Try.results40,env_P,env_L,TQ.down,resE,oneV, ↓reduceIte,reduceCtorEq,uB,uE,uL,uA,uM,uS,uN,uX,uO,vR,vD,vL,vK,vE,vA,vM,vT,vS]
  subst hX
  exact G.ok ⟨congrArg _ (by rw [e]; omega),(Keeps.refl h).post (by simp (maxSteps := 2000000) (implicitDefEqProofs := false) (disch := first | omega | (simp only [SD.down,uA,uL] <;> omega) | fail) only [TQ.down,resE,oneV, ↓reduceIte,reduceCtorEq,uB,uE,uL,uA,uM,uS,uN,uX,uO,vR,vD,vL,vK,vE,vA,vM,vT,vS] <;> omega) (fun j hj => by simp (maxSteps := 2000000) (implicitDefEqProofs := false) (disch := first | omega | (simp only [SD.down,uA,uL] <;> omega) | fail) only [TQ.down,resE,oneV, ↓reduceIte,reduceCtorEq,uB,uE,uL,uA,uM,uS,uN,uX,uO,vR,vD,vL,vK,vE,vA,vM,vT,vS])⟩
def gSec (m r : Int) : Nat := if gOk m r then 8 + 2 * gHalf m r + gNodes m r + r.toNat else 0
theorem rsec_ok (d : Nat) (h : Heap) (m r : Int) : G (callD env (d + 8) 18 [gA m r] h) fun v h' => v = .int .i64 (gSec m r : Nat) /\ Keeps h h' := by
 refine G.gen fun Q hX => ?_
 have hH := gHalf_le m r
 have hN := gNodes_le m r
 have ck := fun (d : Nat) (h : Heap) => rchk_ok d h m r
 unfold gA at ck ⊢
 cases hg : gOk m r with
 | false =>
  rw [hg] at ck
  rw [callD_run (E := env) [] (by kernel_rfl) Try.func18 rfl (by rw [Try.ntmps18]; simp) (by kernel_rfl)]; simp (maxSteps := 2000000) (implicitDefEqProofs := false) (disch := first | omega | (simp only [SD.down,uA,uL] <;> omega) | fail) only [Try.ntmps18,Try.results18,env_P,env_L,ck,cond_false,TQ.down,resE,oneV, ↓reduceIte,reduceCtorEq,uB,uE,uL,uA,uM,uS,uN,uX,uO,vR,vD,vL,vK,vE,vA,vM,vT,vS]
  subst hX
  exact G.ok ⟨by unfold gSec; rw [hg]; rfl,(Keeps.refl h).post (by simp (maxSteps := 2000000) (implicitDefEqProofs := false) (disch := first | omega | (simp only [SD.down,uA,uL] <;> omega) | fail) only [TQ.down,resE,oneV, ↓reduceIte,reduceCtorEq,uB,uE,uL,uA,uM,uS,uN,uX,uO,vR,vD,vL,vK,vE,vA,vM,vT,vS] <;> omega) (fun j hj => by simp (maxSteps := 2000000) (implicitDefEqProofs := false) (disch := first | omega | (simp only [SD.down,uA,uL] <;> omega) | fail) only [TQ.down,resE,oneV, ↓reduceIte,reduceCtorEq,uB,uE,uL,uA,uM,uS,uN,uX,uO,vR,vD,vL,vK,vE,vA,vM,vT,vS])⟩
 | true =>
  rw [hg] at ck
  obtain ⟨b1,b2,b3,b4⟩ := gOk_t hg
  have e1 : gCnt m r 1 = 8 := rfl
  have e2 : gCnt m r 2 = 2 * gHalf m r := rfl
  have e3 : gCnt m r 3 = gNodes m r := rfl
  have e4 : gCnt m r 4 = r.toNat := rfl
  have eS : gSec m r = 8 + 2 * gHalf m r + gNodes m r + r.toNat := if_pos hg
  rw [callD_run (E := env) [] (by kernel_rfl) Try.func18 rfl (by rw [Try.ntmps18]; simp) (by kernel_rfl)]; simp (maxSteps := 2000000) (implicitDefEqProofs := false) (disch := first | omega | (simp only [SD.down,uA,uL] <;> omega) | fail) only [Try.ntmps18,Try.results18,env_P,env_L,ck,cond_true,run_loop,run_it,TQ.down,resE,oneV, ↓reduceIte,reduceCtorEq,uB,uE,uL,uA,uM,uS,uN,uX,uO,vR,vD,vL,vK,vE,vA,vM,vT,vS]
  first | refine G.call (rcount_ok d _ m r hg 1) ?_ | refine G.callC (rcount_ok d _ m r hg 1) ?_ | refine G.callL (rcount_ok d _ m r hg 1) ?_
  rintro v h1 ⟨rfl,k1⟩
  have n1 := k1.1
  simp (maxSteps := 2000000) (implicitDefEqProofs := false) (disch := first | omega | (simp only [SD.down,uA,uL] <;> omega) | fail) only [TQ.down,resE,oneV, ↓reduceIte,reduceCtorEq,uB,uE,uL,uA,uM,uS,uN,uX,uO,vR,vD,vL,vK,vE,vA,vM,vT,vS] at n1
  have g1 : h1.get h.next = some (.cells [.int .i64 m, .int .i64 r] 0 false) := by rw [k1.2 _ (by simp (maxSteps := 2000000) (implicitDefEqProofs := false) (disch := first | omega | (simp only [SD.down,uA,uL] <;> omega) | fail) only [TQ.down,resE,oneV, ↓reduceIte,reduceCtorEq,uB,uE,uL,uA,uM,uS,uN,uX,uO,vR,vD,vL,vK,vE,vA,vM,vT,vS] <;> omega)]; simp (maxSteps := 2000000) (implicitDefEqProofs := false) (disch := first | omega | (simp only [SD.down,uA,uL] <;> omega) | fail) only [TQ.down,resE,oneV, ↓reduceIte,reduceCtorEq,uB,uE,uL,uA,uM,uS,uN,uX,uO,vR,vD,vL,vK,vE,vA,vM,vT,vS]
  rw [e1]
  simp (maxSteps := 2000000) (implicitDefEqProofs := false) (disch := first | omega | (simp only [SD.down,uA,uL] <;> omega) | fail) only [g1,run_it,env_P,env_L,TQ.down,resE,oneV, ↓reduceIte,reduceCtorEq,uB,uE,uL,uA,uM,uS,uN,uX,uO,vR,vD,vL,vK,vE,vA,vM,vT,vS]
  first | refine G.call (rcount_ok d _ m r hg 2) ?_ | refine G.callC (rcount_ok d _ m r hg 2) ?_ | refine G.callL (rcount_ok d _ m r hg 2) ?_
  rintro v h2 ⟨rfl,k2⟩
  have n2 := k2.1
  have g2 := k2.at (by omega) g1
  rw [e2]
  simp (maxSteps := 2000000) (implicitDefEqProofs := false) (disch := first | omega | (simp only [SD.down,uA,uL] <;> omega) | fail) only [g2,run_it,env_P,env_L,TQ.down,resE,oneV, ↓reduceIte,reduceCtorEq,uB,uE,uL,uA,uM,uS,uN,uX,uO,vR,vD,vL,vK,vE,vA,vM,vT,vS]
  first | refine G.call (rcount_ok d _ m r hg 3) ?_ | refine G.callC (rcount_ok d _ m r hg 3) ?_ | refine G.callL (rcount_ok d _ m r hg 3) ?_
  rintro v h3 ⟨rfl,k3⟩
  have n3 := k3.1
  have g3 := k3.at (by omega) g2
  rw [e3]
  simp (maxSteps := 2000000) (implicitDefEqProofs := false) (disch := first | omega | (simp only [SD.down,uA,uL] <;> omega) | fail) only [g3,run_it,env_P,env_L,TQ.down,resE,oneV, ↓reduceIte,reduceCtorEq,uB,uE,uL,uA,uM,uS,uN,uX,uO,vR,vD,vL,vK,vE,vA,vM,vT,vS]
  first | refine G.call (rcount_ok d _ m r hg 4) ?_ | refine G.callC (rcount_ok d _ m r hg 4) ?_ | refine G.callL (rcount_ok d _ m r hg 4) ?_
  rintro v h4 ⟨rfl,k4⟩
  rw [e4]
  simp (maxSteps := 2000000) (implicitDefEqProofs := false) (disch := first | omega | (simp only [SD.down,uA,uL] <;> omega) | fail) only [run_it,env_P,env_L,TQ.down,resE,oneV, ↓reduceIte,reduceCtorEq,uB,uE,uL,uA,uM,uS,uN,uX,uO,vR,vD,vL,vK,vE,vA,vM,vT,vS]
  subst hX
  exact G.ok ⟨congrArg _ (by rw [eS]),(((k1.trans k2).trans k3).trans k4).pre (by simp (maxSteps := 2000000) (implicitDefEqProofs := false) (disch := first | omega | (simp only [SD.down,uA,uL] <;> omega) | fail) only [TQ.down,resE,oneV, ↓reduceIte,reduceCtorEq,uB,uE,uL,uA,uM,uS,uN,uX,uO,vR,vD,vL,vK,vE,vA,vM,vT,vS] <;> omega) (fun j hj => by simp (maxSteps := 2000000) (implicitDefEqProofs := false) (disch := first | omega | (simp only [SD.down,uA,uL] <;> omega) | fail) only [TQ.down,resE,oneV, ↓reduceIte,reduceCtorEq,uB,uE,uL,uA,uM,uS,uN,uX,uO,vR,vD,vL,vK,vE,vA,vM,vT,vS])⟩
theorem small_ok1 (d : Nat) (h : Heap) : G (callD env (d + 9) 6 [] h) fun v h' => v = .tup [gA 4 1, .int .i64 (gSec 4 1 : Nat)] /\ Keeps h h' := by
 refine G.gen fun Q hX => ?_
 have g41 : ((List.replicate 2 (AV.int .i64 0)).set 0 (.int .i64 4)).set 1 (.int .i64 1) = [.int .i64 4, .int .i64 1] := rfl
 have ov41 : overE 0 [AV.int .i64 4, .int .i64 1] (List.replicate 2 (AV.int .i64 0)) = some [.int .i64 4, .int .i64 1] := rfl
 rw [callD_run (E := env) [(2, .fl [(0,0,1)])] (by kernel_rfl) Try.func6 rfl (by rw [Try.ntmps6]; simp) (by kernel_rfl)]; simp (maxSteps := 2000000) (implicitDefEqProofs := false) (disch := first | omega | (simp only [SD.down,uA,uL] <;> omega) | fail) only [Try.ntmps6,Try.results6,env_P,env_L,g41,ov41,TQ.down,resE,oneV, ↓reduceIte,reduceCtorEq,uB,uE,uL,uA,uM,uS,uN,uX,uO,vR,vD,vL,vK,vE,vA,vM,vT,vS]
 first | refine G.call (rsec_ok d _ 4 1) ?_ | refine G.callC (rsec_ok d _ 4 1) ?_ | refine G.callL (rsec_ok d _ 4 1) ?_
 rintro v h1 ⟨rfl,k1⟩
 have n1 := k1.1
 simp (maxSteps := 2000000) (implicitDefEqProofs := false) (disch := first | omega | (simp only [SD.down,uA,uL] <;> omega) | fail) only [TQ.down,resE,oneV, ↓reduceIte,reduceCtorEq,uB,uE,uL,uA,uM,uS,uN,uX,uO,vR,vD,vL,vK,vE,vA,vM,vT,vS] at n1
 have g0 : h1.get h.next = some (.cells (List.replicate 2 (.int .i64 0)) 0 false) := by rw [k1.2 _ (by simp (maxSteps := 2000000) (implicitDefEqProofs := false) (disch := first | omega | (simp only [SD.down,uA,uL] <;> omega) | fail) only [TQ.down,resE,oneV, ↓reduceIte,reduceCtorEq,uB,uE,uL,uA,uM,uS,uN,uX,uO,vR,vD,vL,vK,vE,vA,vM,vT,vS] <;> omega)]; simp (maxSteps := 2000000) (implicitDefEqProofs := false) (disch := first | omega | (simp only [SD.down,uA,uL] <;> omega) | fail) only [TQ.down,resE,oneV, ↓reduceIte,reduceCtorEq,uB,uE,uL,uA,uM,uS,uN,uX,uO,vR,vD,vL,vK,vE,vA,vM,vT,vS]
 have g1 : h1.get (h.next + 1) = some (.cells [.int .i64 4, .int .i64 1] 0 false) := by rw [k1.2 _ (by simp (maxSteps := 2000000) (implicitDefEqProofs := false) (disch := first | omega | (simp only [SD.down,uA,uL] <;> omega) | fail) only [TQ.down,resE,oneV, ↓reduceIte,reduceCtorEq,uB,uE,uL,uA,uM,uS,uN,uX,uO,vR,vD,vL,vK,vE,vA,vM,vT,vS] <;> omega)]; simp (maxSteps := 2000000) (implicitDefEqProofs := false) (disch := first | omega | (simp only [SD.down,uA,uL] <;> omega) | fail) only [TQ.down,resE,oneV, ↓reduceIte,reduceCtorEq,uB,uE,uL,uA,uM,uS,uN,uX,uO,vR,vD,vL,vK,vE,vA,vM,vT,vS]
 simp (maxSteps := 2000000) (implicitDefEqProofs := false) (disch := first | omega | (simp only [SD.down,uA,uL] <;> omega) | fail) only [g0,g1,sgA,ov41,env_P,env_L,TQ.down,resE,oneV, ↓reduceIte,reduceCtorEq,uB,uE,uL,uA,uM,uS,uN,uX,uO,vR,vD,vL,vK,vE,vA,vM,vT,vS]
 subst hX
 exact G.ok ⟨rfl,⟨by simp (maxSteps := 2000000) (implicitDefEqProofs := false) (disch := first | omega | (simp only [SD.down,uA,uL] <;> omega) | fail) only [TQ.down,resE,oneV, ↓reduceIte,reduceCtorEq,uB,uE,uL,uA,uM,uS,uN,uX,uO,vR,vD,vL,vK,vE,vA,vM,vT,vS] <;> omega,fun j hj => by
  simp (maxSteps := 2000000) (implicitDefEqProofs := false) (disch := first | omega | (simp only [SD.down,uA,uL] <;> omega) | fail) only [TQ.down,resE,oneV, ↓reduceIte,reduceCtorEq,uB,uE,uL,uA,uM,uS,uN,uX,uO,vR,vD,vL,vK,vE,vA,vM,vT,vS]
  rw [k1.2 _ (by simp (maxSteps := 2000000) (implicitDefEqProofs := false) (disch := first | omega | (simp only [SD.down,uA,uL] <;> omega) | fail) only [TQ.down,resE,oneV, ↓reduceIte,reduceCtorEq,uB,uE,uL,uA,uM,uS,uN,uX,uO,vR,vD,vL,vK,vE,vA,vM,vT,vS] <;> omega)]
  simp (maxSteps := 2000000) (implicitDefEqProofs := false) (disch := first | omega | (simp only [SD.down,uA,uL] <;> omega) | fail) only [TQ.down,resE,oneV, ↓reduceIte,reduceCtorEq,uB,uE,uL,uA,uM,uS,uN,uX,uO,vR,vD,vL,vK,vE,vA,vM,vT,vS]⟩⟩
theorem mkB {call : CallK} {ρ : Operand -> AV} {h : Heap} {dd : Option Tmp} {t : TypeId} {p : String} {a : Array Edge} {g : Option (Nat × Bool)} (l c : Operand) {n : Nat} (hl : ρ l = .int .i64 (n : Int)) (hc : ρ c = .int .i64 (n : Int)) (hn : n < 4096) : opE Try.prog call ρ ⟨dd, .makeSlice 33 l c,t,p,a,g⟩ h = some (.slice h.next 0 n n,h.new (.cells (B (List.replicate n 0)) 0 false)) := by
 have := opE_makeSlice (P := Try.prog) (call := call) (ρ := ρ) (h := h) (dd := dd) (t := t) (p := p) (a := a) (g := g) (s := 0) (ie := (Try.prog.info? 5).getD default) (z := b8 0) Try.underlying33 (by kernel_rfl) (by kernel_rfl) (by decide +kernel) (by kernel_rfl) rfl l c hl hc (Nat.le_refl n) hn
 rw [this]
 have e : repL n (b8 0).cells = B (List.replicate n 0) := by
  show repL n (List.replicate 1 (b8 0)) = _
  rw [repL_rep,Nat.mul_one,B_rep]
 rw [e]
def txt (c n : Nat) : List Nat := (List.range n).map fun i => c + i
theorem txt_len (c n : Nat) : (txt c n).length = n := by simp [txt]
theorem text_ok (d : Nat) (h : Heap) (c n : Nat) (hn : n < 4096) : G (callD env (d + 1) 13 [b8 c, .int .i64 (n : Int)] h) fun v h' => ByR h' v (txt c n) /\ (∀ K,blkA v = some K -> h.next <= K) /\ Keeps h h' := by
 refine G.gen fun Q hX => ?_
 rw [callD_run (E := env) [] (by kernel_rfl) Try.func13 rfl (by rw [Try.ntmps13]; simp) (by kernel_rfl)]; simp (maxSteps := 2000000) (implicitDefEqProofs := false) (disch := first | omega | (simp only [SD.down,uA,uL] <;> omega) | fail) only [Try.ntmps13,Try.results13,env_P,env_L,TQ.down,resE,oneV, ↓reduceIte,reduceCtorEq,uB,uE,uL,uA,uM,uS,uN,uX,uO,vR,vD,vL,vK,vE,vA,vM,vT,vS]
 rw [mkB (n := n) _ _ (by simp (maxSteps := 2000000) (implicitDefEqProofs := false) (disch := first | omega | (simp only [SD.down,uA,uL] <;> omega) | fail) only [TQ.down,resE,oneV, ↓reduceIte,reduceCtorEq,uB,uE,uL,uA,uM,uS,uN,uX,uO,vR,vD,vL,vK,vE,vA,vM,vT,vS]) (by simp (maxSteps := 2000000) (implicitDefEqProofs := false) (disch := first | omega | (simp only [SD.down,uA,uL] <;> omega) | fail) only [TQ.down,resE,oneV, ↓reduceIte,reduceCtorEq,uB,uE,uL,uA,uM,uS,uN,uX,uO,vR,vD,vL,vK,vE,vA,vM,vT,vS]) (by omega)]
 simp (maxSteps := 2000000) (implicitDefEqProofs := false) (disch := first | omega | (simp only [SD.down,uA,uL] <;> omega) | fail) only [env_P,env_L,TQ.down,resE,oneV, ↓reduceIte,reduceCtorEq,uB,uE,uL,uA,uM,uS,uN,uX,uO,vR,vD,vL,vK,vE,vA,vM,vT,vS]
 rw [run_loop]
 refine loop_ind (fun j σ hh => ∃ q : Nat,q + j = n /\ σ 0 = b8 c /\ σ 1 = .int .i64 (n : Int) /\ σ 5 = .slice h.next 0 n n /\ σ 6 = .int .i64 (q : Int) /\ hh.get h.next = some (.cells (B (txt c q ++ List.replicate (n - q) 0)) 0 false) /\ h.next < hh.next /\ Keeps h hh) ?_ ?_ n _ _ _ (by simp; omega) ?_
 ·rintro mm σ hh ⟨q,hq,s0,s1,s5,s6,g0,gn,k⟩
  obtain rfl : q = n := by omega
  simp (maxSteps := 2000000) (implicitDefEqProofs := false) (disch := first | omega | (simp only [SD.down,uA,uL] <;> omega) | fail) only [run_it,s0,s1,s5,s6,env_P,env_L,TQ.down,resE,oneV, ↓reduceIte,reduceCtorEq,uB,uE,uL,uA,uM,uS,uN,uX,uO,vR,vD,vL,vK,vE,vA,vM,vT,vS]
  rw [Nat.sub_self,List.replicate_zero,List.append_nil] at g0
  subst hX
  exact G.ok ⟨.inr (.inl ⟨h.next,0,q,_,_,_,by rw [txt_len],by rw [txt_len]; omega,gn,g0,by rw [txt_len]; exact cut_all (by rw [B_len,txt_len]; exact beq_self_eq_true _)⟩),(fun K x => by cases x; omega),k⟩
 ·rintro j mm σ hh ⟨q,hq,s0,s1,s5,s6,g0,gn,k⟩ ih
  have hqn : q < n := by omega
  have hl : (B (txt c q ++ List.replicate (n - q) 0)).length = n := by rw [B_len]; simp [txt_len]; omega
  simp (maxSteps := 2000000) (implicitDefEqProofs := false) (disch := first | omega | (simp only [SD.down,uA,uL] <;> omega) | fail) only [run_it,s0,s1,s5,s6,g0,hqn,hl,env_P,env_L,TQ.down,resE,oneV, ↓reduceIte,reduceCtorEq,uB,uE,uL,uA,uM,uS,uN,uX,uO,vR,vD,vL,vK,vE,vA,vM,vT,vS]
  have es : (txt c q ++ List.replicate (n - q) 0).set q (c + q) = txt c (q + 1) ++ List.replicate (n - (q + 1)) 0 := by
   rw [List.set_append_right _ _ (by rw [txt_len]; omega),txt_len,Nat.sub_self,show n - q = (n - (q + 1)) + 1 by omega,List.replicate_succ,List.set_cons_zero]
   simp [txt,List.range_succ]
  exact ih _ _ ⟨q + 1,by omega,by simp (maxSteps := 2000000) (implicitDefEqProofs := false) (disch := first | omega | (simp only [SD.down,uA,uL] <;> omega) | fail) only [s0,TQ.down,resE,oneV, ↓reduceIte,reduceCtorEq,uB,uE,uL,uA,uM,uS,uN,uX,uO,vR,vD,vL,vK,vE,vA,vM,vT,vS],by simp (maxSteps := 2000000) (implicitDefEqProofs := false) (disch := first | omega | (simp only [SD.down,uA,uL] <;> omega) | fail) only [s1,TQ.down,resE,oneV, ↓reduceIte,reduceCtorEq,uB,uE,uL,uA,uM,uS,uN,uX,uO,vR,vD,vL,vK,vE,vA,vM,vT,vS],by simp (maxSteps := 2000000) (implicitDefEqProofs := false) (disch := first | omega | (simp only [SD.down,uA,uL] <;> omega) | fail) only [s5,TQ.down,resE,oneV, ↓reduceIte,reduceCtorEq,uB,uE,uL,uA,uM,uS,uN,uX,uO,vR,vD,vL,vK,vE,vA,vM,vT,vS],by simp (maxSteps := 2000000) (implicitDefEqProofs := false) (disch := first | omega | (simp only [SD.down,uA,uL] <;> omega) | fail) only [TQ.down,resE,oneV, ↓reduceIte,reduceCtorEq,uB,uE,uL,uA,uM,uS,uN,uX,uO,vR,vD,vL,vK,vE,vA,vM,vT,vS],by rw [<- es]; simp (maxSteps := 2000000) (implicitDefEqProofs := false) (disch := first | omega | (simp only [SD.down,uA,uL] <;> omega) | fail) only [TQ.down,resE,oneV, ↓reduceIte,reduceCtorEq,uB,uE,uL,uA,uM,uS,uN,uX,uO,vR,vD,vL,vK,vE,vA,vM,vT,vS],by simp (maxSteps := 2000000) (implicitDefEqProofs := false) (disch := first | omega | (simp only [SD.down,uA,uL] <;> omega) | fail) only [TQ.down,resE,oneV, ↓reduceIte,reduceCtorEq,uB,uE,uL,uA,uM,uS,uN,uX,uO,vR,vD,vL,vK,vE,vA,vM,vT,vS] <;> omega,⟨by simp (maxSteps := 2000000) (implicitDefEqProofs := false) (disch := first | omega | (simp only [SD.down,uA,uL] <;> omega) | fail) only [TQ.down,resE,oneV, ↓reduceIte,reduceCtorEq,uB,uE,uL,uA,uM,uS,uN,uX,uO,vR,vD,vL,vK,vE,vA,vM,vT,vS]; exact k.1,fun j hj => by
   have : j ≠ h.next := by omega
   simp (maxSteps := 2000000) (implicitDefEqProofs := false) (disch := first | omega | (simp only [SD.down,uA,uL] <;> omega) | fail) only [TQ.down,resE,oneV, ↓reduceIte,reduceCtorEq,uB,uE,uL,uA,uM,uS,uN,uX,uO,vR,vD,vL,vK,vE,vA,vM,vT,vS]
   exact k.2 j hj⟩⟩
 ·exact ⟨0,by omega,by simp (maxSteps := 2000000) (implicitDefEqProofs := false) (disch := first | omega | (simp only [SD.down,uA,uL] <;> omega) | fail) only [TQ.down,resE,oneV, ↓reduceIte,reduceCtorEq,uB,uE,uL,uA,uM,uS,uN,uX,uO,vR,vD,vL,vK,vE,vA,vM,vT,vS],by simp (maxSteps := 2000000) (implicitDefEqProofs := false) (disch := first | omega | (simp only [SD.down,uA,uL] <;> omega) | fail) only [TQ.down,resE,oneV, ↓reduceIte,reduceCtorEq,uB,uE,uL,uA,uM,uS,uN,uX,uO,vR,vD,vL,vK,vE,vA,vM,vT,vS],by simp (maxSteps := 2000000) (implicitDefEqProofs := false) (disch := first | omega | (simp only [SD.down,uA,uL] <;> omega) | fail) only [TQ.down,resE,oneV, ↓reduceIte,reduceCtorEq,uB,uE,uL,uA,uM,uS,uN,uX,uO,vR,vD,vL,vK,vE,vA,vM,vT,vS],by simp (maxSteps := 2000000) (implicitDefEqProofs := false) (disch := first | omega | (simp only [SD.down,uA,uL] <;> omega) | fail) only [TQ.down,resE,oneV, ↓reduceIte,reduceCtorEq,uB,uE,uL,uA,uM,uS,uN,uX,uO,vR,vD,vL,vK,vE,vA,vM,vT,vS],by simp (maxSteps := 2000000) (implicitDefEqProofs := false) (disch := first | omega | (simp only [SD.down,uA,uL] <;> omega) | fail) only [TQ.down,resE,oneV, ↓reduceIte,reduceCtorEq,uB,uE,uL,uA,uM,uS,uN,uX,uO,vR,vD,vL,vK,vE,vA,vM,vT,vS]; simp [txt],by simp (maxSteps := 2000000) (implicitDefEqProofs := false) (disch := first | omega | (simp only [SD.down,uA,uL] <;> omega) | fail) only [TQ.down,resE,oneV, ↓reduceIte,reduceCtorEq,uB,uE,uL,uA,uM,uS,uN,uX,uO,vR,vD,vL,vK,vE,vA,vM,vT,vS] <;> omega,(Keeps.refl h).post (by simp (maxSteps := 2000000) (implicitDefEqProofs := false) (disch := first | omega | (simp only [SD.down,uA,uL] <;> omega) | fail) only [TQ.down,resE,oneV, ↓reduceIte,reduceCtorEq,uB,uE,uL,uA,uM,uS,uN,uX,uO,vR,vD,vL,vK,vE,vA,vM,vT,vS] <;> omega) (fun j hj => by simp (maxSteps := 2000000) (implicitDefEqProofs := false) (disch := first | omega | (simp only [SD.down,uA,uL] <;> omega) | fail) only [TQ.down,resE,oneV, ↓reduceIte,reduceCtorEq,uB,uE,uL,uA,uM,uS,uN,uX,uO,vR,vD,vL,vK,vE,vA,vM,vT,vS])⟩
end Go.Proofs.Ytlnepbkeiianmaa
