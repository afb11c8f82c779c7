/- Of this program, for all inputs: contracts. No condition but those in the theorems. -/
import Derived.Test.YtlnepbkeiianmaaLN
import Derived.Test.YtlnepbkeiianmaaLP
namespace Go.Proofs.Ytlnepbkeiianmaa
open Go Go.Ai Go.Aw Go.Proofs
open Nat renaming reduceBEq -> uB,reduceEqDiff -> uE,reduceLT -> uL,reduceAdd -> uA,reduceMul -> uM,reduceSub -> uS,reduceAnd -> uN,reduceXor -> uX,reduceOr -> uO
open Int renaming reduceMod -> vR,reduceDiv -> vD,reduceLT -> vL,reduceLE -> vK,reduceEq -> vE,reduceAdd -> vA,reduceMul -> vM,reduceToNat -> vT,reduceSub -> vS
set_option linter.unusedSimpArgs false
set_option linter.unusedVariables false
set_option maxRecDepth 10000
/-! buses that are none -/
def NoB (h : Heap) (v : AV) : Prop := v = .nilptr \/ ∃ k,v = .ptr k 0 /\ k < h.next /\ h.get k = some (.cells [.nilslice, .nilptr, .nilslice, .bool false, .nilslice] 0 false)
theorem NoB.keep {h h' : Heap} {v : AV} (x : NoB h v) (k : Keeps h h') : NoB h' v := by
 rcases x with x | ⟨q,rfl,h1,h2⟩
 ·exact .inl x
 ·exact .inr ⟨q,rfl,Nat.lt_of_lt_of_le h1 k.1,k.at h1 h2⟩
theorem members_no (d : Nat) (h : Heap) (v : AV) (x : NoB h v) : callD env (d + 3) 48 [v] h = some (.int .i64 0,h) := by
 rcases x with rfl | ⟨k,rfl,h1,h2⟩
 ·rw [callD_run (E := env) [] (by kernel_rfl) Try.func48 rfl (by rw [Try.ntmps48]; simp) (by kernel_rfl)]; simp (maxSteps := 2000000) (implicitDefEqProofs := false) (disch := first | omega | (simp only [SD.down,uA,uL] <;> omega) | fail) only [Try.ntmps48,Try.results48,env_P,env_L,in36,Try.f36,TQ.down,resE,oneV, ↓reduceIte,reduceCtorEq,uB,uE,uL,uA,uM,uS,uN,uX,uO,vR,vD,vL,vK,vE,vA,vM,vT,vS]
 ·rw [callD_run (E := env) [] (by kernel_rfl) Try.func48 rfl (by rw [Try.ntmps48]; simp) (by kernel_rfl)]; simp (maxSteps := 2000000) (implicitDefEqProofs := false) (disch := first | omega | (simp only [SD.down,uA,uL] <;> omega) | fail) only [Try.ntmps48,Try.results48,env_P,env_L,in36,Try.f36,h2,TQ.down,resE,oneV, ↓reduceIte,reduceCtorEq,uB,uE,uL,uA,uM,uS,uN,uX,uO,vR,vD,vL,vK,vE,vA,vM,vT,vS]
theorem check_no (d : Nat) (h : Heap) (v : AV) (x : NoB h v) (m r hf : Int) : G (callD env (d + 4) 24 [.agg [v, .int .i64 m, .int .i64 r, .int .i64 hf]] h) fun v h' => v = .int .i64 1 /\ Keeps h h' := by
 refine G.gen fun Q hX => ?_
 have hv : v = .nilptr \/ ∃ k,v = .ptr k 0 := by
  rcases x with rfl | ⟨k,rfl,_⟩
  ·exact .inl rfl
  ·exact .inr ⟨k,rfl⟩
 have mn := members_no d (h.new (Blk.cells [v, .int .i64 m, .int .i64 r, .int .i64 hf] 0 false)) v (x.keep ((Keeps.refl h).post (by simp (maxSteps := 2000000) (implicitDefEqProofs := false) (disch := first | omega | (simp only [SD.down,uA,uL] <;> omega) | fail) only [TQ.down,resE,oneV, ↓reduceIte,reduceCtorEq,uB,uE,uL,uA,uM,uS,uN,uX,uO,vR,vD,vL,vK,vE,vA,vM,vT,vS] <;> omega) (fun j hj => by simp (maxSteps := 2000000) (implicitDefEqProofs := false) (disch := first | omega | (simp only [SD.down,uA,uL] <;> omega) | fail) only [TQ.down,resE,oneV, ↓reduceIte,reduceCtorEq,uB,uE,uL,uA,uM,uS,uN,uX,uO,vR,vD,vL,vK,vE,vA,vM,vT,vS])))
 rcases hv with rfl | ⟨k,rfl⟩
 ·rw [callD_run (E := env) [(3, .fl [(7,1,2)])] (by kernel_rfl) Try.func24 rfl (by rw [Try.ntmps24]; simp) (by kernel_rfl)]; simp (maxSteps := 2000000) (implicitDefEqProofs := false) (disch := first | omega | (simp only [SD.down,uA,uL] <;> omega) | fail) only [Try.ntmps24,Try.results24,env_P,env_L,TQ.down,resE,oneV, ↓reduceIte,reduceCtorEq,uB,uE,uL,uA,uM,uS,uN,uX,uO,vR,vD,vL,vK,vE,vA,vM,vT,vS]
  subst hX
  exact G.ok ⟨rfl,(Keeps.refl h).post (by simp (maxSteps := 2000000) (implicitDefEqProofs := false) (disch := first | omega | (simp only [SD.down,uA,uL] <;> omega) | fail) only [TQ.down,resE,oneV, ↓reduceIte,reduceCtorEq,uB,uE,uL,uA,uM,uS,uN,uX,uO,vR,vD,vL,vK,vE,vA,vM,vT,vS] <;> omega) (fun j hj => by simp (maxSteps := 2000000) (implicitDefEqProofs := false) (disch := first | omega | (simp only [SD.down,uA,uL] <;> omega) | fail) only [TQ.down,resE,oneV, ↓reduceIte,reduceCtorEq,uB,uE,uL,uA,uM,uS,uN,uX,uO,vR,vD,vL,vK,vE,vA,vM,vT,vS])⟩
 ·rw [callD_run (E := env) [(3, .fl [(7,1,2)])] (by kernel_rfl) Try.func24 rfl (by rw [Try.ntmps24]; simp) (by kernel_rfl)]; simp (maxSteps := 2000000) (implicitDefEqProofs := false) (disch := first | omega | (simp only [SD.down,uA,uL] <;> omega) | fail) only [Try.ntmps24,Try.results24,env_P,env_L,mn,TQ.down,resE,oneV, ↓reduceIte,reduceCtorEq,uB,uE,uL,uA,uM,uS,uN,uX,uO,vR,vD,vL,vK,vE,vA,vM,vT,vS]
  subst hX
  exact G.ok ⟨rfl,(Keeps.refl h).post (by simp (maxSteps := 2000000) (implicitDefEqProofs := false) (disch := first | omega | (simp only [SD.down,uA,uL] <;> omega) | fail) only [TQ.down,resE,oneV, ↓reduceIte,reduceCtorEq,uB,uE,uL,uA,uM,uS,uN,uX,uO,vR,vD,vL,vK,vE,vA,vM,vT,vS] <;> omega) (fun j hj => by simp (maxSteps := 2000000) (implicitDefEqProofs := false) (disch := first | omega | (simp only [SD.down,uA,uL] <;> omega) | fail) only [TQ.down,resE,oneV, ↓reduceIte,reduceCtorEq,uB,uE,uL,uA,uM,uS,uN,uX,uO,vR,vD,vL,vK,vE,vA,vM,vT,vS])⟩
theorem member_no (d : Nat) (h : Heap) (v : AV) (x : NoB h v) (m r hf mem : Int) : G (callD env (d + 5) 28 [.agg [v, .int .i64 m, .int .i64 r, .int .i64 hf], .int .i64 mem] h) fun v h' => v = .int .i64 1 /\ Keeps h h' := by
 refine G.gen fun Q hX => ?_
 have hv : v = .nilptr \/ ∃ k,v = .ptr k 0 := by
  rcases x with rfl | ⟨k,rfl,_⟩
  ·exact .inl rfl
  ·exact .inr ⟨k,rfl⟩
 rcases hv with rfl | ⟨k,rfl⟩
 ·rw [callD_run (E := env) [] (by kernel_rfl) Try.func28 rfl (by rw [Try.ntmps28]; simp) (by kernel_rfl)]; simp (maxSteps := 2000000) (implicitDefEqProofs := false) (disch := first | omega | (simp only [SD.down,uA,uL] <;> omega) | fail) only [Try.ntmps28,Try.results28,env_P,env_L,TQ.down,resE,oneV, ↓reduceIte,reduceCtorEq,uB,uE,uL,uA,uM,uS,uN,uX,uO,vR,vD,vL,vK,vE,vA,vM,vT,vS]
  first | refine G.call (check_no d _ _ (x.keep ((Keeps.refl h).post (by simp (maxSteps := 2000000) (implicitDefEqProofs := false) (disch := first | omega | (simp only [SD.down,uA,uL] <;> omega) | fail) only [TQ.down,resE,oneV, ↓reduceIte,reduceCtorEq,uB,uE,uL,uA,uM,uS,uN,uX,uO,vR,vD,vL,vK,vE,vA,vM,vT,vS] <;> omega) (fun j hj => by simp (maxSteps := 2000000) (implicitDefEqProofs := false) (disch := first | omega | (simp only [SD.down,uA,uL] <;> omega) | fail) only [TQ.down,resE,oneV, ↓reduceIte,reduceCtorEq,uB,uE,uL,uA,uM,uS,uN,uX,uO,vR,vD,vL,vK,vE,vA,vM,vT,vS]))) m r hf) ?_ | refine G.callC (check_no d _ _ (x.keep ((Keeps.refl h).post (by simp (maxSteps := 2000000) (implicitDefEqProofs := false) (disch := first | omega | (simp only [SD.down,uA,uL] <;> omega) | fail) only [TQ.down,resE,oneV, ↓reduceIte,reduceCtorEq,uB,uE,uL,uA,uM,uS,uN,uX,uO,vR,vD,vL,vK,vE,vA,vM,vT,vS] <;> omega) (fun j hj => by simp (maxSteps := 2000000) (implicitDefEqProofs := false) (disch := first | omega | (simp only [SD.down,uA,uL] <;> omega) | fail) only [TQ.down,resE,oneV, ↓reduceIte,reduceCtorEq,uB,uE,uL,uA,uM,uS,uN,uX,uO,vR,vD,vL,vK,vE,vA,vM,vT,vS]))) m r hf) ?_ | refine G.callL (check_no d _ _ (x.keep ((Keeps.refl h).post (by simp (maxSteps := 2000000) (implicitDefEqProofs := false) (disch := first | omega | (simp only [SD.down,uA,uL] <;> omega) | fail) only [TQ.down,resE,oneV, ↓reduceIte,reduceCtorEq,uB,uE,uL,uA,uM,uS,uN,uX,uO,vR,vD,vL,vK,vE,vA,vM,vT,vS] <;> omega) (fun j hj => by simp (maxSteps := 2000000) (implicitDefEqProofs := false) (disch := first | omega | (simp only [SD.down,uA,uL] <;> omega) | fail) only [TQ.down,resE,oneV, ↓reduceIte,reduceCtorEq,uB,uE,uL,uA,uM,uS,uN,uX,uO,vR,vD,vL,vK,vE,vA,vM,vT,vS]))) m r hf) ?_
  rintro v h1 ⟨rfl,k1⟩
  have n1 := k1.1
  simp (maxSteps := 2000000) (implicitDefEqProofs := false) (disch := first | omega | (simp only [SD.down,uA,uL] <;> omega) | fail) only [TQ.down,resE,oneV, ↓reduceIte,reduceCtorEq,uB,uE,uL,uA,uM,uS,uN,uX,uO,vR,vD,vL,vK,vE,vA,vM,vT,vS] at n1
  simp (maxSteps := 2000000) (implicitDefEqProofs := false) (disch := first | omega | (simp only [SD.down,uA,uL] <;> omega) | fail) only [env_P,env_L,TQ.down,resE,oneV, ↓reduceIte,reduceCtorEq,uB,uE,uL,uA,uM,uS,uN,uX,uO,vR,vD,vL,vK,vE,vA,vM,vT,vS]
  subst hX
  exact G.ok ⟨rfl,k1.pre (by simp (maxSteps := 2000000) (implicitDefEqProofs := false) (disch := first | omega | (simp only [SD.down,uA,uL] <;> omega) | fail) only [TQ.down,resE,oneV, ↓reduceIte,reduceCtorEq,uB,uE,uL,uA,uM,uS,uN,uX,uO,vR,vD,vL,vK,vE,vA,vM,vT,vS] <;> omega) (fun j hj => by simp (maxSteps := 2000000) (implicitDefEqProofs := false) (disch := first | omega | (simp only [SD.down,uA,uL] <;> omega) | fail) only [TQ.down,resE,oneV, ↓reduceIte,reduceCtorEq,uB,uE,uL,uA,uM,uS,uN,uX,uO,vR,vD,vL,vK,vE,vA,vM,vT,vS])⟩
 ·rw [callD_run (E := env) [] (by kernel_rfl) Try.func28 rfl (by rw [Try.ntmps28]; simp) (by kernel_rfl)]; simp (maxSteps := 2000000) (implicitDefEqProofs := false) (disch := first | omega | (simp only [SD.down,uA,uL] <;> omega) | fail) only [Try.ntmps28,Try.results28,env_P,env_L,TQ.down,resE,oneV, ↓reduceIte,reduceCtorEq,uB,uE,uL,uA,uM,uS,uN,uX,uO,vR,vD,vL,vK,vE,vA,vM,vT,vS]
  first | refine G.call (check_no d _ _ (x.keep ((Keeps.refl h).post (by simp (maxSteps := 2000000) (implicitDefEqProofs := false) (disch := first | omega | (simp only [SD.down,uA,uL] <;> omega) | fail) only [TQ.down,resE,oneV, ↓reduceIte,reduceCtorEq,uB,uE,uL,uA,uM,uS,uN,uX,uO,vR,vD,vL,vK,vE,vA,vM,vT,vS] <;> omega) (fun j hj => by simp (maxSteps := 2000000) (implicitDefEqProofs := false) (disch := first | omega | (simp only [SD.down,uA,uL] <;> omega) | fail) only [TQ.down,resE,oneV, ↓reduceIte,reduceCtorEq,uB,uE,uL,uA,uM,uS,uN,uX,uO,vR,vD,vL,vK,vE,vA,vM,vT,vS]))) m r hf) ?_ | refine G.callC (check_no d _ _ (x.keep ((Keeps.refl h).post (by simp (maxSteps := 2000000) (implicitDefEqProofs := false) (disch := first | omega | (simp only [SD.down,uA,uL] <;> omega) | fail) only [TQ.down,resE,oneV, ↓reduceIte,reduceCtorEq,uB,uE,uL,uA,uM,uS,uN,uX,uO,vR,vD,vL,vK,vE,vA,vM,vT,vS] <;> omega) (fun j hj => by simp (maxSteps := 2000000) (implicitDefEqProofs := false) (disch := first | omega | (simp only [SD.down,uA,uL] <;> omega) | fail) only [TQ.down,resE,oneV, ↓reduceIte,reduceCtorEq,uB,uE,uL,uA,uM,uS,uN,uX,uO,vR,vD,vL,vK,vE,vA,vM,vT,vS]))) m r hf) ?_ | refine G.callL (check_no d _ _ (x.keep ((Keeps.refl h).post (by simp (maxSteps := 2000000) (implicitDefEqProofs := false) (disch := first | omega | (simp only [SD.down,uA,uL] <;> omega) | fail) only [TQ.down,resE,oneV, ↓reduceIte,reduceCtorEq,uB,uE,uL,uA,uM,uS,uN,uX,uO,vR,vD,vL,vK,vE,vA,vM,vT,vS] <;> omega) (fun j hj => by simp (maxSteps := 2000000) (implicitDefEqProofs := false) (disch := first | omega | (simp only [SD.down,uA,uL] <;> omega) | fail) only [TQ.down,resE,oneV, ↓reduceIte,reduceCtorEq,uB,uE,uL,uA,uM,uS,uN,uX,uO,vR,vD,vL,vK,vE,vA,vM,vT,vS]))) m r hf) ?_
  rintro v h1 ⟨rfl,k1⟩
  have n1 := k1.1
  simp (maxSteps := 2000000) (implicitDefEqProofs := false) (disch := first | omega | (simp only [SD.down,uA,uL] <;> omega) | fail) only [TQ.down,resE,oneV, ↓reduceIte,reduceCtorEq,uB,uE,uL,uA,uM,uS,uN,uX,uO,vR,vD,vL,vK,vE,vA,vM,vT,vS] at n1
  simp (maxSteps := 2000000) (implicitDefEqProofs := false) (disch := first | omega | (simp only [SD.down,uA,uL] <;> omega) | fail) only [env_P,env_L,TQ.down,resE,oneV, ↓reduceIte,reduceCtorEq,uB,uE,uL,uA,uM,uS,uN,uX,uO,vR,vD,vL,vK,vE,vA,vM,vT,vS]
  subst hX
  exact G.ok ⟨rfl,k1.pre (by simp (maxSteps := 2000000) (implicitDefEqProofs := false) (disch := first | omega | (simp only [SD.down,uA,uL] <;> omega) | fail) only [TQ.down,resE,oneV, ↓reduceIte,reduceCtorEq,uB,uE,uL,uA,uM,uS,uN,uX,uO,vR,vD,vL,vK,vE,vA,vM,vT,vS] <;> omega) (fun j hj => by simp (maxSteps := 2000000) (implicitDefEqProofs := false) (disch := first | omega | (simp only [SD.down,uA,uL] <;> omega) | fail) only [TQ.down,resE,oneV, ↓reduceIte,reduceCtorEq,uB,uE,uL,uA,uM,uS,uN,uX,uO,vR,vD,vL,vK,vE,vA,vM,vT,vS])⟩
theorem put_no (d : Nat) (h : Heap) (v : AV) (x : NoB h v) (m r hf : Int) (rv bv : AV) (root body : List Nat) (hr : ByR h rv root) (hb : ByR h bv body) : G (callD env (d + 13) 8 [v,gA m r, .int .i64 hf,rv,bv] h) fun v h' => v = .tup [.nilslice, .int .i64 1] /\ Keeps h h' := by
 refine G.gen fun Q hX => ?_
 obtain ⟨ro,rs,rl⟩ := hr.ok
 obtain ⟨bo,bs,bl⟩ := hb.ok
 have hv : v = .nilptr \/ ∃ k,v = .ptr k 0 := by
  rcases x with rfl | ⟨k,rfl,_⟩
  ·exact .inl rfl
  ·exact .inr ⟨k,rfl⟩
 unfold gA
 rcases hv with rfl | ⟨k,rfl⟩
 ·rw [callD_run (E := env) [] (by kernel_rfl) Try.func8 rfl (by rw [Try.ntmps8]; simp) (by kernel_rfl)]; simp (maxSteps := 2000000) (implicitDefEqProofs := false) (disch := first | omega | (simp only [SD.down,uA,uL] <;> omega) | fail) only [Try.ntmps8,Try.results8,env_P,env_L,ro,rs,bo,bs,bldA,bldB,TQ.down,resE,oneV, ↓reduceIte,reduceCtorEq,uB,uE,uL,uA,uM,uS,uN,uX,uO,vR,vD,vL,vK,vE,vA,vM,vT,vS]
  first | refine G.call (check_no (d + 8) _ _ (x.keep ((Keeps.refl h).post (by simp (maxSteps := 2000000) (implicitDefEqProofs := false) (disch := first | omega | (simp only [SD.down,uA,uL] <;> omega) | fail) only [TQ.down,resE,oneV, ↓reduceIte,reduceCtorEq,uB,uE,uL,uA,uM,uS,uN,uX,uO,vR,vD,vL,vK,vE,vA,vM,vT,vS] <;> omega) (fun j hj => by simp (maxSteps := 2000000) (implicitDefEqProofs := false) (disch := first | omega | (simp only [SD.down,uA,uL] <;> omega) | fail) only [TQ.down,resE,oneV, ↓reduceIte,reduceCtorEq,uB,uE,uL,uA,uM,uS,uN,uX,uO,vR,vD,vL,vK,vE,vA,vM,vT,vS]))) m r hf) ?_ | refine G.callC (check_no (d + 8) _ _ (x.keep ((Keeps.refl h).post (by simp (maxSteps := 2000000) (implicitDefEqProofs := false) (disch := first | omega | (simp only [SD.down,uA,uL] <;> omega) | fail) only [TQ.down,resE,oneV, ↓reduceIte,reduceCtorEq,uB,uE,uL,uA,uM,uS,uN,uX,uO,vR,vD,vL,vK,vE,vA,vM,vT,vS] <;> omega) (fun j hj => by simp (maxSteps := 2000000) (implicitDefEqProofs := false) (disch := first | omega | (simp only [SD.down,uA,uL] <;> omega) | fail) only [TQ.down,resE,oneV, ↓reduceIte,reduceCtorEq,uB,uE,uL,uA,uM,uS,uN,uX,uO,vR,vD,vL,vK,vE,vA,vM,vT,vS]))) m r hf) ?_ | refine G.callL (check_no (d + 8) _ _ (x.keep ((Keeps.refl h).post (by simp (maxSteps := 2000000) (implicitDefEqProofs := false) (disch := first | omega | (simp only [SD.down,uA,uL] <;> omega) | fail) only [TQ.down,resE,oneV, ↓reduceIte,reduceCtorEq,uB,uE,uL,uA,uM,uS,uN,uX,uO,vR,vD,vL,vK,vE,vA,vM,vT,vS] <;> omega) (fun j hj => by simp (maxSteps := 2000000) (implicitDefEqProofs := false) (disch := first | omega | (simp only [SD.down,uA,uL] <;> omega) | fail) only [TQ.down,resE,oneV, ↓reduceIte,reduceCtorEq,uB,uE,uL,uA,uM,uS,uN,uX,uO,vR,vD,vL,vK,vE,vA,vM,vT,vS]))) m r hf) ?_
  rintro v h1 ⟨rfl,k1⟩
  have n1 := k1.1
  simp (maxSteps := 2000000) (implicitDefEqProofs := false) (disch := first | omega | (simp only [SD.down,uA,uL] <;> omega) | fail) only [TQ.down,resE,oneV, ↓reduceIte,reduceCtorEq,uB,uE,uL,uA,uM,uS,uN,uX,uO,vR,vD,vL,vK,vE,vA,vM,vT,vS] at n1
  simp (maxSteps := 2000000) (implicitDefEqProofs := false) (disch := first | omega | (simp only [SD.down,uA,uL] <;> omega) | fail) only [env_P,env_L,TQ.down,resE,oneV, ↓reduceIte,reduceCtorEq,uB,uE,uL,uA,uM,uS,uN,uX,uO,vR,vD,vL,vK,vE,vA,vM,vT,vS]
  subst hX
  exact G.ok ⟨rfl,k1.pre (by simp (maxSteps := 2000000) (implicitDefEqProofs := false) (disch := first | omega | (simp only [SD.down,uA,uL] <;> omega) | fail) only [TQ.down,resE,oneV, ↓reduceIte,reduceCtorEq,uB,uE,uL,uA,uM,uS,uN,uX,uO,vR,vD,vL,vK,vE,vA,vM,vT,vS] <;> omega) (fun j hj => by simp (maxSteps := 2000000) (implicitDefEqProofs := false) (disch := first | omega | (simp only [SD.down,uA,uL] <;> omega) | fail) only [TQ.down,resE,oneV, ↓reduceIte,reduceCtorEq,uB,uE,uL,uA,uM,uS,uN,uX,uO,vR,vD,vL,vK,vE,vA,vM,vT,vS])⟩
 ·rw [callD_run (E := env) [] (by kernel_rfl) Try.func8 rfl (by rw [Try.ntmps8]; simp) (by kernel_rfl)]; simp (maxSteps := 2000000) (implicitDefEqProofs := false) (disch := first | omega | (simp only [SD.down,uA,uL] <;> omega) | fail) only [Try.ntmps8,Try.results8,env_P,env_L,ro,rs,bo,bs,bldA,bldB,TQ.down,resE,oneV, ↓reduceIte,reduceCtorEq,uB,uE,uL,uA,uM,uS,uN,uX,uO,vR,vD,vL,vK,vE,vA,vM,vT,vS]
  first | refine G.call (check_no (d + 8) _ _ (x.keep ((Keeps.refl h).post (by simp (maxSteps := 2000000) (implicitDefEqProofs := false) (disch := first | omega | (simp only [SD.down,uA,uL] <;> omega) | fail) only [TQ.down,resE,oneV, ↓reduceIte,reduceCtorEq,uB,uE,uL,uA,uM,uS,uN,uX,uO,vR,vD,vL,vK,vE,vA,vM,vT,vS] <;> omega) (fun j hj => by simp (maxSteps := 2000000) (implicitDefEqProofs := false) (disch := first | omega | (simp only [SD.down,uA,uL] <;> omega) | fail) only [TQ.down,resE,oneV, ↓reduceIte,reduceCtorEq,uB,uE,uL,uA,uM,uS,uN,uX,uO,vR,vD,vL,vK,vE,vA,vM,vT,vS]))) m r hf) ?_ | refine G.callC (check_no (d + 8) _ _ (x.keep ((Keeps.refl h).post (by simp (maxSteps := 2000000) (implicitDefEqProofs := false) (disch := first | omega | (simp only [SD.down,uA,uL] <;> omega) | fail) only [TQ.down,resE,oneV, ↓reduceIte,reduceCtorEq,uB,uE,uL,uA,uM,uS,uN,uX,uO,vR,vD,vL,vK,vE,vA,vM,vT,vS] <;> omega) (fun j hj => by simp (maxSteps := 2000000) (implicitDefEqProofs := false) (disch := first | omega | (simp only [SD.down,uA,uL] <;> omega) | fail) only [TQ.down,resE,oneV, ↓reduceIte,reduceCtorEq,uB,uE,uL,uA,uM,uS,uN,uX,uO,vR,vD,vL,vK,vE,vA,vM,vT,vS]))) m r hf) ?_ | refine G.callL (check_no (d + 8) _ _ (x.keep ((Keeps.refl h).post (by simp (maxSteps := 2000000) (implicitDefEqProofs := false) (disch := first | omega | (simp only [SD.down,uA,uL] <;> omega) | fail) only [TQ.down,resE,oneV, ↓reduceIte,reduceCtorEq,uB,uE,uL,uA,uM,uS,uN,uX,uO,vR,vD,vL,vK,vE,vA,vM,vT,vS] <;> omega) (fun j hj => by simp (maxSteps := 2000000) (implicitDefEqProofs := false) (disch := first | omega | (simp only [SD.down,uA,uL] <;> omega) | fail) only [TQ.down,resE,oneV, ↓reduceIte,reduceCtorEq,uB,uE,uL,uA,uM,uS,uN,uX,uO,vR,vD,vL,vK,vE,vA,vM,vT,vS]))) m r hf) ?_
  rintro v h1 ⟨rfl,k1⟩
  have n1 := k1.1
  simp (maxSteps := 2000000) (implicitDefEqProofs := false) (disch := first | omega | (simp only [SD.down,uA,uL] <;> omega) | fail) only [TQ.down,resE,oneV, ↓reduceIte,reduceCtorEq,uB,uE,uL,uA,uM,uS,uN,uX,uO,vR,vD,vL,vK,vE,vA,vM,vT,vS] at n1
  simp (maxSteps := 2000000) (implicitDefEqProofs := false) (disch := first | omega | (simp only [SD.down,uA,uL] <;> omega) | fail) only [env_P,env_L,TQ.down,resE,oneV, ↓reduceIte,reduceCtorEq,uB,uE,uL,uA,uM,uS,uN,uX,uO,vR,vD,vL,vK,vE,vA,vM,vT,vS]
  subst hX
  exact G.ok ⟨rfl,k1.pre (by simp (maxSteps := 2000000) (implicitDefEqProofs := false) (disch := first | omega | (simp only [SD.down,uA,uL] <;> omega) | fail) only [TQ.down,resE,oneV, ↓reduceIte,reduceCtorEq,uB,uE,uL,uA,uM,uS,uN,uX,uO,vR,vD,vL,vK,vE,vA,vM,vT,vS] <;> omega) (fun j hj => by simp (maxSteps := 2000000) (implicitDefEqProofs := false) (disch := first | omega | (simp only [SD.down,uA,uL] <;> omega) | fail) only [TQ.down,resE,oneV, ↓reduceIte,reduceCtorEq,uB,uE,uL,uA,uM,uS,uN,uX,uO,vR,vD,vL,vK,vE,vA,vM,vT,vS])⟩
theorem root_no (d : Nat) (h : Heap) (v : AV) (x : NoB h v) (m r hf mem : Int) : G (callD env (d + 13) 9 [v,gA m r, .int .i64 hf, .int .i64 mem] h) fun v h' => v = .tup [.nilslice, .int .i64 1] /\ Keeps h h' := by
 refine G.gen fun Q hX => ?_
 have hv : v = .nilptr \/ ∃ k,v = .ptr k 0 := by
  rcases x with rfl | ⟨k,rfl,_⟩
  ·exact .inl rfl
  ·exact .inr ⟨k,rfl⟩
 unfold gA
 rcases hv with rfl | ⟨k,rfl⟩
 ·rw [callD_run (E := env) [] (by kernel_rfl) Try.func9 rfl (by rw [Try.ntmps9]; simp) (by kernel_rfl)]; simp (maxSteps := 2000000) (implicitDefEqProofs := false) (disch := first | omega | (simp only [SD.down,uA,uL] <;> omega) | fail) only [Try.ntmps9,Try.results9,env_P,env_L,bldA,bldB,TQ.down,resE,oneV, ↓reduceIte,reduceCtorEq,uB,uE,uL,uA,uM,uS,uN,uX,uO,vR,vD,vL,vK,vE,vA,vM,vT,vS]
  first | refine G.call (member_no (d + 7) _ _ (x.keep ((Keeps.refl h).post (by simp (maxSteps := 2000000) (implicitDefEqProofs := false) (disch := first | omega | (simp only [SD.down,uA,uL] <;> omega) | fail) only [TQ.down,resE,oneV, ↓reduceIte,reduceCtorEq,uB,uE,uL,uA,uM,uS,uN,uX,uO,vR,vD,vL,vK,vE,vA,vM,vT,vS] <;> omega) (fun j hj => by simp (maxSteps := 2000000) (implicitDefEqProofs := false) (disch := first | omega | (simp only [SD.down,uA,uL] <;> omega) | fail) only [TQ.down,resE,oneV, ↓reduceIte,reduceCtorEq,uB,uE,uL,uA,uM,uS,uN,uX,uO,vR,vD,vL,vK,vE,vA,vM,vT,vS]))) m r hf mem) ?_ | refine G.callC (member_no (d + 7) _ _ (x.keep ((Keeps.refl h).post (by simp (maxSteps := 2000000) (implicitDefEqProofs := false) (disch := first | omega | (simp only [SD.down,uA,uL] <;> omega) | fail) only [TQ.down,resE,oneV, ↓reduceIte,reduceCtorEq,uB,uE,uL,uA,uM,uS,uN,uX,uO,vR,vD,vL,vK,vE,vA,vM,vT,vS] <;> omega) (fun j hj => by simp (maxSteps := 2000000) (implicitDefEqProofs := false) (disch := first | omega | (simp only [SD.down,uA,uL] <;> omega) | fail) only [TQ.down,resE,oneV, ↓reduceIte,reduceCtorEq,uB,uE,uL,uA,uM,uS,uN,uX,uO,vR,vD,vL,vK,vE,vA,vM,vT,vS]))) m r hf mem) ?_ | refine G.callL (member_no (d + 7) _ _ (x.keep ((Keeps.refl h).post (by simp (maxSteps := 2000000) (implicitDefEqProofs := false) (disch := first | omega | (simp only [SD.down,uA,uL] <;> omega) | fail) only [TQ.down,resE,oneV, ↓reduceIte,reduceCtorEq,uB,uE,uL,uA,uM,uS,uN,uX,uO,vR,vD,vL,vK,vE,vA,vM,vT,vS] <;> omega) (fun j hj => by simp (maxSteps := 2000000) (implicitDefEqProofs := false) (disch := first | omega | (simp only [SD.down,uA,uL] <;> omega) | fail) only [TQ.down,resE,oneV, ↓reduceIte,reduceCtorEq,uB,uE,uL,uA,uM,uS,uN,uX,uO,vR,vD,vL,vK,vE,vA,vM,vT,vS]))) m r hf mem) ?_
  rintro v h1 ⟨rfl,k1⟩
  have n1 := k1.1
  simp (maxSteps := 2000000) (implicitDefEqProofs := false) (disch := first | omega | (simp only [SD.down,uA,uL] <;> omega) | fail) only [TQ.down,resE,oneV, ↓reduceIte,reduceCtorEq,uB,uE,uL,uA,uM,uS,uN,uX,uO,vR,vD,vL,vK,vE,vA,vM,vT,vS] at n1
  simp (maxSteps := 2000000) (implicitDefEqProofs := false) (disch := first | omega | (simp only [SD.down,uA,uL] <;> omega) | fail) only [env_P,env_L,TQ.down,resE,oneV, ↓reduceIte,reduceCtorEq,uB,uE,uL,uA,uM,uS,uN,uX,uO,vR,vD,vL,vK,vE,vA,vM,vT,vS]
  subst hX
  exact G.ok ⟨rfl,k1.pre (by simp (maxSteps := 2000000) (implicitDefEqProofs := false) (disch := first | omega | (simp only [SD.down,uA,uL] <;> omega) | fail) only [TQ.down,resE,oneV, ↓reduceIte,reduceCtorEq,uB,uE,uL,uA,uM,uS,uN,uX,uO,vR,vD,vL,vK,vE,vA,vM,vT,vS] <;> omega) (fun j hj => by simp (maxSteps := 2000000) (implicitDefEqProofs := false) (disch := first | omega | (simp only [SD.down,uA,uL] <;> omega) | fail) only [TQ.down,resE,oneV, ↓reduceIte,reduceCtorEq,uB,uE,uL,uA,uM,uS,uN,uX,uO,vR,vD,vL,vK,vE,vA,vM,vT,vS])⟩
 ·rw [callD_run (E := env) [] (by kernel_rfl) Try.func9 rfl (by rw [Try.ntmps9]; simp) (by kernel_rfl)]; simp (maxSteps := 2000000) (implicitDefEqProofs := false) (disch := first | omega | (simp only [SD.down,uA,uL] <;> omega) | fail) only [Try.ntmps9,Try.results9,env_P,env_L,bldA,bldB,TQ.down,resE,oneV, ↓reduceIte,reduceCtorEq,uB,uE,uL,uA,uM,uS,uN,uX,uO,vR,vD,vL,vK,vE,vA,vM,vT,vS]
  first | refine G.call (member_no (d + 7) _ _ (x.keep ((Keeps.refl h).post (by simp (maxSteps := 2000000) (implicitDefEqProofs := false) (disch := first | omega | (simp only [SD.down,uA,uL] <;> omega) | fail) only [TQ.down,resE,oneV, ↓reduceIte,reduceCtorEq,uB,uE,uL,uA,uM,uS,uN,uX,uO,vR,vD,vL,vK,vE,vA,vM,vT,vS] <;> omega) (fun j hj => by simp (maxSteps := 2000000) (implicitDefEqProofs := false) (disch := first | omega | (simp only [SD.down,uA,uL] <;> omega) | fail) only [TQ.down,resE,oneV, ↓reduceIte,reduceCtorEq,uB,uE,uL,uA,uM,uS,uN,uX,uO,vR,vD,vL,vK,vE,vA,vM,vT,vS]))) m r hf mem) ?_ | refine G.callC (member_no (d + 7) _ _ (x.keep ((Keeps.refl h).post (by simp (maxSteps := 2000000) (implicitDefEqProofs := false) (disch := first | omega | (simp only [SD.down,uA,uL] <;> omega) | fail) only [TQ.down,resE,oneV, ↓reduceIte,reduceCtorEq,uB,uE,uL,uA,uM,uS,uN,uX,uO,vR,vD,vL,vK,vE,vA,vM,vT,vS] <;> omega) (fun j hj => by simp (maxSteps := 2000000) (implicitDefEqProofs := false) (disch := first | omega | (simp only [SD.down,uA,uL] <;> omega) | fail) only [TQ.down,resE,oneV, ↓reduceIte,reduceCtorEq,uB,uE,uL,uA,uM,uS,uN,uX,uO,vR,vD,vL,vK,vE,vA,vM,vT,vS]))) m r hf mem) ?_ | refine G.callL (member_no (d + 7) _ _ (x.keep ((Keeps.refl h).post (by simp (maxSteps := 2000000) (implicitDefEqProofs := false) (disch := first | omega | (simp only [SD.down,uA,uL] <;> omega) | fail) only [TQ.down,resE,oneV, ↓reduceIte,reduceCtorEq,uB,uE,uL,uA,uM,uS,uN,uX,uO,vR,vD,vL,vK,vE,vA,vM,vT,vS] <;> omega) (fun j hj => by simp (maxSteps := 2000000) (implicitDefEqProofs := false) (disch := first | omega | (simp only [SD.down,uA,uL] <;> omega) | fail) only [TQ.down,resE,oneV, ↓reduceIte,reduceCtorEq,uB,uE,uL,uA,uM,uS,uN,uX,uO,vR,vD,vL,vK,vE,vA,vM,vT,vS]))) m r hf mem) ?_
  rintro v h1 ⟨rfl,k1⟩
  have n1 := k1.1
  simp (maxSteps := 2000000) (implicitDefEqProofs := false) (disch := first | omega | (simp only [SD.down,uA,uL] <;> omega) | fail) only [TQ.down,resE,oneV, ↓reduceIte,reduceCtorEq,uB,uE,uL,uA,uM,uS,uN,uX,uO,vR,vD,vL,vK,vE,vA,vM,vT,vS] at n1
  simp (maxSteps := 2000000) (implicitDefEqProofs := false) (disch := first | omega | (simp only [SD.down,uA,uL] <;> omega) | fail) only [env_P,env_L,TQ.down,resE,oneV, ↓reduceIte,reduceCtorEq,uB,uE,uL,uA,uM,uS,uN,uX,uO,vR,vD,vL,vK,vE,vA,vM,vT,vS]
  subst hX
  exact G.ok ⟨rfl,k1.pre (by simp (maxSteps := 2000000) (implicitDefEqProofs := false) (disch := first | omega | (simp only [SD.down,uA,uL] <;> omega) | fail) only [TQ.down,resE,oneV, ↓reduceIte,reduceCtorEq,uB,uE,uL,uA,uM,uS,uN,uX,uO,vR,vD,vL,vK,vE,vA,vM,vT,vS] <;> omega) (fun j hj => by simp (maxSteps := 2000000) (implicitDefEqProofs := false) (disch := first | omega | (simp only [SD.down,uA,uL] <;> omega) | fail) only [TQ.down,resE,oneV, ↓reduceIte,reduceCtorEq,uB,uE,uL,uA,uM,uS,uN,uX,uO,vR,vD,vL,vK,vE,vA,vM,vT,vS])⟩
theorem body_no (d : Nat) (h : Heap) (v : AV) (x : NoB h v) (m r hf mem many : Int) : G (callD env (d + 13) 10 [v,gA m r, .int .i64 hf, .int .i64 mem, .int .i64 many] h) fun v h' => v = .tup [.nilslice, .int .i64 1] /\ Keeps h h' := by
 refine G.gen fun Q hX => ?_
 have hv : v = .nilptr \/ ∃ k,v = .ptr k 0 := by
  rcases x with rfl | ⟨k,rfl,_⟩
  ·exact .inl rfl
  ·exact .inr ⟨k,rfl⟩
 unfold gA
 rcases hv with rfl | ⟨k,rfl⟩
 ·rw [callD_run (E := env) [] (by kernel_rfl) Try.func10 rfl (by rw [Try.ntmps10]; simp) (by kernel_rfl)]; simp (maxSteps := 2000000) (implicitDefEqProofs := false) (disch := first | omega | (simp only [SD.down,uA,uL] <;> omega) | fail) only [Try.ntmps10,Try.results10,env_P,env_L,bldA,bldB,TQ.down,resE,oneV, ↓reduceIte,reduceCtorEq,uB,uE,uL,uA,uM,uS,uN,uX,uO,vR,vD,vL,vK,vE,vA,vM,vT,vS]
  first | refine G.call (member_no (d + 7) _ _ (x.keep ((Keeps.refl h).post (by simp (maxSteps := 2000000) (implicitDefEqProofs := false) (disch := first | omega | (simp only [SD.down,uA,uL] <;> omega) | fail) only [TQ.down,resE,oneV, ↓reduceIte,reduceCtorEq,uB,uE,uL,uA,uM,uS,uN,uX,uO,vR,vD,vL,vK,vE,vA,vM,vT,vS] <;> omega) (fun j hj => by simp (maxSteps := 2000000) (implicitDefEqProofs := false) (disch := first | omega | (simp only [SD.down,uA,uL] <;> omega) | fail) only [TQ.down,resE,oneV, ↓reduceIte,reduceCtorEq,uB,uE,uL,uA,uM,uS,uN,uX,uO,vR,vD,vL,vK,vE,vA,vM,vT,vS]))) m r hf mem) ?_ | refine G.callC (member_no (d + 7) _ _ (x.keep ((Keeps.refl h).post (by simp (maxSteps := 2000000) (implicitDefEqProofs := false) (disch := first | omega | (simp only [SD.down,uA,uL] <;> omega) | fail) only [TQ.down,resE,oneV, ↓reduceIte,reduceCtorEq,uB,uE,uL,uA,uM,uS,uN,uX,uO,vR,vD,vL,vK,vE,vA,vM,vT,vS] <;> omega) (fun j hj => by simp (maxSteps := 2000000) (implicitDefEqProofs := false) (disch := first | omega | (simp only [SD.down,uA,uL] <;> omega) | fail) only [TQ.down,resE,oneV, ↓reduceIte,reduceCtorEq,uB,uE,uL,uA,uM,uS,uN,uX,uO,vR,vD,vL,vK,vE,vA,vM,vT,vS]))) m r hf mem) ?_ | refine G.callL (member_no (d + 7) _ _ (x.keep ((Keeps.refl h).post (by simp (maxSteps := 2000000) (implicitDefEqProofs := false) (disch := first | omega | (simp only [SD.down,uA,uL] <;> omega) | fail) only [TQ.down,resE,oneV, ↓reduceIte,reduceCtorEq,uB,uE,uL,uA,uM,uS,uN,uX,uO,vR,vD,vL,vK,vE,vA,vM,vT,vS] <;> omega) (fun j hj => by simp (maxSteps := 2000000) (implicitDefEqProofs := false) (disch := first | omega | (simp only [SD.down,uA,uL] <;> omega) | fail) only [TQ.down,resE,oneV, ↓reduceIte,reduceCtorEq,uB,uE,uL,uA,uM,uS,uN,uX,uO,vR,vD,vL,vK,vE,vA,vM,vT,vS]))) m r hf mem) ?_
  rintro v h1 ⟨rfl,k1⟩
  have n1 := k1.1
  simp (maxSteps := 2000000) (implicitDefEqProofs := false) (disch := first | omega | (simp only [SD.down,uA,uL] <;> omega) | fail) only [TQ.down,resE,oneV, ↓reduceIte,reduceCtorEq,uB,uE,uL,uA,uM,uS,uN,uX,uO,vR,vD,vL,vK,vE,vA,vM,vT,vS] at n1
  simp (maxSteps := 2000000) (implicitDefEqProofs := false) (disch := first | omega | (simp only [SD.down,uA,uL] <;> omega) | fail) only [env_P,env_L,TQ.down,resE,oneV, ↓reduceIte,reduceCtorEq,uB,uE,uL,uA,uM,uS,uN,uX,uO,vR,vD,vL,vK,vE,vA,vM,vT,vS]
  subst hX
  exact G.ok ⟨rfl,k1.pre (by simp (maxSteps := 2000000) (implicitDefEqProofs := false) (disch := first | omega | (simp only [SD.down,uA,uL] <;> omega) | fail) only [TQ.down,resE,oneV, ↓reduceIte,reduceCtorEq,uB,uE,uL,uA,uM,uS,uN,uX,uO,vR,vD,vL,vK,vE,vA,vM,vT,vS] <;> omega) (fun j hj => by simp (maxSteps := 2000000) (implicitDefEqProofs := false) (disch := first | omega | (simp only [SD.down,uA,uL] <;> omega) | fail) only [TQ.down,resE,oneV, ↓reduceIte,reduceCtorEq,uB,uE,uL,uA,uM,uS,uN,uX,uO,vR,vD,vL,vK,vE,vA,vM,vT,vS])⟩
 ·rw [callD_run (E := env) [] (by kernel_rfl) Try.func10 rfl (by rw [Try.ntmps10]; simp) (by kernel_rfl)]; simp (maxSteps := 2000000) (implicitDefEqProofs := false) (disch := first | omega | (simp only [SD.down,uA,uL] <;> omega) | fail) only [Try.ntmps10,Try.results10,env_P,env_L,bldA,bldB,TQ.down,resE,oneV, ↓reduceIte,reduceCtorEq,uB,uE,uL,uA,uM,uS,uN,uX,uO,vR,vD,vL,vK,vE,vA,vM,vT,vS]
  first | refine G.call (member_no (d + 7) _ _ (x.keep ((Keeps.refl h).post (by simp (maxSteps := 2000000) (implicitDefEqProofs := false) (disch := first | omega | (simp only [SD.down,uA,uL] <;> omega) | fail) only [TQ.down,resE,oneV, ↓reduceIte,reduceCtorEq,uB,uE,uL,uA,uM,uS,uN,uX,uO,vR,vD,vL,vK,vE,vA,vM,vT,vS] <;> omega) (fun j hj => by simp (maxSteps := 2000000) (implicitDefEqProofs := false) (disch := first | omega | (simp only [SD.down,uA,uL] <;> omega) | fail) only [TQ.down,resE,oneV, ↓reduceIte,reduceCtorEq,uB,uE,uL,uA,uM,uS,uN,uX,uO,vR,vD,vL,vK,vE,vA,vM,vT,vS]))) m r hf mem) ?_ | refine G.callC (member_no (d + 7) _ _ (x.keep ((Keeps.refl h).post (by simp (maxSteps := 2000000) (implicitDefEqProofs := false) (disch := first | omega | (simp only [SD.down,uA,uL] <;> omega) | fail) only [TQ.down,resE,oneV, ↓reduceIte,reduceCtorEq,uB,uE,uL,uA,uM,uS,uN,uX,uO,vR,vD,vL,vK,vE,vA,vM,vT,vS] <;> omega) (fun j hj => by simp (maxSteps := 2000000) (implicitDefEqProofs := false) (disch := first | omega | (simp only [SD.down,uA,uL] <;> omega) | fail) only [TQ.down,resE,oneV, ↓reduceIte,reduceCtorEq,uB,uE,uL,uA,uM,uS,uN,uX,uO,vR,vD,vL,vK,vE,vA,vM,vT,vS]))) m r hf mem) ?_ | refine G.callL (member_no (d + 7) _ _ (x.keep ((Keeps.refl h).post (by simp (maxSteps := 2000000) (implicitDefEqProofs := false) (disch := first | omega | (simp only [SD.down,uA,uL] <;> omega) | fail) only [TQ.down,resE,oneV, ↓reduceIte,reduceCtorEq,uB,uE,uL,uA,uM,uS,uN,uX,uO,vR,vD,vL,vK,vE,vA,vM,vT,vS] <;> omega) (fun j hj => by simp (maxSteps := 2000000) (implicitDefEqProofs := false) (disch := first | omega | (simp only [SD.down,uA,uL] <;> omega) | fail) only [TQ.down,resE,oneV, ↓reduceIte,reduceCtorEq,uB,uE,uL,uA,uM,uS,uN,uX,uO,vR,vD,vL,vK,vE,vA,vM,vT,vS]))) m r hf mem) ?_
  rintro v h1 ⟨rfl,k1⟩
  have n1 := k1.1
  simp (maxSteps := 2000000) (implicitDefEqProofs := false) (disch := first | omega | (simp only [SD.down,uA,uL] <;> omega) | fail) only [TQ.down,resE,oneV, ↓reduceIte,reduceCtorEq,uB,uE,uL,uA,uM,uS,uN,uX,uO,vR,vD,vL,vK,vE,vA,vM,vT,vS] at n1
  simp (maxSteps := 2000000) (implicitDefEqProofs := false) (disch := first | omega | (simp only [SD.down,uA,uL] <;> omega) | fail) only [env_P,env_L,TQ.down,resE,oneV, ↓reduceIte,reduceCtorEq,uB,uE,uL,uA,uM,uS,uN,uX,uO,vR,vD,vL,vK,vE,vA,vM,vT,vS]
  subst hX
  exact G.ok ⟨rfl,k1.pre (by simp (maxSteps := 2000000) (implicitDefEqProofs := false) (disch := first | omega | (simp only [SD.down,uA,uL] <;> omega) | fail) only [TQ.down,resE,oneV, ↓reduceIte,reduceCtorEq,uB,uE,uL,uA,uM,uS,uN,uX,uO,vR,vD,vL,vK,vE,vA,vM,vT,vS] <;> omega) (fun j hj => by simp (maxSteps := 2000000) (implicitDefEqProofs := false) (disch := first | omega | (simp only [SD.down,uA,uL] <;> omega) | fail) only [TQ.down,resE,oneV, ↓reduceIte,reduceCtorEq,uB,uE,uL,uA,uM,uS,uN,uX,uO,vR,vD,vL,vK,vE,vA,vM,vT,vS])⟩
/-! answers that are errors -/
theorem hputE (d : Nat) (h : Heap) (C : Col) (kb β cp n : Nat) (ps : List Nat) (b : BS) (l : List (Img × Bool × Bool)) (m r hf : Int) (rv bv : AV) (root body : List Nat) (e : Int) (kb10 : 10 <= kb) (x : HB h C kb β cp ps b n l) (st : b.steps = []) (xr : ByR h rv root) (xb : ByR h bv body) (hrl : root.length <= 60000) (hbl : body.length <= 60000) (hlog : b.log.length + l.length * (nsec body.length + 3) < 3980) (eq : jPut b m r hf root body = ([],e,b)) :
  G (callD env (d + 13) 8 [.ptr β 0,gA m r, .int .i64 hf,rv,bv] h) fun v h' => v = .tup [.nilslice, .int .i64 e] /\ ∃ C',HB h' C' kb β cp ps b n l /\ Fr (busK kb) C h h' /\ ∀ j,j < h.next -> C' j = C j := by
 refine (jput_ok d h C kb β cp ps b m r hf rv bv root body kb10 x.I x.w xr xb hrl hbl (by rw [x.len]; exact hlog) (by rw [st]; exact sall_nil _ _ _ _ _)).mono ?_
 rw [eq]
 rintro v h' ⟨C',tv,rfl,ow,oc,I',fr,hC⟩
 rcases ow with ⟨_,rfl,_⟩ | ⟨K,_,_,_,_,_,h0⟩
 ·exact ⟨rfl,C',⟨I',x.w,x.c⟩,fr,hC⟩
 ·simp at h0
theorem hrootE (d : Nat) (h : Heap) (C : Col) (kb β cp n : Nat) (ps : List Nat) (b : BS) (l : List (Img × Bool × Bool)) (m r hf mem : Int) (kb10 : 10 <= kb) (x : HB h C kb β cp ps b n l) (st : b.steps = []) (hlog : b.log.length + 2 < 3980) (eq : jMay b.ms.length m r hf mem = false) :
  G (callD env (d + 13) 9 [.ptr β 0,gA m r, .int .i64 hf, .int .i64 mem] h) fun v h' => (∃ tv,v = .tup [tv, .int .i64 2] /\ okv tv = some tv) /\ ∃ C',HB h' C' kb β cp ps b n l /\ Fr (busK kb) C h h' /\ ∀ j,j < h.next -> C' j = C j := by
 have e : jRoot b m r hf mem = ([],2,b) := by unfold jRoot; rw [if_neg (by rw [eq]; decide)]
 refine (jroot_ok d h C kb β cp ps b m r hf mem kb10 x.I x.w hlog (by rw [st]; exact sall_nil _ _ _ _ _)).mono ?_
 rw [e]
 rintro v h' ⟨C',tv,rfl,yy,_,I',fr,hC⟩
 exact ⟨⟨tv,rfl,yy.ok.1⟩,C',⟨I',x.w,x.c⟩,fr,hC⟩
theorem hbodyE (d : Nat) (h : Heap) (C : Col) (kb β cp n : Nat) (ps : List Nat) (b : BS) (l : List (Img × Bool × Bool)) (m r hf mem many : Int) (kb10 : 10 <= kb) (x : HB h C kb β cp ps b n l) (st : b.steps = []) (hlog : b.log.length + 920 < 3980) (eq : (gCap m r : Int) < many) :
  G (callD env (d + 13) 10 [.ptr β 0,gA m r, .int .i64 hf, .int .i64 mem, .int .i64 many] h) fun v h' => (∃ tv,v = .tup [tv, .int .i64 2] /\ okv tv = some tv) /\ ∃ C',HB h' C' kb β cp ps b n l /\ Fr (busK kb) C h h' /\ ∀ j,j < h.next -> C' j = C j := by
 have e : jBody b m r hf mem many = ([],2,b) := by unfold jBody; rw [if_neg (by omega)]
 refine (jbody_ok d h C kb β cp ps b m r hf mem many kb10 x.I x.w (.inl hlog) (by rw [st]; exact sall_nil _ _ _ _ _)).mono ?_
 rw [e]
 rintro v h' ⟨C',tv,rfl,yy,_,I',fr,hC⟩
 exact ⟨⟨tv,rfl,yy.ok.1⟩,C',⟨I',x.w,x.c⟩,fr,hC⟩
theorem rdF (b : BS) (e : b.ahead = b) (ho : b.off = false) (m : Nat) (S : MS) (hS : b.ms[m]? = some S) (hf : S.fails = true) (i : Int) (h0 : 0 <= i) (h1 : i < S.n) :
  b.read m i = (⟨1,m,i,zz,10⟩, { b with log := b.log ++ [⟨1,m,i,zz,10⟩] }) := by
 have hio : S.io i = 10 := by unfold MS.io mIO; rw [if_neg (by omega),hf]; rfl
 have hw : S.read i = (zz,10) := by unfold MS.read; rw [hio]; exact if_neg (by omega)
 unfold BS.read
 rw [ioR_on b b e ho,atAct_in _ _ b m _ rfl hS]
 simp only [amRead,hw,set_same hS]
theorem hrootF (d : Nat) (h : Heap) (C : Col) (kb β cp : Nat) (ps : List Nat) (b : BS) (l : List (Img × Bool × Bool)) (r hf : Int) (m : Nat) (D : Img) (hu : Bool) (kb10 : 10 <= kb) (x : HB h C kb β cp ps b (gSec l.length r) l) (hm : l[m]? = some (D,true,hu)) (hg : gOk l.length r = true) (h0 : 0 <= hf) (h1 : hf <= 1) (hlog : b.log.length + 2 < 3980) (st : b.steps = []) :
  G (callD env (d + 13) 9 [.ptr β 0,gA l.length r, .int .i64 hf, .int .i64 (m : Int)] h) fun v h' => (∃ tv,v = .tup [tv, .int .i64 10] /\ okv tv = some tv) /\ ∃ C' b',HB h' C' kb β cp ps b' (gSec l.length r) l /\ b'.steps = [] /\ b'.log.length = b.log.length + 1 /\ Fr (busK kb) C h h' /\ ∀ j,j < h.next -> C' j = C j := by
 have hml := (List.getElem?_eq_some_iff.1 hm).1
 have h2 := gHalf_ge hg
 have hS : gSec l.length r = 8 + 2 * gHalf l.length r + gNodes l.length r + r.toNat := if_pos hg
 have hf2 : hf = 0 \/ hf = 1 := by omega
 have hMay : jMay b.ms.length l.length r hf m = true := decide_eq_true ⟨decide_eq_true ⟨hg,by rw [x.len],h0,h1⟩,by omega,by omega⟩
 have hSm : b.ms[m]? = some (calmM (gSec l.length r) (D,true,hu)) := by rw [x.c.ms,List.getElem?_map,hm]; rfl
 have e1 := rdF b (aheadL_quiet _ _ _ (by rw [st]; simp)) x.c.off m _ hSm rfl (jPos l.length r hf 0) (by unfold jPos; rcases hf2 with rfl | rfl <;> omega) (by show _ < ((gSec l.length r : Nat) : Int); unfold jPos; rcases hf2 with rfl | rfl <;> omega)
 have eR : jRoot b l.length r hf m = ([],10, { b with log := b.log ++ [⟨1,m,jPos l.length r hf 0,zz,10⟩] }) := by
  unfold jRoot
  rw [if_pos hMay,jR,e1]
  rfl
 have wk := (jR_keep m (jPos l.length r hf) 2 0 [] b x.w (by omega)).1
 have e2 : (jR m (jPos l.length r hf) 2 0 [] b).2.2 = { b with log := b.log ++ [⟨1,m,jPos l.length r hf 0,zz,10⟩] } := by
  rw [jR,e1]
  rfl
 rw [e2] at wk
 refine (jroot_ok d h C kb β cp ps b l.length r hf m kb10 x.I x.w hlog (by rw [st]; exact sall_nil _ _ _ _ _)).mono ?_
 rw [eR]
 rintro v h' ⟨C',tv,rfl,yy,_,I',fr,hC⟩
 exact ⟨⟨tv,rfl,yy.ok.1⟩,C',_,⟨I',wk,⟨x.c.ms,x.c.off⟩⟩,st,by simp,fr,hC⟩
theorem bsABC (h : Heap) : bsE Try.prog 33 3 [(0, .int .u8 97),(1, .int .u8 98),(2, .int .u8 99)] h = some (.slice h.next 0 3 3,h.new (.cells (Aw.B [97,98,99]) 0 false)) := bsE_of (fun K => by kernel_rfl) h
theorem bsABC' (h : Heap) : bsE Try.prog 33 3 [(0,b8 97),(1,b8 98),(2,b8 99)] h = some (.slice h.next 0 3 3,h.new (.cells (Aw.B [97,98,99]) 0 false)) := bsABC h
theorem strB_M {x y : List Nat} (h : M x = M y) : strB x = strB y := by
 have e := strB_eq x y
 rw [decide_eq_true (show x.map (· % 256) = y.map (· % 256) from h)] at e
 exact eq_of_beq e
theorem ByR.head {h : Heap} {v : AV} {l : List Nat} (x : ByR h v l) (q : Nat) (hq : q <= l.length) : ∃ u,sliceE Try.prog 33 v none (some (.int .i64 (q : Int))) none = some u /\ ByR h u (l.take q) := by
 have e : (l.take q).length = q := by rw [List.length_take]; omega
 rcases x with ⟨rfl,rfl⟩ | ⟨k,o,cap,cs,ex,ro,rfl,h1,h2,h3,h4⟩ | ⟨k,o,i,cs,ex,ro,rfl,h2,h3,h4⟩
 ·obtain rfl : q = 0 := by simpa using hq
  exact ⟨_,sl_nil_hi Try.underlying33 sz5, .inl ⟨rfl,rfl⟩⟩
 ·exact ⟨_,sl_s_hiN Try.underlying33 sz5 k o l.length cap q (by omega), .inr (.inl ⟨k,o,cap,cs,ex,ro,by rw [e],by rw [e]; omega,h2,h3,by rw [e]; exact cut_take h4 rfl hq⟩)⟩
 ·exact ⟨_,sl_es_hi Try.underlying33 sz5 k o i l.length q hq, .inr (.inr ⟨k,o,i,cs,ex,ro,by rw [e],h2,h3,by rw [e]; exact cut_take h4 rfl hq⟩)⟩
theorem body_abc {D : Img} (ok : Img.ok D) (hold : Holds 4 1 0 D (jSecs (List.replicate 128 7) [97,98,99])) : ((rdC (jPos 4 1 0) D 2 (nsec (69 * 1))).take (69 * 1)).length = 69 /\ strB (((rdC (jPos 4 1 0) D 2 (nsec (69 * 1))).take (69 * 1)).take 4) = [97,98,99,0] := by
 have e : rdC (jPos 4 1 0) D 2 (nsec (69 * 1)) = mGet D (jPos 4 1 0 2) zz ++ (mGet D (jPos 4 1 0 3) zz ++ []) := rfl
 have l2 := mGet_len (l := D) ok (jPos 4 1 0 2)
 have l3 := mGet_len (l := D) ok (jPos 4 1 0 3)
 have h2 := hold 2 (by rw [jSecs_len]; decide)
 have s2 : M ((jSecs (List.replicate 128 7) [97,98,99]).getD 2 []) = [97,98,99] ++ List.replicate 61 0 := by decide +kernel
 rw [s2] at h2
 refine ⟨by rw [e,List.length_take,List.length_append,List.length_append,l2,l3]; rfl, ?_⟩
 rw [e,List.take_take,List.take_append_of_le_length (by rw [l2]; decide)]
 have t4 : M ((mGet D (jPos 4 1 0 2) zz).take 4) = [97,98,99,0] := by
  have : M ((mGet D (jPos 4 1 0 2) zz).take 4) = (M (mGet D (jPos 4 1 0 2) zz)).take 4 := M_take _ _
  rw [this,h2]
  rfl
 have : strB ((mGet D (jPos 4 1 0 2) zz).take 4) = strB [97,98,99,0] := by
  refine strB_M ?_
  rw [t4]
  rfl
 exact this
theorem kput (d : Nat) (h : Heap) (C : Col) (β cp : Nat) (ps : List Nat) (b : BS) (l : List (Img × Bool × Bool)) (rv bv : AV) (root body : List Nat) (x : HB h C 100 β cp ps b 54 l) (hl4 : l.length = 4) (st : b.steps = []) (xr : ByR h rv root) (xb : ByR h bv body) (hr : root.length = 128) (hb : body.length <= 1216) (hlog : b.log.length <= 3000) :
  G (callD env (d + 13) 8 [.ptr β 0, .agg [.int .i64 4, .int .i64 1], .int .i64 0,rv,bv] h) fun v h' => ∃ C' tv b',v = .tup [tv, .int .i64 0] /\ Own 1 h.next h' tv (iA (tookC 0 l)) (tookC 0 l).length /\ (∀ K,blkE tv = some K -> C' K = 0) /\ HB h' C' 100 β cp ps b' 54 (l.map (upC (jPos 4 1 0) (jSecs root body))) /\ b'.steps = [] /\ b'.log.length <= b.log.length + 88 /\ Fr (busK 100) C h h' /\ ∀ j,j < h.next -> C' j = C j := by
 have l4 : ((l.length : Nat) : Int) = 4 := by rw [hl4]; rfl
 have hn : nsec body.length <= 19 := nsec_le (by omega)
 have hio := ioC_le (2 + nsec body.length) l
 rw [hl4] at hio
 have hp := hput d h C 100 β cp ps b b l 1 0 rv bv root body (by omega) x.I x.w (aheadL_quiet _ _ _ (by rw [st]; simp)) (by rw [l4,s54]; exact x.c) (by rw [l4]; exact ok41) (by omega) (by omega) xr xb hr (by rw [l4,h21]; omega) (by rw [hl4]; omega) (by rw [st]; exact sall_nil _ _ _ _ _) (by rw [st]; simp)
 rw [l4,s54] at hp
 refine hp.mono ?_
 rintro v h' ⟨C',tv,b',rfl,ow,oc,B',st',lg',fr,hC⟩
 exact ⟨C',tv,b',rfl,ow,oc,B',st'.trans st,by omega,fr,hC⟩
noncomputable def cvSE (h : Heap) (v : AV) : Option (AV × Heap) := convBytesK Try.prog h 33 33 v fun v h => some (v,h)
theorem cls_cvS (dd : Option Tmp) (t : TypeId) (p : String) (a : Array Edge) (g : Option (Nat × Bool)) (x : Operand) : cls Try.prog ⟨dd, .convert 33 33 x,t,p,a,g⟩ = .e := by simp [cls,Try.underlying33,Try.underlying5,convClsD]
theorem opE_cvS (call : CallK) (ρ : Operand -> AV) (dd : Option Tmp) (t : TypeId) (p : String) (a : Array Edge) (g : Option (Nat × Bool)) (h : Heap) (x : Operand) : opE Try.prog call ρ ⟨dd, .convert 33 33 x,t,p,a,g⟩ h = th (okv (ρ x)) fun v => cvSE h v := by
 unfold opE opK
 rw [cls_cvS]
 simp only [effK,okK_E]
 rfl
theorem cvSE_slice {h : Heap} {k o l c : Nat} {cs : List AV} {ex : Nat} (hg : h.get k = some (.cells cs ex false)) : cvSE h (.slice k o l c) = some (.slice k o l c,h.put k (some (.cells cs ex false))) := by
 unfold cvSE convBytesK
 simp only [unK_E,Try.underlying33,Try.underlying5,th_some,Nat.beq_refl,hgetK_eq,hputK_eq,hg]
theorem keeps_same {h : Heap} {k : Nat} {b : Blk} (hg : h.get k = some b) : Keeps h (h.put k (some b)) := ⟨by simp (maxSteps := 2000000) (implicitDefEqProofs := false) (disch := first | omega | (simp only [SD.down,uA,uL] <;> omega) | fail) only [TQ.down,resE,oneV, ↓reduceIte,reduceCtorEq,uB,uE,uL,uA,uM,uS,uN,uX,uO,vR,vD,vL,vK,vE,vA,vM,vT,vS]; omega,fun j _ => by
 by_cases e : j = k
 ·subst e; simp (maxSteps := 2000000) (implicitDefEqProofs := false) (disch := first | omega | (simp only [SD.down,uA,uL] <;> omega) | fail) only [hg,TQ.down,resE,oneV, ↓reduceIte,reduceCtorEq,uB,uE,uL,uA,uM,uS,uN,uX,uO,vR,vD,vL,vK,vE,vA,vM,vT,vS]
 ·simp (maxSteps := 2000000) (implicitDefEqProofs := false) (disch := first | omega | (simp only [SD.down,uA,uL] <;> omega) | fail) only [e,TQ.down,resE,oneV, ↓reduceIte,reduceCtorEq,uB,uE,uL,uA,uM,uS,uN,uX,uO,vR,vD,vL,vK,vE,vA,vM,vT,vS]⟩
set_option maxHeartbeats 8000000 in
theorem jknown_ok (d : Nat) (h : Heap) : G (callD env (d + 16) 3 [] h) fun v h' => v = .bool true := by
 refine G.gen fun Q hX => ?_
 have g41 : overE 0 [AV.int .i64 4, .int .i64 1] (List.replicate 2 (AV.int .i64 0)) = some [.int .i64 4, .int .i64 1] := rfl
 rw [callD_run (E := env) [(10, .fl [(3,0,2),(4,0,2)]),(14, .fl [(3,0,2),(4,0,2)]),(18, .fl [(3,0,1),(4,0,1)]),(19, .fl [(3,0,1),(4,0,1)])] (by kernel_rfl) Try.func3 rfl (by rw [Try.ntmps3]; simp) (by kernel_rfl)]; simp (maxSteps := 2000000) (implicitDefEqProofs := false) (disch := first | omega | (simp only [SD.down,uA,uL] <;> omega) | fail) only [Try.ntmps3,Try.results3,env_P,env_L,TQ.down,resE,oneV, ↓reduceIte,reduceCtorEq,uB,uE,uL,uA,uM,uS,uN,uX,uO,vR,vD,vL,vK,vE,vA,vM,vT,vS]
 first | refine G.call (small_ok1 (d + 6) _) ?_ | refine G.callC (small_ok1 (d + 6) _) ?_ | refine G.callL (small_ok1 (d + 6) _) ?_
 rintro v h1 ⟨rfl,k1⟩
 unfold gA
 rw [s54]
 simp (maxSteps := 2000000) (implicitDefEqProofs := false) (disch := first | omega | (simp only [SD.down,uA,uL] <;> omega) | fail) only [g41,c33_fold,cz_fold,env_P,env_L,TQ.down,resE,oneV, ↓reduceIte,reduceCtorEq,uB,uE,uL,uA,uM,uS,uN,uX,uO,vR,vD,vL,vK,vE,vA,vM,vT,vS]
 have gA1 : ((h1.new (Blk.cells (List.replicate 2 (AV.int .i64 0)) 0 false)).put h1.next (some (Blk.cells [AV.int .i64 4,AV.int .i64 1] 0 false))).get h1.next = some (.cells [.int .i64 4, .int .i64 1] 0 false) := by simp (maxSteps := 2000000) (implicitDefEqProofs := false) (disch := first | omega | (simp only [SD.down,uA,uL] <;> omega) | fail) only [TQ.down,resE,oneV, ↓reduceIte,reduceCtorEq,uB,uE,uL,uA,uM,uS,uN,uX,uO,vR,vD,vL,vK,vE,vA,vM,vT,vS]
 have nA : ((h1.new (Blk.cells (List.replicate 2 (AV.int .i64 0)) 0 false)).put h1.next (some (Blk.cells [AV.int .i64 4,AV.int .i64 1] 0 false))).next = h1.next + 1 := by simp (maxSteps := 2000000) (implicitDefEqProofs := false) (disch := first | omega | (simp only [SD.down,uA,uL] <;> omega) | fail) only [TQ.down,resE,oneV, ↓reduceIte,reduceCtorEq,uB,uE,uL,uA,uM,uS,uN,uX,uO,vR,vD,vL,vK,vE,vA,vM,vT,vS]
 generalize (h1.new (Blk.cells (List.replicate 2 (AV.int .i64 0)) 0 false)).put h1.next (some (Blk.cells [AV.int .i64 4,AV.int .i64 1] 0 false)) = hA at gA1 nA ⊢
 first | refine G.call (kit_nil (d + 6) hA (fun _ => 0) 100 1000 4 54 (by omega) (by omega) (by omega) (by omega) (by omega) (by omega)) ?_ | refine G.callC (kit_nil (d + 6) hA (fun _ => 0) 100 1000 4 54 (by omega) (by omega) (by omega) (by omega) (by omega) (by omega)) ?_ | refine G.callL (kit_nil (d + 6) hA (fun _ => 0) 100 1000 4 54 (by omega) (by omega) (by omega) (by omega) (by omega) (by omega)) ?_
 rintro v h2 ⟨X,β,cp,ρ,Lb,ps,C2,b2,rfl,L2,pll,B2,st2,lg2,k2,hC2⟩
 simp (maxSteps := 2000000) (implicitDefEqProofs := false) (disch := first | omega | (simp only [SD.down,uA,uL] <;> omega) | fail) only [env_P,env_L,TQ.down,resE,oneV, ↓reduceIte,reduceCtorEq,uB,uE,uL,uA,uM,uS,uN,uX,uO,vR,vD,vL,vK,vE,vA,vM,vT,vS]
 rw [mkB (n := 128) _ _ (by simp (maxSteps := 2000000) (implicitDefEqProofs := false) (disch := first | omega | (simp only [SD.down,uA,uL] <;> omega) | fail) only [TQ.down,resE,oneV, ↓reduceIte,reduceCtorEq,uB,uE,uL,uA,uM,uS,uN,uX,uO,vR,vD,vL,vK,vE,vA,vM,vT,vS]) (by simp (maxSteps := 2000000) (implicitDefEqProofs := false) (disch := first | omega | (simp only [SD.down,uA,uL] <;> omega) | fail) only [TQ.down,resE,oneV, ↓reduceIte,reduceCtorEq,uB,uE,uL,uA,uM,uS,uN,uX,uO,vR,vD,vL,vK,vE,vA,vM,vT,vS]) (by omega)]
 simp (maxSteps := 2000000) (implicitDefEqProofs := false) (disch := first | omega | (simp only [SD.down,uA,uL] <;> omega) | fail) only [env_P,env_L,TQ.down,resE,oneV, ↓reduceIte,reduceCtorEq,uB,uE,uL,uA,uM,uS,uN,uX,uO,vR,vD,vL,vK,vE,vA,vM,vT,vS]
 have n2 := k2.1
 have L0 : Lc h2 C2 [(h1.next, .cells [.int .i64 4, .int .i64 1] 0 false),(X,bnB β Lb 4 cp ρ),(Lb,psB ps)] := by
  intro q hq
  simp only [List.mem_cons,List.not_mem_nil,or_false] at hq
  rcases hq with rfl | rfl | rfl
  ·exact ⟨by simp only; omega,hC2 _ (by simp only; omega),k2.at (by simp only; omega) gA1⟩
  ·exact L2 _ (by simp)
  ·exact L2 _ (by simp)
 rw [run_loop]
 refine loop_ind (fun j σ hh => ∃ q : Nat,q + j = 128 /\ σ 1 = .ptr h1.next 0 /\ σ 3 = .ptr X 0 /\ σ 4 = .slice h2.next 0 128 128 /\ σ 5 = .int .i64 (q : Int) /\ hh.get h2.next = some (.cells (B (List.replicate q 7 ++ List.replicate (128 - q) 0)) 0 false) /\ h2.next < hh.next /\ Keeps h2 hh) ?_ ?_ 128 _ _ _ (by simp) ?_
 ·rintro mm σ hh ⟨q,hq,s1,s3,s4,s5,g0,gn,k⟩
  obtain rfl : q = 128 := by omega
  rw [Nat.sub_self,List.replicate_zero,List.append_nil] at g0
  have c0 : pnt C2 h2.next 0 h2.next = 0 := pnt_ge (Nat.le_refl _)
  have W : WL hh (pnt C2 h2.next 0) hh (pnt C2 h2.next 0) β cp ps b2 (c0l 4) := ⟨Nat.le_refl _,fun _ _ _ => rfl,fun _ _ => rfl,B2.keep k.1 (fun j hj _ _ => k.2 j hj) fun j hj => pnt_lt hj⟩
  have L3 : Lc hh (pnt C2 h2.next 0) [(h1.next, .cells [.int .i64 4, .int .i64 1] 0 false),(X,bnB β Lb 4 cp ρ),(Lb,psB ps),(h2.next, .cells (B (List.replicate 128 7)) 0 false)] := by
   have L' := L0.kp k (C' := pnt C2 h2.next 0) fun j hj => pnt_lt hj
   intro q hq
   simp only [List.mem_cons,List.not_mem_nil,or_false] at hq
   rcases hq with rfl | rfl | rfl | rfl
   ·exact L' _ (by simp)
   ·exact L' _ (by simp)
   ·exact L' _ (by simp)
   ·exact ⟨gn,c0,g0⟩
  have yr : ByR hh (.slice h2.next 0 128 128) (List.replicate 128 7) := .inr (.inl ⟨h2.next,0,128,_,_,_,by rw [List.length_replicate],by rw [List.length_replicate]; omega,gn,g0,cut_all (by rw [B_len]; exact beq_self_eq_true _)⟩)
  have zr : ∀ K,blkA (.slice h2.next 0 128 128) = some K -> pnt C2 h2.next 0 K = 0 := fun K e => by cases e; exact c0
  generalize pnt C2 h2.next 0 = C3 at W L3 zr c0
  have gX0 := W.at L3 (k := X) (x := bnB β Lb 4 cp ρ) (by simp)
  have gG0 := W.at L3 (k := h1.next) (x := .cells [.int .i64 4, .int .i64 1] 0 false) (by simp)
  have gL0 := W.at L3 (k := Lb) (x := psB ps) (by simp)
  unfold bnB at gX0
  unfold psB at gL0
  simp (maxSteps := 2000000) (implicitDefEqProofs := false) (disch := first | omega | (simp only [SD.down,uA,uL] <;> omega) | fail) only [run_it,s1,s3,s4,s5,gX0,gG0,sgA,cls_makeSlice,bsABC,bsABC',cls_cvS,opE_cvS,env_P,env_L,TQ.down,resE,oneV, ↓reduceIte,reduceCtorEq,uB,uE,uL,uA,uM,uS,uN,uX,uO,vR,vD,vL,vK,vE,vA,vM,vT,vS]
  have kmA : Keeps hh (hh.new (Blk.cells (Aw.B [97,98,99]) 0 false)) := (Keeps.refl hh).post (by simp (maxSteps := 2000000) (implicitDefEqProofs := false) (disch := first | omega | (simp only [SD.down,uA,uL] <;> omega) | fail) only [TQ.down,resE,oneV, ↓reduceIte,reduceCtorEq,uB,uE,uL,uA,uM,uS,uN,uX,uO,vR,vD,vL,vK,vE,vA,vM,vT,vS] <;> omega) (fun j hj => by simp (maxSteps := 2000000) (implicitDefEqProofs := false) (disch := first | omega | (simp only [SD.down,uA,uL] <;> omega) | fail) only [TQ.down,resE,oneV, ↓reduceIte,reduceCtorEq,uB,uE,uL,uA,uM,uS,uN,uX,uO,vR,vD,vL,vK,vE,vA,vM,vT,vS])
  have nmA : (hh.new (Blk.cells (Aw.B [97,98,99]) 0 false)).next = hh.next + 1 := by simp (maxSteps := 2000000) (implicitDefEqProofs := false) (disch := first | omega | (simp only [SD.down,uA,uL] <;> omega) | fail) only [TQ.down,resE,oneV, ↓reduceIte,reduceCtorEq,uB,uE,uL,uA,uM,uS,uN,uX,uO,vR,vD,vL,vK,vE,vA,vM,vT,vS]
  have gmA : (hh.new (Blk.cells (Aw.B [97,98,99]) 0 false)).get hh.next = some (.cells (Aw.B [97,98,99]) 0 false) := by simp (maxSteps := 2000000) (implicitDefEqProofs := false) (disch := first | omega | (simp only [SD.down,uA,uL] <;> omega) | fail) only [TQ.down,resE,oneV, ↓reduceIte,reduceCtorEq,uB,uE,uL,uA,uM,uS,uN,uX,uO,vR,vD,vL,vK,vE,vA,vM,vT,vS]
  generalize hh.new (Blk.cells (Aw.B [97,98,99]) 0 false) = hmA at kmA nmA gmA ⊢
  have W0_mA := W.kp kmA (C' := (pnt C3 hh.next 0)) fun j hj => pnt_lt hj
  have gXmA := W0_mA.at L3 (k := X) (x := bnB β Lb 4 cp ρ) (by simp)
  have gGmA := W0_mA.at L3 (k := h1.next) (x := .cells [.int .i64 4, .int .i64 1] 0 false) (by simp)
  have gLmA := W0_mA.at L3 (k := Lb) (x := psB ps) (by simp)
  unfold bnB at gXmA
  unfold psB at gLmA
  have cvA := cvSE_slice (o := 0) (l := 3) (c := 3) gmA
  simp (maxSteps := 2000000) (implicitDefEqProofs := false) (disch := first | omega | (simp only [SD.down,uA,uL] <;> omega) | fail) only [run_it,s1,s3,s4,s5,gX0,gG0,gXmA,gGmA,cvA,sgA,cls_makeSlice,bsABC,bsABC',cls_cvS,opE_cvS,env_P,env_L,TQ.down,resE,oneV, ↓reduceIte,reduceCtorEq,uB,uE,uL,uA,uM,uS,uN,uX,uO,vR,vD,vL,vK,vE,vA,vM,vT,vS]
  have kaA : Keeps hmA (hmA.put hh.next (some (Blk.cells (Aw.B [97,98,99]) 0 false))) := keeps_same gmA
  have naA : (hmA.put hh.next (some (Blk.cells (Aw.B [97,98,99]) 0 false))).next = hmA.next := by simp (maxSteps := 2000000) (implicitDefEqProofs := false) (disch := first | omega | (simp only [SD.down,uA,uL] <;> omega) | fail) only [TQ.down,resE,oneV, ↓reduceIte,reduceCtorEq,uB,uE,uL,uA,uM,uS,uN,uX,uO,vR,vD,vL,vK,vE,vA,vM,vT,vS]
  have gaA : (hmA.put hh.next (some (Blk.cells (Aw.B [97,98,99]) 0 false))).get hh.next = some (.cells (Aw.B [97,98,99]) 0 false) := by simp (maxSteps := 2000000) (implicitDefEqProofs := false) (disch := first | omega | (simp only [SD.down,uA,uL] <;> omega) | fail) only [TQ.down,resE,oneV, ↓reduceIte,reduceCtorEq,uB,uE,uL,uA,uM,uS,uN,uX,uO,vR,vD,vL,vK,vE,vA,vM,vT,vS]
  generalize hmA.put hh.next (some (Blk.cells (Aw.B [97,98,99]) 0 false)) = haA at kaA naA gaA ⊢
  have yaA : ByR haA (.slice hh.next 0 3 3) [97,98,99] := .inr (.inl ⟨hh.next,0,3,_,_,_,rfl,by simp,by omega,gaA,cut_all (by rw [B_len]; rfl)⟩)
  have W0_aA := W0_mA.kp kaA (C' := (pnt (pnt C3 hh.next 0) hmA.next 0)) fun j hj => pnt_lt hj
  have gXaA := W0_aA.at L3 (k := X) (x := bnB β Lb 4 cp ρ) (by simp)
  have gGaA := W0_aA.at L3 (k := h1.next) (x := .cells [.int .i64 4, .int .i64 1] 0 false) (by simp)
  have gLaA := W0_aA.at L3 (k := Lb) (x := psB ps) (by simp)
  unfold bnB at gXaA
  unfold psB at gLaA
  first | refine G.call (kput (d + 2) haA _ β cp ps b2 (c0l 4) (.slice h2.next 0 128 128) (.slice hh.next 0 3 3) (List.replicate 128 7) [97,98,99] W0_aA.B rfl st2 (W0_aA.by_ yr zr).1 yaA (by simp) (by simp) (by rw [lg2]; simp)) ?_ | refine G.callC (kput (d + 2) haA _ β cp ps b2 (c0l 4) (.slice h2.next 0 128 128) (.slice hh.next 0 3 3) (List.replicate 128 7) [97,98,99] W0_aA.B rfl st2 (W0_aA.by_ yr zr).1 yaA (by simp) (by simp) (by rw [lg2]; simp)) ?_ | refine G.callL (kput (d + 2) haA _ β cp ps b2 (c0l 4) (.slice h2.next 0 128 128) (.slice hh.next 0 3 3) (List.replicate 128 7) [97,98,99] W0_aA.B rfl st2 (W0_aA.by_ yr zr).1 yaA (by simp) (by simp) (by rw [lg2]; simp)) ?_
  rintro v h5 ⟨C5,ta,b5,rfl,owa,oca,B5,st5,lg5,fr5,hC5⟩
  rcases owa with ⟨h0,_⟩ | ⟨Ka,e,_,hKa,gKa,_,_⟩
  ·cases h0
  subst e
  have cKa := oca Ka rfl
  have eT : (tookC 0 (c0l 4)).length = 4 := rfl
  rw [eT] at *
  have gKa' : h5.get Ka = some (.cells (iA [0,1,2,3]) 1 false) := gKa
  have e1 : (c0l 4).map (upC (jPos 4 1 0) (jSecs (List.replicate 128 7) [97,98,99])) = c4 (putAll (jPos 4 1 0) 0 (jSecs (List.replicate 128 7) [97,98,99]) []) := by simp [c0l,c4,upC]
  rw [e1] at B5
  have hold : Holds 4 1 0 (putAll (jPos 4 1 0) 0 (jSecs (List.replicate 128 7) [97,98,99]) []) (jSecs (List.replicate 128 7) [97,98,99]) := Holds.put (show Uq [] from trivial) _
  generalize putAll (jPos 4 1 0) 0 (jSecs (List.replicate 128 7) [97,98,99]) [] = D1 at B5 hold
  rw [lg2] at lg5
  have lg5' : b5.log.length <= 88 := by simpa using lg5
  have W0_5 := W0_aA.do_ B5 fr5 hC5
  have V5 : WL h5 C5 h5 C5 β cp ps b5 (c4 D1) := ⟨Nat.le_refl _,fun _ _ _ => rfl,fun _ _ => rfl,B5⟩
  have gX5 := W0_5.at L3 (k := X) (x := bnB β Lb 4 cp ρ) (by simp)
  have gG5 := W0_5.at L3 (k := h1.next) (x := .cells [.int .i64 4, .int .i64 1] 0 false) (by simp)
  have gL5 := W0_5.at L3 (k := Lb) (x := psB ps) (by simp)
  unfold bnB at gX5
  unfold psB at gL5
  simp (maxSteps := 2000000) (implicitDefEqProofs := false) (disch := first | omega | (simp only [SD.down,uA,uL] <;> omega) | fail) only [run_it,s1,s3,s4,s5,gX0,gG0,gXmA,gGmA,cvA,gXaA,gGaA,gX5,gG5,sgA,cls_makeSlice,bsABC,bsABC',cls_cvS,opE_cvS,env_P,env_L,TQ.down,resE,oneV, ↓reduceIte,reduceCtorEq,uB,uE,uL,uA,uM,uS,uN,uX,uO,vR,vD,vL,vK,vE,vA,vM,vT,vS]
  first | refine G.call (hroot4 (d + 2) h5 C5 100 β cp ps b5 (c4 D1) 0 3 D1 false (by omega) rfl B5 st5 (by omega) rfl (by omega)) ?_ | refine G.callC (hroot4 (d + 2) h5 C5 100 β cp ps b5 (c4 D1) 0 3 D1 false (by omega) rfl B5 st5 (by omega) rfl (by omega)) ?_ | refine G.callL (hroot4 (d + 2) h5 C5 100 β cp ps b5 (c4 D1) 0 3 D1 false (by omega) rfl B5 st5 (by omega) rfl (by omega)) ?_
  rintro v h6 ⟨C6,tb,b6,rfl,by6,bk6,B6,st6,lg6,fr6,hC6⟩
  rw [show ((0 : Nat) : Int) = 0 from rfl] at by6
  obtain ⟨bo,bs,bl⟩ := by6.ok
  have W0_6 := W0_5.do_ B6 fr6 hC6
  have W5_6 := V5.do_ B6 fr6 hC6
  have V6 : WL h6 C6 h6 C6 β cp ps b6 (c4 D1) := ⟨Nat.le_refl _,fun _ _ _ => rfl,fun _ _ => rfl,B6⟩
  have gX6 := W0_6.at L3 (k := X) (x := bnB β Lb 4 cp ρ) (by simp)
  have gG6 := W0_6.at L3 (k := h1.next) (x := .cells [.int .i64 4, .int .i64 1] 0 false) (by simp)
  have gL6 := W0_6.at L3 (k := Lb) (x := psB ps) (by simp)
  unfold bnB at gX6
  unfold psB at gL6
  simp (maxSteps := 2000000) (implicitDefEqProofs := false) (disch := first | omega | (simp only [SD.down,uA,uL] <;> omega) | fail) only [run_it,s1,s3,s4,s5,gX0,gG0,gXmA,gGmA,cvA,gXaA,gGaA,gX5,gG5,gX6,gG6,bo,bs,sgA,cls_makeSlice,bsABC,bsABC',cls_cvS,opE_cvS,env_P,env_L,TQ.down,resE,oneV, ↓reduceIte,reduceCtorEq,uB,uE,uL,uA,uM,uS,uN,uX,uO,vR,vD,vL,vK,vE,vA,vM,vT,vS]
  first | refine G.call (hbody4 (d + 2) h6 C6 100 β cp ps b6 (c4 D1) 0 1 1 D1 false (by omega) rfl B6 st6 (by omega) rfl (by omega) (by omega)) ?_ | refine G.callC (hbody4 (d + 2) h6 C6 100 β cp ps b6 (c4 D1) 0 1 1 D1 false (by omega) rfl B6 st6 (by omega) rfl (by omega) (by omega)) ?_ | refine G.callL (hbody4 (d + 2) h6 C6 100 β cp ps b6 (c4 D1) 0 1 1 D1 false (by omega) rfl B6 st6 (by omega) rfl (by omega) (by omega)) ?_
  rintro v h7 ⟨C7,tc,b7,rfl,by7,bk7,B7,st7,lg7,fr7,hC7⟩
  rw [show ((0 : Nat) : Int) = 0 from rfl] at by7
  obtain ⟨co,cs,cl⟩ := by7.ok
  have W0_7 := W0_6.do_ B7 fr7 hC7
  have W5_7 := W5_6.do_ B7 fr7 hC7
  have W6_7 := V6.do_ B7 fr7 hC7
  have V7 : WL h7 C7 h7 C7 β cp ps b7 (c4 D1) := ⟨Nat.le_refl _,fun _ _ _ => rfl,fun _ _ => rfl,B7⟩
  have gX7 := W0_7.at L3 (k := X) (x := bnB β Lb 4 cp ρ) (by simp)
  have gG7 := W0_7.at L3 (k := h1.next) (x := .cells [.int .i64 4, .int .i64 1] 0 false) (by simp)
  have gL7 := W0_7.at L3 (k := Lb) (x := psB ps) (by simp)
  unfold bnB at gX7
  unfold psB at gL7
  obtain ⟨p2,hp2⟩ : ∃ p,ps[2]? = some p := ⟨_,List.getElem?_eq_getElem (by omega)⟩
  have gp2 := ptrs_get hp2
  simp (maxSteps := 2000000) (implicitDefEqProofs := false) (disch := first | omega | (simp only [SD.down,uA,uL] <;> omega) | fail) only [run_it,s1,s3,s4,s5,gX0,gG0,gXmA,gGmA,cvA,gXaA,gGaA,gX5,gG5,gX6,gG6,bo,bs,gX7,gG7,gL7,co,cs,gp2,sgA,cls_makeSlice,bsABC,bsABC',cls_cvS,opE_cvS,env_P,env_L,TQ.down,resE,oneV, ↓reduceIte,reduceCtorEq,uB,uE,uL,uA,uM,uS,uN,uX,uO,vR,vD,vL,vK,vE,vA,vM,vT,vS]
  first | refine G.call (hfail (d + 12) h7 C7 100 β cp 54 ps b7 (c4 D1) 2 p2 D1 false false true (by omega) B7 rfl hp2) ?_ | refine G.callC (hfail (d + 12) h7 C7 100 β cp 54 ps b7 (c4 D1) 2 p2 D1 false false true (by omega) B7 rfl hp2) ?_ | refine G.callL (hfail (d + 12) h7 C7 100 β cp 54 ps b7 (c4 D1) 2 p2 D1 false false true (by omega) B7 rfl hp2) ?_
  rintro v h8 ⟨rfl,C8,b8',B8,st8,lg8,fr8,hC8⟩
  have e8 : (c4 D1).set 2 (D1,true,false || true) = [(D1,false,false),(D1,false,false),(D1,true,true),(D1,false,false)] := rfl
  rw [e8] at B8
  have W0_8 := W0_7.do_ B8 fr8 hC8
  have W5_8 := W5_7.do_ B8 fr8 hC8
  have W6_8 := W6_7.do_ B8 fr8 hC8
  have W7_8 := V7.do_ B8 fr8 hC8
  have gX8 := W0_8.at L3 (k := X) (x := bnB β Lb 4 cp ρ) (by simp)
  have gG8 := W0_8.at L3 (k := h1.next) (x := .cells [.int .i64 4, .int .i64 1] 0 false) (by simp)
  have gL8 := W0_8.at L3 (k := Lb) (x := psB ps) (by simp)
  unfold bnB at gX8
  unfold psB at gL8
  simp (maxSteps := 2000000) (implicitDefEqProofs := false) (disch := first | omega | (simp only [SD.down,uA,uL] <;> omega) | fail) only [run_it,s1,s3,s4,s5,gX0,gG0,gXmA,gGmA,cvA,gXaA,gGaA,gX5,gG5,gX6,gG6,bo,bs,gX7,gG7,gL7,co,cs,gp2,gX8,gG8,gL8,sgA,cls_makeSlice,bsABC,bsABC',cls_cvS,opE_cvS,env_P,env_L,TQ.down,resE,oneV, ↓reduceIte,reduceCtorEq,uB,uE,uL,uA,uM,uS,uN,uX,uO,vR,vD,vL,vK,vE,vA,vM,vT,vS]
  have kmB : Keeps h8 (h8.new (Blk.cells (Aw.B [97,98,99]) 0 false)) := (Keeps.refl h8).post (by simp (maxSteps := 2000000) (implicitDefEqProofs := false) (disch := first | omega | (simp only [SD.down,uA,uL] <;> omega) | fail) only [TQ.down,resE,oneV, ↓reduceIte,reduceCtorEq,uB,uE,uL,uA,uM,uS,uN,uX,uO,vR,vD,vL,vK,vE,vA,vM,vT,vS] <;> omega) (fun j hj => by simp (maxSteps := 2000000) (implicitDefEqProofs := false) (disch := first | omega | (simp only [SD.down,uA,uL] <;> omega) | fail) only [TQ.down,resE,oneV, ↓reduceIte,reduceCtorEq,uB,uE,uL,uA,uM,uS,uN,uX,uO,vR,vD,vL,vK,vE,vA,vM,vT,vS])
  have nmB : (h8.new (Blk.cells (Aw.B [97,98,99]) 0 false)).next = h8.next + 1 := by simp (maxSteps := 2000000) (implicitDefEqProofs := false) (disch := first | omega | (simp only [SD.down,uA,uL] <;> omega) | fail) only [TQ.down,resE,oneV, ↓reduceIte,reduceCtorEq,uB,uE,uL,uA,uM,uS,uN,uX,uO,vR,vD,vL,vK,vE,vA,vM,vT,vS]
  have gmB : (h8.new (Blk.cells (Aw.B [97,98,99]) 0 false)).get h8.next = some (.cells (Aw.B [97,98,99]) 0 false) := by simp (maxSteps := 2000000) (implicitDefEqProofs := false) (disch := first | omega | (simp only [SD.down,uA,uL] <;> omega) | fail) only [TQ.down,resE,oneV, ↓reduceIte,reduceCtorEq,uB,uE,uL,uA,uM,uS,uN,uX,uO,vR,vD,vL,vK,vE,vA,vM,vT,vS]
  generalize h8.new (Blk.cells (Aw.B [97,98,99]) 0 false) = hmB at kmB nmB gmB ⊢
  have W0_mB := W0_8.kp kmB (C' := (pnt C8 h8.next 0)) fun j hj => pnt_lt hj
  have W5_mB := W5_8.kp kmB (C' := (pnt C8 h8.next 0)) fun j hj => pnt_lt hj
  have W6_mB := W6_8.kp kmB (C' := (pnt C8 h8.next 0)) fun j hj => pnt_lt hj
  have W7_mB := W7_8.kp kmB (C' := (pnt C8 h8.next 0)) fun j hj => pnt_lt hj
  have gXmB := W0_mB.at L3 (k := X) (x := bnB β Lb 4 cp ρ) (by simp)
  have gGmB := W0_mB.at L3 (k := h1.next) (x := .cells [.int .i64 4, .int .i64 1] 0 false) (by simp)
  have gLmB := W0_mB.at L3 (k := Lb) (x := psB ps) (by simp)
  unfold bnB at gXmB
  unfold psB at gLmB
  have cvB := cvSE_slice (o := 0) (l := 3) (c := 3) gmB
  simp (maxSteps := 2000000) (implicitDefEqProofs := false) (disch := first | omega | (simp only [SD.down,uA,uL] <;> omega) | fail) only [run_it,s1,s3,s4,s5,gX0,gG0,gXmA,gGmA,cvA,gXaA,gGaA,gX5,gG5,gX6,gG6,bo,bs,gX7,gG7,gL7,co,cs,gp2,gX8,gG8,gL8,gXmB,gGmB,cvB,sgA,cls_makeSlice,bsABC,bsABC',cls_cvS,opE_cvS,env_P,env_L,TQ.down,resE,oneV, ↓reduceIte,reduceCtorEq,uB,uE,uL,uA,uM,uS,uN,uX,uO,vR,vD,vL,vK,vE,vA,vM,vT,vS]
  have kaB : Keeps hmB (hmB.put h8.next (some (Blk.cells (Aw.B [97,98,99]) 0 false))) := keeps_same gmB
  have naB : (hmB.put h8.next (some (Blk.cells (Aw.B [97,98,99]) 0 false))).next = hmB.next := by simp (maxSteps := 2000000) (implicitDefEqProofs := false) (disch := first | omega | (simp only [SD.down,uA,uL] <;> omega) | fail) only [TQ.down,resE,oneV, ↓reduceIte,reduceCtorEq,uB,uE,uL,uA,uM,uS,uN,uX,uO,vR,vD,vL,vK,vE,vA,vM,vT,vS]
  have gaB : (hmB.put h8.next (some (Blk.cells (Aw.B [97,98,99]) 0 false))).get h8.next = some (.cells (Aw.B [97,98,99]) 0 false) := by simp (maxSteps := 2000000) (implicitDefEqProofs := false) (disch := first | omega | (simp only [SD.down,uA,uL] <;> omega) | fail) only [TQ.down,resE,oneV, ↓reduceIte,reduceCtorEq,uB,uE,uL,uA,uM,uS,uN,uX,uO,vR,vD,vL,vK,vE,vA,vM,vT,vS]
  generalize hmB.put h8.next (some (Blk.cells (Aw.B [97,98,99]) 0 false)) = haB at kaB naB gaB ⊢
  have yaB : ByR haB (.slice h8.next 0 3 3) [97,98,99] := .inr (.inl ⟨h8.next,0,3,_,_,_,rfl,by simp,by omega,gaB,cut_all (by rw [B_len]; rfl)⟩)
  have W0_aB := W0_mB.kp kaB (C' := (pnt (pnt C8 h8.next 0) hmB.next 0)) fun j hj => pnt_lt hj
  have W5_aB := W5_mB.kp kaB (C' := (pnt (pnt C8 h8.next 0) hmB.next 0)) fun j hj => pnt_lt hj
  have W6_aB := W6_mB.kp kaB (C' := (pnt (pnt C8 h8.next 0) hmB.next 0)) fun j hj => pnt_lt hj
  have W7_aB := W7_mB.kp kaB (C' := (pnt (pnt C8 h8.next 0) hmB.next 0)) fun j hj => pnt_lt hj
  have gXaB := W0_aB.at L3 (k := X) (x := bnB β Lb 4 cp ρ) (by simp)
  have gGaB := W0_aB.at L3 (k := h1.next) (x := .cells [.int .i64 4, .int .i64 1] 0 false) (by simp)
  have gLaB := W0_aB.at L3 (k := Lb) (x := psB ps) (by simp)
  unfold bnB at gXaB
  unfold psB at gLaB
  first | refine G.call (kput (d + 2) haB _ β cp ps b8' _ (.slice h2.next 0 128 128) (.slice h8.next 0 3 3) (List.replicate 128 7) [97,98,99] W0_aB.B rfl (st8.trans st7) (W0_aB.by_ yr zr).1 yaB (by simp) (by simp) (by rw [lg8]; omega)) ?_ | refine G.callC (kput (d + 2) haB _ β cp ps b8' _ (.slice h2.next 0 128 128) (.slice h8.next 0 3 3) (List.replicate 128 7) [97,98,99] W0_aB.B rfl (st8.trans st7) (W0_aB.by_ yr zr).1 yaB (by simp) (by simp) (by rw [lg8]; omega)) ?_ | refine G.callL (kput (d + 2) haB _ β cp ps b8' _ (.slice h2.next 0 128 128) (.slice h8.next 0 3 3) (List.replicate 128 7) [97,98,99] W0_aB.B rfl (st8.trans st7) (W0_aB.by_ yr zr).1 yaB (by simp) (by simp) (by rw [lg8]; omega)) ?_
  rintro v h9 ⟨C9,td,b9,rfl,owd,ocd,B9,st9,lg9,fr9,hC9⟩
  rcases owd with ⟨h0,_⟩ | ⟨Kd,e,_,hKd,gKd,_,_⟩
  ·cases h0
  subst e
  have cKd := ocd Kd rfl
  have gKd' : h9.get Kd = some (.cells (iA [0,1,3]) 1 false) := gKd
  have eT2 : (tookC 0 [(D1,false,false),(D1,false,false),(D1,true,true),(D1,false,false)]).length = 3 := rfl
  rw [eT2] at *
  obtain ⟨D2,hD2⟩ : ∃ D2,[(D1,false,false),(D1,false,false),(D1,true,true),(D1,false,false)].map (upC (jPos 4 1 0) (jSecs (List.replicate 128 7) [97,98,99])) = [(D2,false,false),(D2,false,false),(D1,true,true),(D2,false,false)] := ⟨_,rfl⟩
  rw [hD2] at B9
  rw [lg8] at lg9
  obtain ⟨l3,hl3⟩ : ∃ l3,l3 = [(D2,false,false),(D2,false,false),(D1,true,true),(D2,false,false)] := ⟨_,rfl⟩
  rw [<- hl3] at B9
  have len4 : l3.length = 4 := by rw [hl3]; rfl
  have l32 : l3[2]? = some (D1,true,true) := by rw [hl3]; rfl
  have l34 : ((l3.length : Nat) : Int) = 4 := by rw [len4]; rfl
  have W0_9 := W0_aB.do_ B9 fr9 hC9
  have W5_9 := W5_aB.do_ B9 fr9 hC9
  have W6_9 := W6_aB.do_ B9 fr9 hC9
  have W7_9 := W7_aB.do_ B9 fr9 hC9
  have V9 : WL h9 C9 h9 C9 β cp ps b9 _ := ⟨Nat.le_refl _,fun _ _ _ => rfl,fun _ _ => rfl,B9⟩
  have gX9 := W0_9.at L3 (k := X) (x := bnB β Lb 4 cp ρ) (by simp)
  have gG9 := W0_9.at L3 (k := h1.next) (x := .cells [.int .i64 4, .int .i64 1] 0 false) (by simp)
  have gL9 := W0_9.at L3 (k := Lb) (x := psB ps) (by simp)
  unfold bnB at gX9
  unfold psB at gL9
  simp (maxSteps := 2000000) (implicitDefEqProofs := false) (disch := first | omega | (simp only [SD.down,uA,uL] <;> omega) | fail) only [run_it,s1,s3,s4,s5,gX0,gG0,gXmA,gGmA,cvA,gXaA,gGaA,gX5,gG5,gX6,gG6,bo,bs,gX7,gG7,gL7,co,cs,gp2,gX8,gG8,gL8,gXmB,gGmB,cvB,gXaB,gGaB,gX9,gG9,sgA,cls_makeSlice,bsABC,bsABC',cls_cvS,opE_cvS,env_P,env_L,TQ.down,resE,oneV, ↓reduceIte,reduceCtorEq,uB,uE,uL,uA,uM,uS,uN,uX,uO,vR,vD,vL,vK,vE,vA,vM,vT,vS]
  have hrF := hrootF (d + 2) h9 C9 100 β cp ps b9 l3 1 0 2 D1 true (by omega) (by rw [l34,s54]; exact B9) l32 (by rw [l34]; exact ok41) (by omega) (by omega) (by omega) st9
  rw [l34,s54] at hrF
  unfold gA at hrF
  first | refine G.call (hrF) ?_ | refine G.callC (hrF) ?_ | refine G.callL (hrF) ?_
  rintro v h10 ⟨⟨te,rfl,teo⟩,C10,b10,B10,st10,lg10,fr10,hC10⟩
  have W0_10 := W0_9.do_ B10 fr10 hC10
  have W5_10 := W5_9.do_ B10 fr10 hC10
  have W6_10 := W6_9.do_ B10 fr10 hC10
  have W7_10 := W7_9.do_ B10 fr10 hC10
  have W9_10 := V9.do_ B10 fr10 hC10
  have gX10 := W0_10.at L3 (k := X) (x := bnB β Lb 4 cp ρ) (by simp)
  have gG10 := W0_10.at L3 (k := h1.next) (x := .cells [.int .i64 4, .int .i64 1] 0 false) (by simp)
  have gL10 := W0_10.at L3 (k := Lb) (x := psB ps) (by simp)
  unfold bnB at gX10
  unfold psB at gL10
  simp (maxSteps := 2000000) (implicitDefEqProofs := false) (disch := first | omega | (simp only [SD.down,uA,uL] <;> omega) | fail) only [run_it,s1,s3,s4,s5,gX0,gG0,gXmA,gGmA,cvA,gXaA,gGaA,gX5,gG5,gX6,gG6,bo,bs,gX7,gG7,gL7,co,cs,gp2,gX8,gG8,gL8,gXmB,gGmB,cvB,gXaB,gGaB,gX9,gG9,gX10,gG10,teo,sgA,cls_makeSlice,bsABC,bsABC',cls_cvS,opE_cvS,env_P,env_L,TQ.down,resE,oneV, ↓reduceIte,reduceCtorEq,uB,uE,uL,uA,uM,uS,uN,uX,uO,vR,vD,vL,vK,vE,vA,vM,vT,vS]
  have bm4 : b10.ms.length = 4 := by rw [B10.len,len4]
  have jo : jOk b10.ms.length 4 1 0 = true := by rw [bm4]; decide
  have lgz : b10.log.length <= 400 := by omega
  have r128 : (List.replicate 128 7).length = 128 := List.length_replicate ..
  have hG := hputE (d + 2) h10 C10 100 β cp 54 ps b10 l3 4 1 2 (.slice h2.next 0 128 128) .nilslice (List.replicate 128 7) [] 2 (by omega) B10 st10 (W0_10.by_ yr zr).1 (.inl ⟨rfl,rfl⟩) (by rw [r128]; omega) (by simp) (show b10.log.length + l3.length * 3 < 3980 by omega) (by unfold jPut; rw [if_pos (show jOk b10.ms.length 4 1 2 = false from decide_eq_false fun x => absurd x.2.2.2 (by decide))])
  unfold gA at hG
  first | refine G.call (hG) ?_ | refine G.callC (hG) ?_ | refine G.callL (hG) ?_
  rintro v h11 ⟨rfl,C11,B11,fr11,hC11⟩
  have W0_11 := W0_10.do_ B11 fr11 hC11
  have W5_11 := W5_10.do_ B11 fr11 hC11
  have W6_11 := W6_10.do_ B11 fr11 hC11
  have W7_11 := W7_10.do_ B11 fr11 hC11
  have W9_11 := W9_10.do_ B11 fr11 hC11
  have gX11 := W0_11.at L3 (k := X) (x := bnB β Lb 4 cp ρ) (by simp)
  have gG11 := W0_11.at L3 (k := h1.next) (x := .cells [.int .i64 4, .int .i64 1] 0 false) (by simp)
  have gL11 := W0_11.at L3 (k := Lb) (x := psB ps) (by simp)
  unfold bnB at gX11
  unfold psB at gL11
  have sl127 : sliceE Try.prog 33 (.slice h2.next 0 128 128) none (some (.int .i64 127)) none = some (.slice h2.next 0 127 128) := sl_s_hiN Try.underlying33 sz5 h2.next 0 128 128 127 (by omega)
  simp (maxSteps := 2000000) (implicitDefEqProofs := false) (disch := first | omega | (simp only [SD.down,uA,uL] <;> omega) | fail) only [run_it,s1,s3,s4,s5,gX0,gG0,gXmA,gGmA,cvA,gXaA,gGaA,gX5,gG5,gX6,gG6,bo,bs,gX7,gG7,gL7,co,cs,gp2,gX8,gG8,gL8,gXmB,gGmB,cvB,gXaB,gGaB,gX9,gG9,gX10,gG10,teo,gX11,gG11,sl127,sgA,cls_makeSlice,bsABC,bsABC',cls_cvS,opE_cvS,env_P,env_L,TQ.down,resE,oneV, ↓reduceIte,reduceCtorEq,uB,uE,uL,uA,uM,uS,uN,uX,uO,vR,vD,vL,vK,vE,vA,vM,vT,vS]
  have r127 : (List.replicate 127 7).length = 127 := List.length_replicate ..
  have y127 : ByR h11 (.slice h2.next 0 127 128) (List.replicate 127 7) := .inr (.inl ⟨h2.next,0,128,_,_,_,by rw [r127],by rw [r127]; omega,Nat.lt_of_lt_of_le gn W0_11.r1,W0_11.at L3 (k := h2.next) (x := .cells (B (List.replicate 128 7)) 0 false) (by simp),by kernel_rfl⟩)
  have hH := hputE (d + 2) h11 C11 100 β cp 54 ps b10 l3 4 1 0 (.slice h2.next 0 127 128) .nilslice (List.replicate 127 7) [] 2 (by omega) B11 st10 y127 (.inl ⟨rfl,rfl⟩) (by rw [r127]; omega) (by simp) (show b10.log.length + l3.length * 3 < 3980 by omega) (by unfold jPut; rw [if_neg (by rw [jo]; decide),if_pos (by rw [r127]; decide)])
  unfold gA at hH
  first | refine G.call (hH) ?_ | refine G.callC (hH) ?_ | refine G.callL (hH) ?_
  rintro v h12 ⟨rfl,C12,B12,fr12,hC12⟩
  have W0_12 := W0_11.do_ B12 fr12 hC12
  have W5_12 := W5_11.do_ B12 fr12 hC12
  have W6_12 := W6_11.do_ B12 fr12 hC12
  have W7_12 := W7_11.do_ B12 fr12 hC12
  have W9_12 := W9_11.do_ B12 fr12 hC12
  have gX12 := W0_12.at L3 (k := X) (x := bnB β Lb 4 cp ρ) (by simp)
  have gG12 := W0_12.at L3 (k := h1.next) (x := .cells [.int .i64 4, .int .i64 1] 0 false) (by simp)
  have gL12 := W0_12.at L3 (k := Lb) (x := psB ps) (by simp)
  unfold bnB at gX12
  unfold psB at gL12
  simp (maxSteps := 2000000) (implicitDefEqProofs := false) (disch := first | omega | (simp only [SD.down,uA,uL] <;> omega) | fail) only [run_it,s1,s3,s4,s5,gX0,gG0,gXmA,gGmA,cvA,gXaA,gGaA,gX5,gG5,gX6,gG6,bo,bs,gX7,gG7,gL7,co,cs,gp2,gX8,gG8,gL8,gXmB,gGmB,cvB,gXaB,gGaB,gX9,gG9,gX10,gG10,teo,gX11,gG11,sl127,gX12,gG12,sgA,cls_makeSlice,bsABC,bsABC',cls_cvS,opE_cvS,env_P,env_L,TQ.down,resE,oneV, ↓reduceIte,reduceCtorEq,uB,uE,uL,uA,uM,uS,uN,uX,uO,vR,vD,vL,vK,vE,vA,vM,vT,vS]
  rw [mkB (n := 1217) _ _ (by simp (maxSteps := 2000000) (implicitDefEqProofs := false) (disch := first | omega | (simp only [SD.down,uA,uL] <;> omega) | fail) only [TQ.down,resE,oneV, ↓reduceIte,reduceCtorEq,uB,uE,uL,uA,uM,uS,uN,uX,uO,vR,vD,vL,vK,vE,vA,vM,vT,vS]) (by simp (maxSteps := 2000000) (implicitDefEqProofs := false) (disch := first | omega | (simp only [SD.down,uA,uL] <;> omega) | fail) only [TQ.down,resE,oneV, ↓reduceIte,reduceCtorEq,uB,uE,uL,uA,uM,uS,uN,uX,uO,vR,vD,vL,vK,vE,vA,vM,vT,vS]) (by omega)]
  obtain ⟨zI,hzI⟩ : ∃ z : List Nat,List.replicate 1217 0 = z := ⟨_,rfl⟩
  have lzI : zI.length = 1217 := by rw [<- hzI,List.length_replicate]
  rw [hzI]
  have khI : Keeps h12 (h12.new (Blk.cells (Aw.B zI) 0 false)) := (Keeps.refl h12).post (by simp (maxSteps := 2000000) (implicitDefEqProofs := false) (disch := first | omega | (simp only [SD.down,uA,uL] <;> omega) | fail) only [TQ.down,resE,oneV, ↓reduceIte,reduceCtorEq,uB,uE,uL,uA,uM,uS,uN,uX,uO,vR,vD,vL,vK,vE,vA,vM,vT,vS] <;> omega) (fun j hj => by simp (maxSteps := 2000000) (implicitDefEqProofs := false) (disch := first | omega | (simp only [SD.down,uA,uL] <;> omega) | fail) only [TQ.down,resE,oneV, ↓reduceIte,reduceCtorEq,uB,uE,uL,uA,uM,uS,uN,uX,uO,vR,vD,vL,vK,vE,vA,vM,vT,vS])
  have nhI : (h12.new (Blk.cells (Aw.B zI) 0 false)).next = h12.next + 1 := by simp (maxSteps := 2000000) (implicitDefEqProofs := false) (disch := first | omega | (simp only [SD.down,uA,uL] <;> omega) | fail) only [TQ.down,resE,oneV, ↓reduceIte,reduceCtorEq,uB,uE,uL,uA,uM,uS,uN,uX,uO,vR,vD,vL,vK,vE,vA,vM,vT,vS]
  have ghI : (h12.new (Blk.cells (Aw.B zI) 0 false)).get h12.next = some (.cells (Aw.B zI) 0 false) := by simp (maxSteps := 2000000) (implicitDefEqProofs := false) (disch := first | omega | (simp only [SD.down,uA,uL] <;> omega) | fail) only [TQ.down,resE,oneV, ↓reduceIte,reduceCtorEq,uB,uE,uL,uA,uM,uS,uN,uX,uO,vR,vD,vL,vK,vE,vA,vM,vT,vS]
  generalize h12.new (Blk.cells (Aw.B zI) 0 false) = hhI at khI nhI ghI ⊢
  have yhI : ByR hhI (.slice h12.next 0 1217 1217) zI := .inr (.inl ⟨h12.next,0,1217,_,_,_,by rw [lzI],by rw [lzI]; omega,by omega,ghI,cut_all (by rw [B_len]; exact beq_self_eq_true _)⟩)
  have W0_hI := W0_12.kp khI (C' := (pnt C12 h12.next 0)) fun j hj => pnt_lt hj
  have W5_hI := W5_12.kp khI (C' := (pnt C12 h12.next 0)) fun j hj => pnt_lt hj
  have W6_hI := W6_12.kp khI (C' := (pnt C12 h12.next 0)) fun j hj => pnt_lt hj
  have W7_hI := W7_12.kp khI (C' := (pnt C12 h12.next 0)) fun j hj => pnt_lt hj
  have W9_hI := W9_12.kp khI (C' := (pnt C12 h12.next 0)) fun j hj => pnt_lt hj
  have gXhI := W0_hI.at L3 (k := X) (x := bnB β Lb 4 cp ρ) (by simp)
  have gGhI := W0_hI.at L3 (k := h1.next) (x := .cells [.int .i64 4, .int .i64 1] 0 false) (by simp)
  have gLhI := W0_hI.at L3 (k := Lb) (x := psB ps) (by simp)
  unfold bnB at gXhI
  unfold psB at gLhI
  simp (maxSteps := 2000000) (implicitDefEqProofs := false) (disch := first | omega | (simp only [SD.down,uA,uL] <;> omega) | fail) only [run_it,s1,s3,s4,s5,gX0,gG0,gXmA,gGmA,cvA,gXaA,gGaA,gX5,gG5,gX6,gG6,bo,bs,gX7,gG7,gL7,co,cs,gp2,gX8,gG8,gL8,gXmB,gGmB,cvB,gXaB,gGaB,gX9,gG9,gX10,gG10,teo,gX11,gG11,sl127,gX12,gG12,gXhI,gGhI,sgA,cls_makeSlice,bsABC,bsABC',cls_cvS,opE_cvS,env_P,env_L,TQ.down,resE,oneV, ↓reduceIte,reduceCtorEq,uB,uE,uL,uA,uM,uS,uN,uX,uO,vR,vD,vL,vK,vE,vA,vM,vT,vS]
  have hI := hputE (d + 2) hhI _ 100 β cp 54 ps b10 l3 4 1 0 (.slice h2.next 0 128 128) (.slice h12.next 0 1217 1217) (List.replicate 128 7) zI 3 (by omega) W0_hI.B st10 (W0_hI.by_ yr zr).1 yhI (by rw [r128]; omega) (by rw [lzI]; omega) (by rw [lzI,len4]; show b10.log.length + 4 * (20 + 3) < 3980; omega) (by unfold jPut; rw [if_neg (by rw [jo]; decide),if_neg (by rw [r128]; decide),if_pos (by rw [h21,lzI]; decide)])
  unfold gA at hI
  first | refine G.call (hI) ?_ | refine G.callC (hI) ?_ | refine G.callL (hI) ?_
  rintro v h13 ⟨rfl,C13,B13,fr13,hC13⟩
  have W0_13 := W0_hI.do_ B13 fr13 hC13
  have W5_13 := W5_hI.do_ B13 fr13 hC13
  have W6_13 := W6_hI.do_ B13 fr13 hC13
  have W7_13 := W7_hI.do_ B13 fr13 hC13
  have W9_13 := W9_hI.do_ B13 fr13 hC13
  have gX13 := W0_13.at L3 (k := X) (x := bnB β Lb 4 cp ρ) (by simp)
  have gG13 := W0_13.at L3 (k := h1.next) (x := .cells [.int .i64 4, .int .i64 1] 0 false) (by simp)
  have gL13 := W0_13.at L3 (k := Lb) (x := psB ps) (by simp)
  unfold bnB at gX13
  unfold psB at gL13
  simp (maxSteps := 2000000) (implicitDefEqProofs := false) (disch := first | omega | (simp only [SD.down,uA,uL] <;> omega) | fail) only [run_it,s1,s3,s4,s5,gX0,gG0,gXmA,gGmA,cvA,gXaA,gGaA,gX5,gG5,gX6,gG6,bo,bs,gX7,gG7,gL7,co,cs,gp2,gX8,gG8,gL8,gXmB,gGmB,cvB,gXaB,gGaB,gX9,gG9,gX10,gG10,teo,gX11,gG11,sl127,gX12,gG12,gXhI,gGhI,gX13,gG13,sgA,cls_makeSlice,bsABC,bsABC',cls_cvS,opE_cvS,env_P,env_L,TQ.down,resE,oneV, ↓reduceIte,reduceCtorEq,uB,uE,uL,uA,uM,uS,uN,uX,uO,vR,vD,vL,vK,vE,vA,vM,vT,vS]
  rw [mkB (n := 1216) _ _ (by simp (maxSteps := 2000000) (implicitDefEqProofs := false) (disch := first | omega | (simp only [SD.down,uA,uL] <;> omega) | fail) only [TQ.down,resE,oneV, ↓reduceIte,reduceCtorEq,uB,uE,uL,uA,uM,uS,uN,uX,uO,vR,vD,vL,vK,vE,vA,vM,vT,vS]) (by simp (maxSteps := 2000000) (implicitDefEqProofs := false) (disch := first | omega | (simp only [SD.down,uA,uL] <;> omega) | fail) only [TQ.down,resE,oneV, ↓reduceIte,reduceCtorEq,uB,uE,uL,uA,uM,uS,uN,uX,uO,vR,vD,vL,vK,vE,vA,vM,vT,vS]) (by omega)]
  obtain ⟨zJ,hzJ⟩ : ∃ z : List Nat,List.replicate 1216 0 = z := ⟨_,rfl⟩
  have lzJ : zJ.length = 1216 := by rw [<- hzJ,List.length_replicate]
  rw [hzJ]
  have khJ : Keeps h13 (h13.new (Blk.cells (Aw.B zJ) 0 false)) := (Keeps.refl h13).post (by simp (maxSteps := 2000000) (implicitDefEqProofs := false) (disch := first | omega | (simp only [SD.down,uA,uL] <;> omega) | fail) only [TQ.down,resE,oneV, ↓reduceIte,reduceCtorEq,uB,uE,uL,uA,uM,uS,uN,uX,uO,vR,vD,vL,vK,vE,vA,vM,vT,vS] <;> omega) (fun j hj => by simp (maxSteps := 2000000) (implicitDefEqProofs := false) (disch := first | omega | (simp only [SD.down,uA,uL] <;> omega) | fail) only [TQ.down,resE,oneV, ↓reduceIte,reduceCtorEq,uB,uE,uL,uA,uM,uS,uN,uX,uO,vR,vD,vL,vK,vE,vA,vM,vT,vS])
  have nhJ : (h13.new (Blk.cells (Aw.B zJ) 0 false)).next = h13.next + 1 := by simp (maxSteps := 2000000) (implicitDefEqProofs := false) (disch := first | omega | (simp only [SD.down,uA,uL] <;> omega) | fail) only [TQ.down,resE,oneV, ↓reduceIte,reduceCtorEq,uB,uE,uL,uA,uM,uS,uN,uX,uO,vR,vD,vL,vK,vE,vA,vM,vT,vS]
  have ghJ : (h13.new (Blk.cells (Aw.B zJ) 0 false)).get h13.next = some (.cells (Aw.B zJ) 0 false) := by simp (maxSteps := 2000000) (implicitDefEqProofs := false) (disch := first | omega | (simp only [SD.down,uA,uL] <;> omega) | fail) only [TQ.down,resE,oneV, ↓reduceIte,reduceCtorEq,uB,uE,uL,uA,uM,uS,uN,uX,uO,vR,vD,vL,vK,vE,vA,vM,vT,vS]
  generalize h13.new (Blk.cells (Aw.B zJ) 0 false) = hhJ at khJ nhJ ghJ ⊢
  have yhJ : ByR hhJ (.slice h13.next 0 1216 1216) zJ := .inr (.inl ⟨h13.next,0,1216,_,_,_,by rw [lzJ],by rw [lzJ]; omega,by omega,ghJ,cut_all (by rw [B_len]; exact beq_self_eq_true _)⟩)
  have W0_hJ := W0_13.kp khJ (C' := (pnt C13 h13.next 0)) fun j hj => pnt_lt hj
  have W5_hJ := W5_13.kp khJ (C' := (pnt C13 h13.next 0)) fun j hj => pnt_lt hj
  have W6_hJ := W6_13.kp khJ (C' := (pnt C13 h13.next 0)) fun j hj => pnt_lt hj
  have W7_hJ := W7_13.kp khJ (C' := (pnt C13 h13.next 0)) fun j hj => pnt_lt hj
  have W9_hJ := W9_13.kp khJ (C' := (pnt C13 h13.next 0)) fun j hj => pnt_lt hj
  have gXhJ := W0_hJ.at L3 (k := X) (x := bnB β Lb 4 cp ρ) (by simp)
  have gGhJ := W0_hJ.at L3 (k := h1.next) (x := .cells [.int .i64 4, .int .i64 1] 0 false) (by simp)
  have gLhJ := W0_hJ.at L3 (k := Lb) (x := psB ps) (by simp)
  unfold bnB at gXhJ
  unfold psB at gLhJ
  simp (maxSteps := 2000000) (implicitDefEqProofs := false) (disch := first | omega | (simp only [SD.down,uA,uL] <;> omega) | fail) only [run_it,s1,s3,s4,s5,gX0,gG0,gXmA,gGmA,cvA,gXaA,gGaA,gX5,gG5,gX6,gG6,bo,bs,gX7,gG7,gL7,co,cs,gp2,gX8,gG8,gL8,gXmB,gGmB,cvB,gXaB,gGaB,gX9,gG9,gX10,gG10,teo,gX11,gG11,sl127,gX12,gG12,gXhI,gGhI,gX13,gG13,gXhJ,gGhJ,sgA,cls_makeSlice,bsABC,bsABC',cls_cvS,opE_cvS,env_P,env_L,TQ.down,resE,oneV, ↓reduceIte,reduceCtorEq,uB,uE,uL,uA,uM,uS,uN,uX,uO,vR,vD,vL,vK,vE,vA,vM,vT,vS]
  first | refine G.call (kput (d + 2) hhJ _ β cp ps b10 l3 (.slice h2.next 0 128 128) (.slice h13.next 0 1216 1216) (List.replicate 128 7) zJ W0_hJ.B len4 st10 (W0_hJ.by_ yr zr).1 yhJ r128 (by rw [lzJ]; omega) (by omega)) ?_ | refine G.callC (kput (d + 2) hhJ _ β cp ps b10 l3 (.slice h2.next 0 128 128) (.slice h13.next 0 1216 1216) (List.replicate 128 7) zJ W0_hJ.B len4 st10 (W0_hJ.by_ yr zr).1 yhJ r128 (by rw [lzJ]; omega) (by omega)) ?_ | refine G.callL (kput (d + 2) hhJ _ β cp ps b10 l3 (.slice h2.next 0 128 128) (.slice h13.next 0 1216 1216) (List.replicate 128 7) zJ W0_hJ.B len4 st10 (W0_hJ.by_ yr zr).1 yhJ r128 (by rw [lzJ]; omega) (by omega)) ?_
  rintro v h14 ⟨C14,tj,b14,rfl,owj,ocj,B14,st14,lg14,fr14,hC14⟩
  have tjo := owj.ok
  have tjs := owj.same
  generalize hl4 : l3.map (upC (jPos 4 1 0) (jSecs (List.replicate 128 7) zJ)) = l4 at B14
  have len44 : l4.length = 4 := by rw [<- hl4,List.length_map]; exact len4
  have W0_14 := W0_hJ.do_ B14 fr14 hC14
  have W5_14 := W5_hJ.do_ B14 fr14 hC14
  have W6_14 := W6_hJ.do_ B14 fr14 hC14
  have W7_14 := W7_hJ.do_ B14 fr14 hC14
  have W9_14 := W9_hJ.do_ B14 fr14 hC14
  have gX14 := W0_14.at L3 (k := X) (x := bnB β Lb 4 cp ρ) (by simp)
  have gG14 := W0_14.at L3 (k := h1.next) (x := .cells [.int .i64 4, .int .i64 1] 0 false) (by simp)
  have gL14 := W0_14.at L3 (k := Lb) (x := psB ps) (by simp)
  unfold bnB at gX14
  unfold psB at gL14
  simp (maxSteps := 2000000) (implicitDefEqProofs := false) (disch := first | omega | (simp only [SD.down,uA,uL] <;> omega) | fail) only [run_it,s1,s3,s4,s5,gX0,gG0,gXmA,gGmA,cvA,gXaA,gGaA,gX5,gG5,gX6,gG6,bo,bs,gX7,gG7,gL7,co,cs,gp2,gX8,gG8,gL8,gXmB,gGmB,cvB,gXaB,gGaB,gX9,gG9,gX10,gG10,teo,gX11,gG11,sl127,gX12,gG12,gXhI,gGhI,gX13,gG13,gXhJ,gGhJ,gX14,gG14,tjo,tjs,sgA,cls_makeSlice,bsABC,bsABC',cls_cvS,opE_cvS,env_P,env_L,TQ.down,resE,oneV, ↓reduceIte,reduceCtorEq,uB,uE,uL,uA,uM,uS,uN,uX,uO,vR,vD,vL,vK,vE,vA,vM,vT,vS]
  have hK := hbodyE (d + 2) h14 C14 100 β cp 54 ps b14 l4 4 1 0 0 18 (by omega) B14 st14 (by omega) (by rw [c17]; decide)
  unfold gA at hK
  first | refine G.call (hK) ?_ | refine G.callC (hK) ?_ | refine G.callL (hK) ?_
  rintro v h15 ⟨⟨tk,rfl,tko⟩,C15,B15,fr15,hC15⟩
  have W0_15 := W0_14.do_ B15 fr15 hC15
  have W5_15 := W5_14.do_ B15 fr15 hC15
  have W6_15 := W6_14.do_ B15 fr15 hC15
  have W7_15 := W7_14.do_ B15 fr15 hC15
  have W9_15 := W9_14.do_ B15 fr15 hC15
  have gX15 := W0_15.at L3 (k := X) (x := bnB β Lb 4 cp ρ) (by simp)
  have gG15 := W0_15.at L3 (k := h1.next) (x := .cells [.int .i64 4, .int .i64 1] 0 false) (by simp)
  have gL15 := W0_15.at L3 (k := Lb) (x := psB ps) (by simp)
  unfold bnB at gX15
  unfold psB at gL15
  simp (maxSteps := 2000000) (implicitDefEqProofs := false) (disch := first | omega | (simp only [SD.down,uA,uL] <;> omega) | fail) only [run_it,s1,s3,s4,s5,gX0,gG0,gXmA,gGmA,cvA,gXaA,gGaA,gX5,gG5,gX6,gG6,bo,bs,gX7,gG7,gL7,co,cs,gp2,gX8,gG8,gL8,gXmB,gGmB,cvB,gXaB,gGaB,gX9,gG9,gX10,gG10,teo,gX11,gG11,sl127,gX12,gG12,gXhI,gGhI,gX13,gG13,gXhJ,gGhJ,gX14,gG14,tjo,tjs,gX15,gG15,tko,sgA,cls_makeSlice,bsABC,bsABC',cls_cvS,opE_cvS,env_P,env_L,TQ.down,resE,oneV, ↓reduceIte,reduceCtorEq,uB,uE,uL,uA,uM,uS,uN,uX,uO,vR,vD,vL,vK,vE,vA,vM,vT,vS]
  have hL := hrootE (d + 2) h15 C15 100 β cp 54 ps b14 l4 4 1 0 4 (by omega) B15 st14 (by omega) (decide_eq_false fun x => absurd x.2.2 (by decide))
  unfold gA at hL
  first | refine G.call (hL) ?_ | refine G.callC (hL) ?_ | refine G.callL (hL) ?_
  rintro v h16 ⟨⟨tl,rfl,tlo⟩,C16,B16,fr16,hC16⟩
  have W0_16 := W0_15.do_ B16 fr16 hC16
  have W5_16 := W5_15.do_ B16 fr16 hC16
  have W6_16 := W6_15.do_ B16 fr16 hC16
  have W7_16 := W7_15.do_ B16 fr16 hC16
  have W9_16 := W9_15.do_ B16 fr16 hC16
  have gX16 := W0_16.at L3 (k := X) (x := bnB β Lb 4 cp ρ) (by simp)
  have gG16 := W0_16.at L3 (k := h1.next) (x := .cells [.int .i64 4, .int .i64 1] 0 false) (by simp)
  have gL16 := W0_16.at L3 (k := Lb) (x := psB ps) (by simp)
  unfold bnB at gX16
  unfold psB at gL16
  simp (maxSteps := 2000000) (implicitDefEqProofs := false) (disch := first | omega | (simp only [SD.down,uA,uL] <;> omega) | fail) only [run_it,s1,s3,s4,s5,gX0,gG0,gXmA,gGmA,cvA,gXaA,gGaA,gX5,gG5,gX6,gG6,bo,bs,gX7,gG7,gL7,co,cs,gp2,gX8,gG8,gL8,gXmB,gGmB,cvB,gXaB,gGaB,gX9,gG9,gX10,gG10,teo,gX11,gG11,sl127,gX12,gG12,gXhI,gGhI,gX13,gG13,gXhJ,gGhJ,gX14,gG14,tjo,tjs,gX15,gG15,tko,gX16,gG16,tlo,sgA,cls_makeSlice,bsABC,bsABC',cls_cvS,opE_cvS,env_P,env_L,TQ.down,resE,oneV, ↓reduceIte,reduceCtorEq,uB,uE,uL,uA,uM,uS,uN,uX,uO,vR,vD,vL,vK,vE,vA,vM,vT,vS]
  have hM := put_no (d + 2) h16 .nilptr (.inl rfl) 4 1 0 (.slice h2.next 0 128 128) .nilslice (List.replicate 128 7) [] (W0_16.by_ yr zr).1 (.inl ⟨rfl,rfl⟩)
  unfold gA at hM
  first | refine G.call (hM) ?_ | refine G.callC (hM) ?_ | refine G.callL (hM) ?_
  rintro v h17 ⟨rfl,k17⟩
  have W0_17 := W0_16.kp k17 (C' := (pnt C16 h16.next 0)) fun j hj => pnt_lt hj
  have W5_17 := W5_16.kp k17 (C' := (pnt C16 h16.next 0)) fun j hj => pnt_lt hj
  have W6_17 := W6_16.kp k17 (C' := (pnt C16 h16.next 0)) fun j hj => pnt_lt hj
  have W7_17 := W7_16.kp k17 (C' := (pnt C16 h16.next 0)) fun j hj => pnt_lt hj
  have W9_17 := W9_16.kp k17 (C' := (pnt C16 h16.next 0)) fun j hj => pnt_lt hj
  have gX17 := W0_17.at L3 (k := X) (x := bnB β Lb 4 cp ρ) (by simp)
  have gG17 := W0_17.at L3 (k := h1.next) (x := .cells [.int .i64 4, .int .i64 1] 0 false) (by simp)
  have gL17 := W0_17.at L3 (k := Lb) (x := psB ps) (by simp)
  unfold bnB at gX17
  unfold psB at gL17
  simp (maxSteps := 2000000) (implicitDefEqProofs := false) (disch := first | omega | (simp only [SD.down,uA,uL] <;> omega) | fail) only [run_it,s1,s3,s4,s5,gX0,gG0,gXmA,gGmA,cvA,gXaA,gGaA,gX5,gG5,gX6,gG6,bo,bs,gX7,gG7,gL7,co,cs,gp2,gX8,gG8,gL8,gXmB,gGmB,cvB,gXaB,gGaB,gX9,gG9,gX10,gG10,teo,gX11,gG11,sl127,gX12,gG12,gXhI,gGhI,gX13,gG13,gXhJ,gGhJ,gX14,gG14,tjo,tjs,gX15,gG15,tko,gX16,gG16,tlo,gX17,gG17,sgA,cls_makeSlice,bsABC,bsABC',cls_cvS,opE_cvS,env_P,env_L,TQ.down,resE,oneV, ↓reduceIte,reduceCtorEq,uB,uE,uL,uA,uM,uS,uN,uX,uO,vR,vD,vL,vK,vE,vA,vM,vT,vS]
  have khZ : Keeps h17 (h17.new (Blk.cells [AV.nilslice,AV.nilptr,AV.nilslice,AV.bool false,AV.nilslice] 0 false)) := (Keeps.refl h17).post (by simp (maxSteps := 2000000) (implicitDefEqProofs := false) (disch := first | omega | (simp only [SD.down,uA,uL] <;> omega) | fail) only [TQ.down,resE,oneV, ↓reduceIte,reduceCtorEq,uB,uE,uL,uA,uM,uS,uN,uX,uO,vR,vD,vL,vK,vE,vA,vM,vT,vS] <;> omega) (fun j hj => by simp (maxSteps := 2000000) (implicitDefEqProofs := false) (disch := first | omega | (simp only [SD.down,uA,uL] <;> omega) | fail) only [TQ.down,resE,oneV, ↓reduceIte,reduceCtorEq,uB,uE,uL,uA,uM,uS,uN,uX,uO,vR,vD,vL,vK,vE,vA,vM,vT,vS])
  have nhZ : (h17.new (Blk.cells [AV.nilslice,AV.nilptr,AV.nilslice,AV.bool false,AV.nilslice] 0 false)).next = h17.next + 1 := by simp (maxSteps := 2000000) (implicitDefEqProofs := false) (disch := first | omega | (simp only [SD.down,uA,uL] <;> omega) | fail) only [TQ.down,resE,oneV, ↓reduceIte,reduceCtorEq,uB,uE,uL,uA,uM,uS,uN,uX,uO,vR,vD,vL,vK,vE,vA,vM,vT,vS]
  have ghZ : (h17.new (Blk.cells [AV.nilslice,AV.nilptr,AV.nilslice,AV.bool false,AV.nilslice] 0 false)).get h17.next = some (.cells [AV.nilslice,AV.nilptr,AV.nilslice,AV.bool false,AV.nilslice] 0 false) := by simp (maxSteps := 2000000) (implicitDefEqProofs := false) (disch := first | omega | (simp only [SD.down,uA,uL] <;> omega) | fail) only [TQ.down,resE,oneV, ↓reduceIte,reduceCtorEq,uB,uE,uL,uA,uM,uS,uN,uX,uO,vR,vD,vL,vK,vE,vA,vM,vT,vS]
  generalize h17.new (Blk.cells [AV.nilslice,AV.nilptr,AV.nilslice,AV.bool false,AV.nilslice] 0 false) = hhZ at khZ nhZ ghZ ⊢
  have W0_hZ := W0_17.kp khZ (C' := (pnt (pnt C16 h16.next 0) h17.next 0)) fun j hj => pnt_lt hj
  have W5_hZ := W5_17.kp khZ (C' := (pnt (pnt C16 h16.next 0) h17.next 0)) fun j hj => pnt_lt hj
  have W6_hZ := W6_17.kp khZ (C' := (pnt (pnt C16 h16.next 0) h17.next 0)) fun j hj => pnt_lt hj
  have W7_hZ := W7_17.kp khZ (C' := (pnt (pnt C16 h16.next 0) h17.next 0)) fun j hj => pnt_lt hj
  have W9_hZ := W9_17.kp khZ (C' := (pnt (pnt C16 h16.next 0) h17.next 0)) fun j hj => pnt_lt hj
  have gXhZ := W0_hZ.at L3 (k := X) (x := bnB β Lb 4 cp ρ) (by simp)
  have gGhZ := W0_hZ.at L3 (k := h1.next) (x := .cells [.int .i64 4, .int .i64 1] 0 false) (by simp)
  have gLhZ := W0_hZ.at L3 (k := Lb) (x := psB ps) (by simp)
  unfold bnB at gXhZ
  unfold psB at gLhZ
  simp (maxSteps := 2000000) (implicitDefEqProofs := false) (disch := first | omega | (simp only [SD.down,uA,uL] <;> omega) | fail) only [run_it,s1,s3,s4,s5,gX0,gG0,gXmA,gGmA,cvA,gXaA,gGaA,gX5,gG5,gX6,gG6,bo,bs,gX7,gG7,gL7,co,cs,gp2,gX8,gG8,gL8,gXmB,gGmB,cvB,gXaB,gGaB,gX9,gG9,gX10,gG10,teo,gX11,gG11,sl127,gX12,gG12,gXhI,gGhI,gX13,gG13,gXhJ,gGhJ,gX14,gG14,tjo,tjs,gX15,gG15,tko,gX16,gG16,tlo,gX17,gG17,gXhZ,gGhZ,sgA,cls_makeSlice,bsABC,bsABC',cls_cvS,opE_cvS,env_P,env_L,TQ.down,resE,oneV, ↓reduceIte,reduceCtorEq,uB,uE,uL,uA,uM,uS,uN,uX,uO,vR,vD,vL,vK,vE,vA,vM,vT,vS]
  have hN := root_no (d + 2) hhZ (.ptr h17.next 0) (.inr ⟨h17.next,rfl,by omega,ghZ⟩) 4 1 0 0
  unfold gA at hN
  first | refine G.call (hN) ?_ | refine G.callC (hN) ?_ | refine G.callL (hN) ?_
  rintro v h18 ⟨rfl,k18⟩
  have W0_18 := W0_hZ.kp k18 (C' := (pnt (pnt (pnt C16 h16.next 0) h17.next 0) hhZ.next 0)) fun j hj => pnt_lt hj
  have W5_18 := W5_hZ.kp k18 (C' := (pnt (pnt (pnt C16 h16.next 0) h17.next 0) hhZ.next 0)) fun j hj => pnt_lt hj
  have W6_18 := W6_hZ.kp k18 (C' := (pnt (pnt (pnt C16 h16.next 0) h17.next 0) hhZ.next 0)) fun j hj => pnt_lt hj
  have W7_18 := W7_hZ.kp k18 (C' := (pnt (pnt (pnt C16 h16.next 0) h17.next 0) hhZ.next 0)) fun j hj => pnt_lt hj
  have W9_18 := W9_hZ.kp k18 (C' := (pnt (pnt (pnt C16 h16.next 0) h17.next 0) hhZ.next 0)) fun j hj => pnt_lt hj
  have gX18 := W0_18.at L3 (k := X) (x := bnB β Lb 4 cp ρ) (by simp)
  have gG18 := W0_18.at L3 (k := h1.next) (x := .cells [.int .i64 4, .int .i64 1] 0 false) (by simp)
  have gL18 := W0_18.at L3 (k := Lb) (x := psB ps) (by simp)
  unfold bnB at gX18
  unfold psB at gL18
  simp (maxSteps := 2000000) (implicitDefEqProofs := false) (disch := first | omega | (simp only [SD.down,uA,uL] <;> omega) | fail) only [run_it,s1,s3,s4,s5,gX0,gG0,gXmA,gGmA,cvA,gXaA,gGaA,gX5,gG5,gX6,gG6,bo,bs,gX7,gG7,gL7,co,cs,gp2,gX8,gG8,gL8,gXmB,gGmB,cvB,gXaB,gGaB,gX9,gG9,gX10,gG10,teo,gX11,gG11,sl127,gX12,gG12,gXhI,gGhI,gX13,gG13,gXhJ,gGhJ,gX14,gG14,tjo,tjs,gX15,gG15,tko,gX16,gG16,tlo,gX17,gG17,gXhZ,gGhZ,gX18,gG18,sgA,cls_makeSlice,bsABC,bsABC',cls_cvS,opE_cvS,env_P,env_L,TQ.down,resE,oneV, ↓reduceIte,reduceCtorEq,uB,uE,uL,uA,uM,uS,uN,uX,uO,vR,vD,vL,vK,vE,vA,vM,vT,vS]
  have hO := body_no (d + 2) h18 .nilptr (.inl rfl) 4 1 0 0 0
  unfold gA at hO
  first | refine G.call (hO) ?_ | refine G.callC (hO) ?_ | refine G.callL (hO) ?_
  rintro v h19 ⟨rfl,k19⟩
  have g51 : overE 0 [AV.int .i64 5, .int .i64 1] (List.replicate 2 (AV.int .i64 0)) = some [.int .i64 5, .int .i64 1] := rfl
  have g51' : ((List.replicate 2 (AV.int .i64 0)).set 0 (.int .i64 5)).set 1 (.int .i64 1) = [.int .i64 5, .int .i64 1] := rfl
  have W0_19 := W0_18.kp k19 (C' := (pnt (pnt (pnt (pnt C16 h16.next 0) h17.next 0) hhZ.next 0) h18.next 0)) fun j hj => pnt_lt hj
  have W5_19 := W5_18.kp k19 (C' := (pnt (pnt (pnt (pnt C16 h16.next 0) h17.next 0) hhZ.next 0) h18.next 0)) fun j hj => pnt_lt hj
  have W6_19 := W6_18.kp k19 (C' := (pnt (pnt (pnt (pnt C16 h16.next 0) h17.next 0) hhZ.next 0) h18.next 0)) fun j hj => pnt_lt hj
  have W7_19 := W7_18.kp k19 (C' := (pnt (pnt (pnt (pnt C16 h16.next 0) h17.next 0) hhZ.next 0) h18.next 0)) fun j hj => pnt_lt hj
  have W9_19 := W9_18.kp k19 (C' := (pnt (pnt (pnt (pnt C16 h16.next 0) h17.next 0) hhZ.next 0) h18.next 0)) fun j hj => pnt_lt hj
  have gX19 := W0_19.at L3 (k := X) (x := bnB β Lb 4 cp ρ) (by simp)
  have gG19 := W0_19.at L3 (k := h1.next) (x := .cells [.int .i64 4, .int .i64 1] 0 false) (by simp)
  have gL19 := W0_19.at L3 (k := Lb) (x := psB ps) (by simp)
  unfold bnB at gX19
  unfold psB at gL19
  simp (maxSteps := 2000000) (implicitDefEqProofs := false) (disch := first | omega | (simp only [SD.down,uA,uL] <;> omega) | fail) only [run_it,s1,s3,s4,s5,gX0,gG0,gXmA,gGmA,cvA,gXaA,gGaA,gX5,gG5,gX6,gG6,bo,bs,gX7,gG7,gL7,co,cs,gp2,gX8,gG8,gL8,gXmB,gGmB,cvB,gXaB,gGaB,gX9,gG9,gX10,gG10,teo,gX11,gG11,sl127,gX12,gG12,gXhI,gGhI,gX13,gG13,gXhJ,gGhJ,gX14,gG14,tjo,tjs,gX15,gG15,tko,gX16,gG16,tlo,gX17,gG17,gXhZ,gGhZ,gX18,gG18,g51,g51',gX19,gG19,sgA,cls_makeSlice,bsABC,bsABC',cls_cvS,opE_cvS,env_P,env_L,TQ.down,resE,oneV, ↓reduceIte,reduceCtorEq,uB,uE,uL,uA,uM,uS,uN,uX,uO,vR,vD,vL,vK,vE,vA,vM,vT,vS]
  have bm14 : b14.ms.length = 4 := by rw [B14.len,len44]
  have hP := hputE (d + 2) h19 _ 100 β cp 54 ps b14 l4 5 1 0 (.slice h2.next 0 128 128) .nilslice (List.replicate 128 7) [] 2 (by omega) W0_19.B st14 (W0_19.by_ yr zr).1 (.inl ⟨rfl,rfl⟩) (by rw [r128]; omega) (by simp) (show b14.log.length + l4.length * 3 < 3980 by omega) (by unfold jPut; rw [if_pos (show jOk b14.ms.length 5 1 0 = false from decide_eq_false fun x => by have := x.2.1; rw [bm14] at this; exact absurd this (by decide))])
  unfold gA at hP
  first | refine G.call (hP) ?_ | refine G.callC (hP) ?_ | refine G.callL (hP) ?_
  rintro v h20 ⟨rfl,C20,B20,fr20,hC20⟩
  have W0_20 := W0_19.do_ B20 fr20 hC20
  have W5_20 := W5_19.do_ B20 fr20 hC20
  have W6_20 := W6_19.do_ B20 fr20 hC20
  have W7_20 := W7_19.do_ B20 fr20 hC20
  have W9_20 := W9_19.do_ B20 fr20 hC20
  have ga20 : h20.get Ka = some (.cells (iA [0,1,2,3]) 1 false) := (W5_20.r2 Ka hKa cKa).trans gKa'
  have gd20 : h20.get Kd = some (.cells (iA [0,1,3]) 1 false) := (W9_20.r2 Kd hKd cKd).trans gKd'
  have iA4 : iA [0,1,2,3] = [.int .i64 0, .int .i64 1, .int .i64 2, .int .i64 3] := rfl
  have iA3 : iA [0,1,3] = [.int .i64 0, .int .i64 1, .int .i64 3] := rfl
  rw [iA4] at ga20
  rw [iA3] at gd20
  have e6 := (W6_20.by_ by6 fun K e => (bk6 K e).2).1.str
  have er := (W0_20.by_ yr zr).1.str
  have y7 := (W7_20.by_ by7 fun K e => (bk7 K e).2).1
  have ok1 : Img.ok D1 := (B6.w.w.ms (calmM 54 (D1,false,false)) (by rw [B6.c.ms]; simp [c4])).dur
  obtain ⟨lc,c4m⟩ := body_abc ok1 hold
  obtain ⟨u7,eu7,yu7⟩ := y7.head 4 (by rw [lc]; omega)
  obtain ⟨uo,us,ul⟩ := yu7.ok
  have e7 := yu7.str
  rw [c4m] at e7
  rw [lc] at cl
  have eR : M (rdC (jPos 4 1 0) D1 0 2) = M (List.replicate 128 7) := rd_root _ _ _ [97,98,99] r128 (fun k hk => hold k (by rw [jSecs_len]; exact hk))
  have d1 : decide ((rdC (jPos 4 1 0) D1 0 2).map (· % 256) = (List.replicate 128 7).map (· % 256)) = true := decide_eq_true eR
  have nstr : binE Try.prog .neq 9 (.str [97,98,99,0]) (.str [97,98,99,0]) = some (.bool false) := by kernel_rfl
  rw [show ((4 : Nat) : Int) = 4 from rfl] at eu7
  have ofs : ofV (Value.string { data := #[97,98,99,0] }) = .str [97,98,99,0] := rfl
  simp (maxSteps := 2000000) (implicitDefEqProofs := false) (disch := first | omega | (simp only [SD.down,uA,uL] <;> omega) | fail) only [run_it,s1,s3,s4,s5,gX0,gG0,gXmA,gGmA,cvA,gXaA,gGaA,gX5,gG5,gX6,gG6,bo,bs,gX7,gG7,gL7,co,cs,gp2,gX8,gG8,gL8,gXmB,gGmB,cvB,gXaB,gGaB,gX9,gG9,gX10,gG10,teo,gX11,gG11,sl127,gX12,gG12,gXhI,gGhI,gX13,gG13,gXhJ,gGhJ,gX14,gG14,tjo,tjs,gX15,gG15,tko,gX16,gG16,tlo,gX17,gG17,gXhZ,gGhZ,gX18,gG18,g51,g51',gX19,gG19,ga20,gd20,e6,er,cl,eu7,uo,us,e7,cvc,cvo,cvr,bin_neq_str,d1,nstr,ofs,same_str,sgA,cls_makeSlice,bsABC,bsABC',cls_cvS,opE_cvS,env_P,env_L,TQ.down,resE,oneV, ↓reduceIte,reduceCtorEq,uB,uE,uL,uA,uM,uS,uN,uX,uO,vR,vD,vL,vK,vE,vA,vM,vT,vS]
  first | refine G.call (works_ok d h20) ?_ | refine G.callC (works_ok d h20) ?_ | refine G.callL (works_ok d h20) ?_
  rintro v hw rfl
  simp (maxSteps := 2000000) (implicitDefEqProofs := false) (disch := first | omega | (simp only [SD.down,uA,uL] <;> omega) | fail) only [env_P,env_L,TQ.down,resE,oneV, ↓reduceIte,reduceCtorEq,uB,uE,uL,uA,uM,uS,uN,uX,uO,vR,vD,vL,vK,vE,vA,vM,vT,vS]
  subst hX
  exact G.ok rfl
 ·rintro j mm σ hh ⟨q,hq,s1,s3,s4,s5,g0,gn,k⟩ ih
  have hqn : q < 128 := by omega
  have hl : (B (List.replicate q 7 ++ List.replicate (128 - q) 0)).length = 128 := by rw [B_len]; simp; omega
  simp (maxSteps := 2000000) (implicitDefEqProofs := false) (disch := first | omega | (simp only [SD.down,uA,uL] <;> omega) | fail) only [run_it,s1,s3,s4,s5,g0,hqn,hl,env_P,env_L,TQ.down,resE,oneV, ↓reduceIte,reduceCtorEq,uB,uE,uL,uA,uM,uS,uN,uX,uO,vR,vD,vL,vK,vE,vA,vM,vT,vS]
  have es : (List.replicate q 7 ++ List.replicate (128 - q) 0).set q 7 = List.replicate (q + 1) 7 ++ List.replicate (128 - (q + 1)) 0 := by
   rw [List.set_append_right _ _ (by simp),List.length_replicate,Nat.sub_self,show 128 - q = (128 - (q + 1)) + 1 by omega,List.replicate_succ,List.set_cons_zero]
   rw [show List.replicate (q + 1) 7 = List.replicate q 7 ++ [7] from List.replicate_succ' ..]
   simp
  refine ih _ _ ⟨q + 1,by omega,by simp (maxSteps := 2000000) (implicitDefEqProofs := false) (disch := first | omega | (simp only [SD.down,uA,uL] <;> omega) | fail) only [s1,TQ.down,resE,oneV, ↓reduceIte,reduceCtorEq,uB,uE,uL,uA,uM,uS,uN,uX,uO,vR,vD,vL,vK,vE,vA,vM,vT,vS],by simp (maxSteps := 2000000) (implicitDefEqProofs := false) (disch := first | omega | (simp only [SD.down,uA,uL] <;> omega) | fail) only [s3,TQ.down,resE,oneV, ↓reduceIte,reduceCtorEq,uB,uE,uL,uA,uM,uS,uN,uX,uO,vR,vD,vL,vK,vE,vA,vM,vT,vS],by simp (maxSteps := 2000000) (implicitDefEqProofs := false) (disch := first | omega | (simp only [SD.down,uA,uL] <;> omega) | fail) only [s4,TQ.down,resE,oneV, ↓reduceIte,reduceCtorEq,uB,uE,uL,uA,uM,uS,uN,uX,uO,vR,vD,vL,vK,vE,vA,vM,vT,vS],by simp (maxSteps := 2000000) (implicitDefEqProofs := false) (disch := first | omega | (simp only [SD.down,uA,uL] <;> omega) | fail) only [TQ.down,resE,oneV, ↓reduceIte,reduceCtorEq,uB,uE,uL,uA,uM,uS,uN,uX,uO,vR,vD,vL,vK,vE,vA,vM,vT,vS],by rw [<- es]; simp (maxSteps := 2000000) (implicitDefEqProofs := false) (disch := first | omega | (simp only [SD.down,uA,uL] <;> omega) | fail) only [TQ.down,resE,oneV, ↓reduceIte,reduceCtorEq,uB,uE,uL,uA,uM,uS,uN,uX,uO,vR,vD,vL,vK,vE,vA,vM,vT,vS],by simp (maxSteps := 2000000) (implicitDefEqProofs := false) (disch := first | omega | (simp only [SD.down,uA,uL] <;> omega) | fail) only [TQ.down,resE,oneV, ↓reduceIte,reduceCtorEq,uB,uE,uL,uA,uM,uS,uN,uX,uO,vR,vD,vL,vK,vE,vA,vM,vT,vS] <;> omega,⟨by simp (maxSteps := 2000000) (implicitDefEqProofs := false) (disch := first | omega | (simp only [SD.down,uA,uL] <;> omega) | fail) only [TQ.down,resE,oneV, ↓reduceIte,reduceCtorEq,uB,uE,uL,uA,uM,uS,uN,uX,uO,vR,vD,vL,vK,vE,vA,vM,vT,vS]; exact k.1,fun j hj => by
   have : j ≠ h2.next := by omega
   simp (maxSteps := 2000000) (implicitDefEqProofs := false) (disch := first | omega | (simp only [SD.down,uA,uL] <;> omega) | fail) only [TQ.down,resE,oneV, ↓reduceIte,reduceCtorEq,uB,uE,uL,uA,uM,uS,uN,uX,uO,vR,vD,vL,vK,vE,vA,vM,vT,vS]
   exact k.2 j hj⟩⟩
 ·exact ⟨0,by omega,by simp (maxSteps := 2000000) (implicitDefEqProofs := false) (disch := first | omega | (simp only [SD.down,uA,uL] <;> omega) | fail) only [TQ.down,resE,oneV, ↓reduceIte,reduceCtorEq,uB,uE,uL,uA,uM,uS,uN,uX,uO,vR,vD,vL,vK,vE,vA,vM,vT,vS],by simp (maxSteps := 2000000) (implicitDefEqProofs := false) (disch := first | omega | (simp only [SD.down,uA,uL] <;> omega) | fail) only [TQ.down,resE,oneV, ↓reduceIte,reduceCtorEq,uB,uE,uL,uA,uM,uS,uN,uX,uO,vR,vD,vL,vK,vE,vA,vM,vT,vS],by simp (maxSteps := 2000000) (implicitDefEqProofs := false) (disch := first | omega | (simp only [SD.down,uA,uL] <;> omega) | fail) only [TQ.down,resE,oneV, ↓reduceIte,reduceCtorEq,uB,uE,uL,uA,uM,uS,uN,uX,uO,vR,vD,vL,vK,vE,vA,vM,vT,vS],by simp (maxSteps := 2000000) (implicitDefEqProofs := false) (disch := first | omega | (simp only [SD.down,uA,uL] <;> omega) | fail) only [TQ.down,resE,oneV, ↓reduceIte,reduceCtorEq,uB,uE,uL,uA,uM,uS,uN,uX,uO,vR,vD,vL,vK,vE,vA,vM,vT,vS],by simp (maxSteps := 2000000) (implicitDefEqProofs := false) (disch := first | omega | (simp only [SD.down,uA,uL] <;> omega) | fail) only [TQ.down,resE,oneV, ↓reduceIte,reduceCtorEq,uB,uE,uL,uA,uM,uS,uN,uX,uO,vR,vD,vL,vK,vE,vA,vM,vT,vS]; simp,by simp (maxSteps := 2000000) (implicitDefEqProofs := false) (disch := first | omega | (simp only [SD.down,uA,uL] <;> omega) | fail) only [TQ.down,resE,oneV, ↓reduceIte,reduceCtorEq,uB,uE,uL,uA,uM,uS,uN,uX,uO,vR,vD,vL,vK,vE,vA,vM,vT,vS] <;> omega,(Keeps.refl h2).post (by simp (maxSteps := 2000000) (implicitDefEqProofs := false) (disch := first | omega | (simp only [SD.down,uA,uL] <;> omega) | fail) only [TQ.down,resE,oneV, ↓reduceIte,reduceCtorEq,uB,uE,uL,uA,uM,uS,uN,uX,uO,vR,vD,vL,vK,vE,vA,vM,vT,vS] <;> omega) (fun j hj => by simp (maxSteps := 2000000) (implicitDefEqProofs := false) (disch := first | omega | (simp only [SD.down,uA,uL] <;> omega) | fail) only [TQ.down,resE,oneV, ↓reduceIte,reduceCtorEq,uB,uE,uL,uA,uM,uS,uN,uX,uO,vR,vD,vL,vK,vE,vA,vM,vT,vS])⟩
end Go.Proofs.Ytlnepbkeiianmaa
