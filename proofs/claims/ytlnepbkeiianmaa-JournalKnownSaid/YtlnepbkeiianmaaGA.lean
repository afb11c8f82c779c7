/- Of this program, for all inputs: contracts. No condition but those in the theorems. -/
import Derived.Test.YtlnepbkeiianmaaPC
namespace Go.Proofs.Ytlnepbkeiianmaa
open Go Go.Ai Go.Aw Go.Proofs
open Nat renaming reduceBEq -> uB,reduceEqDiff -> uE,reduceLT -> uL,reduceAdd -> uA,reduceMul -> uM,reduceSub -> uS,reduceAnd -> uN,reduceXor -> uX,reduceOr -> uO
open Int renaming reduceMod -> vR,reduceDiv -> vD,reduceLT -> vL,reduceLE -> vK,reduceEq -> vE,reduceAdd -> vA,reduceMul -> vM,reduceToNat -> vT,reduceSub -> vS
set_option linter.unusedSimpArgs false
set_option linter.unusedVariables false
set_option maxRecDepth 10000
theorem Keeps.pre {a b c : Heap} (y : Keeps b c) (h1 : a.next <= b.next) (h2 : ∀ j,j < a.next -> b.get j = a.get j) : Keeps a c := Keeps.trans ⟨h1,h2⟩ y
theorem Keeps.post {a b c : Heap} (x : Keeps a b) (h1 : b.next <= c.next) (h2 : ∀ j,j < b.next -> c.get j = b.get j) : Keeps a c := Keeps.trans x ⟨h1,h2⟩
/-! geometry -/
def gOk (m r : Int) : Bool := decide (4 <= m /\ m <= 64 /\ 1 <= r /\ r <= 64)
def gA (m r : Int) : AV := .agg [.int .i64 m, .int .i64 r]
def hgt (n : Nat) : Nat := if n <= 1 then 0 else Nat.log2 (n - 1) + 1
theorem hgt_lt {q n : Nat} : q < hgt n ↔ 2 ^ q < n := by
 unfold hgt
 split
 ·rename_i h
  have := Nat.one_le_two_pow (n := q)
  omega
 ·rename_i h
  rw [Nat.lt_succ_iff,Nat.le_log2 (by omega)]
  omega
theorem hgt_le {n : Nat} (h : n <= 4096) : hgt n <= 12 := by
 rcases Nat.lt_or_ge 12 (hgt n) with q | q
 ·have := hgt_lt.1 q
  omega
 ·exact q
def gLeaves (m r : Int) : Nat := if gOk m r then (m * r).toNat else 0
def gHeight (m r : Int) : Nat := hgt (gLeaves m r)
def gNodes (m r : Int) : Nat := 2 ^ gHeight m r - 1
def gCap (m r : Int) : Nat := if gOk m r then (max 6 m).toNat + min ((max 6 m).toNat * gHeight m r) (gNodes m r) + 8 else 0
def gHalf (m r : Int) : Nat := if gOk m r then 2 + (69 * gCap m r + 63) / 64 else 0
theorem gOk_t {m r : Int} (h : gOk m r = true) : 4 <= m /\ m <= 64 /\ 1 <= r /\ r <= 64 := of_decide_eq_true h
theorem gOk_f {m r : Int} (h : gOk m r = false) : ¬ (4 <= m /\ m <= 64 /\ 1 <= r /\ r <= 64) := of_decide_eq_false h
theorem mul_le {m r : Int} (h : gOk m r = true) : 0 <= m * r /\ m * r <= 4096 := by
 obtain ⟨h1,h2,h3,h4⟩ := gOk_t h
 constructor
 ·exact Int.mul_nonneg (by omega) (by omega)
 ·exact Int.le_trans (Int.mul_le_mul h2 h4 (by omega) (by omega)) (by decide)
theorem gLeaves_le (m r : Int) : gLeaves m r <= 4096 := by
 unfold gLeaves
 split
 ·rename_i h
  have := mul_le h
  omega
 ·omega
theorem gHeight_le (m r : Int) : gHeight m r <= 12 := hgt_le (gLeaves_le m r)
theorem gNodes_le (m r : Int) : gNodes m r <= 4095 := by
 have := Nat.pow_le_pow_right (n := 2) (by omega) (gHeight_le m r)
 unfold gNodes
 omega
theorem gCap_le (m r : Int) : gCap m r <= 850 := by
 unfold gCap
 split
 ·rename_i h
  obtain ⟨h1,h2,h3,h4⟩ := gOk_t h
  have e : (max 6 m).toNat <= 64 := by omega
  have := Nat.mul_le_mul e (gHeight_le m r)
  omega
 ·omega
theorem gHalf_le (m r : Int) : gHalf m r <= 920 := by
 unfold gHalf
 have := gCap_le m r
 split <;> omega
theorem shl1 {q : Nat} (h : q <= 12) : wrapA .i64 (1 * 2 ^ q) = ((2 ^ q : Nat) : Int) := by
 have hp := Nat.pow_le_pow_right (n := 2) (by omega) h
 have e : (2 : Int) ^ q = ((2 ^ q : Nat) : Int) := (Int.natCast_pow 2 q).symm
 rw [Int.one_mul,e,wrap_i64 (Int.natCast_nonneg _) (by generalize 2 ^ q = X at *; omega)]
theorem chk_ok (d : Nat) (h : Heap) (m r : Int) : callD env (d + 1) 49 [gA m r] h = some (.int .i64 (cond (gOk m r) 0 2),h.new (.cells [.int .i64 m, .int .i64 r] 0 false)) := by
 unfold gA
 cases hg : gOk m r with
 | true =>
  obtain ⟨h1,h2,h3,h4⟩ := gOk_t hg
  rw [callD_run (E := env) [] (by kernel_rfl) Try.func49 rfl (by rw [Try.ntmps49]; simp) (by kernel_rfl)]; simp (maxSteps := 2000000) (implicitDefEqProofs := false) (disch := first | omega | (simp only [SD.down,uA,uL] <;> omega) | fail) only [Try.ntmps49,Try.results49,env_P,env_L,cond_true,TQ.down,resE,oneV, ↓reduceIte,reduceCtorEq,uB,uE,uL,uA,uM,uS,uN,uX,uO,vR,vD,vL,vK,vE,vA,vM,vT,vS]
 | false =>
  have hn := gOk_f hg
  by_cases h1 : m < 4
  ·rw [callD_run (E := env) [] (by kernel_rfl) Try.func49 rfl (by rw [Try.ntmps49]; simp) (by kernel_rfl)]; simp (maxSteps := 2000000) (implicitDefEqProofs := false) (disch := first | omega | (simp only [SD.down,uA,uL] <;> omega) | fail) only [Try.ntmps49,Try.results49,env_P,env_L,cond_false,TQ.down,resE,oneV, ↓reduceIte,reduceCtorEq,uB,uE,uL,uA,uM,uS,uN,uX,uO,vR,vD,vL,vK,vE,vA,vM,vT,vS]
  by_cases h2 : 64 < m
  ·rw [callD_run (E := env) [] (by kernel_rfl) Try.func49 rfl (by rw [Try.ntmps49]; simp) (by kernel_rfl)]; simp (maxSteps := 2000000) (implicitDefEqProofs := false) (disch := first | omega | (simp only [SD.down,uA,uL] <;> omega) | fail) only [Try.ntmps49,Try.results49,env_P,env_L,cond_false,TQ.down,resE,oneV, ↓reduceIte,reduceCtorEq,uB,uE,uL,uA,uM,uS,uN,uX,uO,vR,vD,vL,vK,vE,vA,vM,vT,vS]
  by_cases h3 : r < 1
  ·rw [callD_run (E := env) [] (by kernel_rfl) Try.func49 rfl (by rw [Try.ntmps49]; simp) (by kernel_rfl)]; simp (maxSteps := 2000000) (implicitDefEqProofs := false) (disch := first | omega | (simp only [SD.down,uA,uL] <;> omega) | fail) only [Try.ntmps49,Try.results49,env_P,env_L,cond_false,TQ.down,resE,oneV, ↓reduceIte,reduceCtorEq,uB,uE,uL,uA,uM,uS,uN,uX,uO,vR,vD,vL,vK,vE,vA,vM,vT,vS]
  have h4 : 64 < r := by omega
  rw [callD_run (E := env) [] (by kernel_rfl) Try.func49 rfl (by rw [Try.ntmps49]; simp) (by kernel_rfl)]; simp (maxSteps := 2000000) (implicitDefEqProofs := false) (disch := first | omega | (simp only [SD.down,uA,uL] <;> omega) | fail) only [Try.ntmps49,Try.results49,env_P,env_L,cond_false,TQ.down,resE,oneV, ↓reduceIte,reduceCtorEq,uB,uE,uL,uA,uM,uS,uN,uX,uO,vR,vD,vL,vK,vE,vA,vM,vT,vS]
theorem is_ok (d : Nat) (h : Heap) (m r : Int) : G (callD env (d + 2) 50 [gA m r] h) fun v h' => v = .bool (gOk m r) /\ Keeps h h' := by
 refine G.gen fun Q hX => ?_
 unfold gA
 cases hg : gOk m r with
 | true =>
  have e := fun (d : Nat) (h : Heap) => chk_ok d h m r
  unfold gA at e
  rw [hg] at e
  rw [callD_run (E := env) [] (by kernel_rfl) Try.func50 rfl (by rw [Try.ntmps50]; simp) (by kernel_rfl)]; simp (maxSteps := 2000000) (implicitDefEqProofs := false) (disch := first | omega | (simp only [SD.down,uA,uL] <;> omega) | fail) only [Try.ntmps50,Try.results50,env_P,env_L,e,cond_true,TQ.down,resE,oneV, ↓reduceIte,reduceCtorEq,uB,uE,uL,uA,uM,uS,uN,uX,uO,vR,vD,vL,vK,vE,vA,vM,vT,vS]
  subst hX
  exact G.ok ⟨by rw [hg],(Keeps.refl h).post (by simp (maxSteps := 2000000) (implicitDefEqProofs := false) (disch := first | omega | (simp only [SD.down,uA,uL] <;> omega) | fail) only [TQ.down,resE,oneV, ↓reduceIte,reduceCtorEq,uB,uE,uL,uA,uM,uS,uN,uX,uO,vR,vD,vL,vK,vE,vA,vM,vT,vS] <;> omega) (fun j hj => by simp (maxSteps := 2000000) (implicitDefEqProofs := false) (disch := first | omega | (simp only [SD.down,uA,uL] <;> omega) | fail) only [TQ.down,resE,oneV, ↓reduceIte,reduceCtorEq,uB,uE,uL,uA,uM,uS,uN,uX,uO,vR,vD,vL,vK,vE,vA,vM,vT,vS])⟩
 | false =>
  have e := fun (d : Nat) (h : Heap) => chk_ok d h m r
  unfold gA at e
  rw [hg] at e
  rw [callD_run (E := env) [] (by kernel_rfl) Try.func50 rfl (by rw [Try.ntmps50]; simp) (by kernel_rfl)]; simp (maxSteps := 2000000) (implicitDefEqProofs := false) (disch := first | omega | (simp only [SD.down,uA,uL] <;> omega) | fail) only [Try.ntmps50,Try.results50,env_P,env_L,e,cond_false,TQ.down,resE,oneV, ↓reduceIte,reduceCtorEq,uB,uE,uL,uA,uM,uS,uN,uX,uO,vR,vD,vL,vK,vE,vA,vM,vT,vS]
  subst hX
  exact G.ok ⟨by rw [hg],(Keeps.refl h).post (by simp (maxSteps := 2000000) (implicitDefEqProofs := false) (disch := first | omega | (simp only [SD.down,uA,uL] <;> omega) | fail) only [TQ.down,resE,oneV, ↓reduceIte,reduceCtorEq,uB,uE,uL,uA,uM,uS,uN,uX,uO,vR,vD,vL,vK,vE,vA,vM,vT,vS] <;> omega) (fun j hj => by simp (maxSteps := 2000000) (implicitDefEqProofs := false) (disch := first | omega | (simp only [SD.down,uA,uL] <;> omega) | fail) only [TQ.down,resE,oneV, ↓reduceIte,reduceCtorEq,uB,uE,uL,uA,uM,uS,uN,uX,uO,vR,vD,vL,vK,vE,vA,vM,vT,vS])⟩
theorem leaves_ok (d : Nat) (h : Heap) (m r : Int) : G (callD env (d + 3) 71 [gA m r] h) fun v h' => v = .int .i64 (gLeaves m r : Nat) /\ Keeps h h' := by
 refine G.gen fun Q hX => ?_
 have hb := fun h => mul_le (m := m) (r := r) h
 unfold gA
 rw [callD_run (E := env) [] (by kernel_rfl) Try.func71 rfl (by rw [Try.ntmps71]; simp) (by kernel_rfl)]; simp (maxSteps := 2000000) (implicitDefEqProofs := false) (disch := first | omega | (simp only [SD.down,uA,uL] <;> omega) | fail) only [Try.ntmps71,Try.results71,env_P,env_L,TQ.down,resE,oneV, ↓reduceIte,reduceCtorEq,uB,uE,uL,uA,uM,uS,uN,uX,uO,vR,vD,vL,vK,vE,vA,vM,vT,vS]
 first | refine G.call (is_ok d _ m r) ?_ | refine G.callC (is_ok d _ m r) ?_ | refine G.callL (is_ok d _ m r) ?_
 rintro v h1 ⟨rfl,k⟩
 have kn := k.1
 simp (maxSteps := 2000000) (implicitDefEqProofs := false) (disch := first | omega | (simp only [SD.down,uA,uL] <;> omega) | fail) only [TQ.down,resE,oneV, ↓reduceIte,reduceCtorEq,uB,uE,uL,uA,uM,uS,uN,uX,uO,vR,vD,vL,vK,vE,vA,vM,vT,vS] at kn
 have g0 : h1.get h.next = some (.cells [.int .i64 m, .int .i64 r] 0 false) := by rw [k.2 _ (by simp (maxSteps := 2000000) (implicitDefEqProofs := false) (disch := first | omega | (simp only [SD.down,uA,uL] <;> omega) | fail) only [TQ.down,resE,oneV, ↓reduceIte,reduceCtorEq,uB,uE,uL,uA,uM,uS,uN,uX,uO,vR,vD,vL,vK,vE,vA,vM,vT,vS] <;> omega)]; simp (maxSteps := 2000000) (implicitDefEqProofs := false) (disch := first | omega | (simp only [SD.down,uA,uL] <;> omega) | fail) only [TQ.down,resE,oneV, ↓reduceIte,reduceCtorEq,uB,uE,uL,uA,uM,uS,uN,uX,uO,vR,vD,vL,vK,vE,vA,vM,vT,vS]
 cases hg : gOk m r with
 | true =>
  obtain ⟨b1,b2⟩ := hb hg
  have e : gLeaves m r = (m * r).toNat := if_pos hg
  have e2 : m * r = ((gLeaves m r : Nat) : Int) := by omega
  simp (maxSteps := 2000000) (implicitDefEqProofs := false) (disch := first | omega | (simp only [SD.down,uA,uL] <;> omega) | fail) only [g0,env_P,env_L,TQ.down,resE,oneV, ↓reduceIte,reduceCtorEq,uB,uE,uL,uA,uM,uS,uN,uX,uO,vR,vD,vL,vK,vE,vA,vM,vT,vS]
  subst hX
  exact G.ok ⟨by rw [e2],k.pre (by simp (maxSteps := 2000000) (implicitDefEqProofs := false) (disch := first | omega | (simp only [SD.down,uA,uL] <;> omega) | fail) only [TQ.down,resE,oneV, ↓reduceIte,reduceCtorEq,uB,uE,uL,uA,uM,uS,uN,uX,uO,vR,vD,vL,vK,vE,vA,vM,vT,vS] <;> omega) (fun j hj => by simp (maxSteps := 2000000) (implicitDefEqProofs := false) (disch := first | omega | (simp only [SD.down,uA,uL] <;> omega) | fail) only [TQ.down,resE,oneV, ↓reduceIte,reduceCtorEq,uB,uE,uL,uA,uM,uS,uN,uX,uO,vR,vD,vL,vK,vE,vA,vM,vT,vS])⟩
 | false =>
  have e : gLeaves m r = 0 := if_neg (by rw [hg]; simp)
  simp (maxSteps := 2000000) (implicitDefEqProofs := false) (disch := first | omega | (simp only [SD.down,uA,uL] <;> omega) | fail) only [g0,env_P,env_L,TQ.down,resE,oneV, ↓reduceIte,reduceCtorEq,uB,uE,uL,uA,uM,uS,uN,uX,uO,vR,vD,vL,vK,vE,vA,vM,vT,vS]
  subst hX
  exact G.ok ⟨by rw [e]; rfl,k.pre (by simp (maxSteps := 2000000) (implicitDefEqProofs := false) (disch := first | omega | (simp only [SD.down,uA,uL] <;> omega) | fail) only [TQ.down,resE,oneV, ↓reduceIte,reduceCtorEq,uB,uE,uL,uA,uM,uS,uN,uX,uO,vR,vD,vL,vK,vE,vA,vM,vT,vS] <;> omega) (fun j hj => by simp (maxSteps := 2000000) (implicitDefEqProofs := false) (disch := first | omega | (simp only [SD.down,uA,uL] <;> omega) | fail) only [TQ.down,resE,oneV, ↓reduceIte,reduceCtorEq,uB,uE,uL,uA,uM,uS,uN,uX,uO,vR,vD,vL,vK,vE,vA,vM,vT,vS])⟩
theorem height_ok (d : Nat) (h : Heap) (m r : Int) : G (callD env (d + 4) 55 [gA m r] h) fun v h' => v = .int .i64 (gHeight m r : Nat) /\ Keeps h h' := by
 refine G.gen fun Q hX => ?_
 have hH := gHeight_le m r
 unfold gA
 rw [callD_run (E := env) [] (by kernel_rfl) Try.func55 rfl (by rw [Try.ntmps55]; simp) (by kernel_rfl)]; simp (maxSteps := 2000000) (implicitDefEqProofs := false) (disch := first | omega | (simp only [SD.down,uA,uL] <;> omega) | fail) only [Try.ntmps55,Try.results55,env_P,env_L,TQ.down,resE,oneV, ↓reduceIte,reduceCtorEq,uB,uE,uL,uA,uM,uS,uN,uX,uO,vR,vD,vL,vK,vE,vA,vM,vT,vS]
 rw [run_loop]
 refine loop_ind (fun j σ hh => ∃ q : Nat,q + j = gHeight m r /\ σ 1 = .ptr h.next 0 /\ σ 3 = .int .i64 (q : Int) /\ hh.get h.next = some (.cells [.int .i64 m, .int .i64 r] 0 false) /\ h.next < hh.next /\ Keeps h hh) ?_ ?_ (gHeight m r) _ _ _ (by simp; omega) ?_
 ·rintro mm σ hh ⟨q,hq,s1,s3,g0,gn,k⟩
  have hq12 : q <= 12 := by omega
  have ep := shl1 hq12
  have hn : ¬ 2 ^ q < gLeaves m r := fun x => by have := hgt_lt.2 x; unfold gHeight at hq; omega
  simp (maxSteps := 2000000) (implicitDefEqProofs := false) (disch := first | omega | (simp only [SD.down,uA,uL] <;> omega) | fail) only [run_it,s1,s3,g0,env_P,env_L,Int.toNat_natCast,ep,TQ.down,resE,oneV, ↓reduceIte,reduceCtorEq,uB,uE,uL,uA,uM,uS,uN,uX,uO,vR,vD,vL,vK,vE,vA,vM,vT,vS]
  first | refine G.call (leaves_ok d _ m r) ?_ | refine G.callC (leaves_ok d _ m r) ?_ | refine G.callL (leaves_ok d _ m r) ?_
  rintro v h1 ⟨rfl,k1⟩
  have e1 : decide (((2 ^ q : Nat) : Int) < ((gLeaves m r : Nat) : Int)) = false := decide_eq_false (by exact_mod_cast hn)
  simp (maxSteps := 2000000) (implicitDefEqProofs := false) (disch := first | omega | (simp only [SD.down,uA,uL] <;> omega) | fail) only [run_it,s1,s3,e1,env_P,env_L,TQ.down,resE,oneV, ↓reduceIte,reduceCtorEq,uB,uE,uL,uA,uM,uS,uN,uX,uO,vR,vD,vL,vK,vE,vA,vM,vT,vS]
  subst hX
  exact G.ok ⟨by rw [show q = gHeight m r by omega],k.trans k1⟩
 ·rintro j mm σ hh ⟨q,hq,s1,s3,g0,gn,k⟩ ih
  have hq12 : q <= 12 := by omega
  have ep := shl1 hq12
  have hn : 2 ^ q < gLeaves m r := hgt_lt.1 (by unfold gHeight at hq; omega)
  simp (maxSteps := 2000000) (implicitDefEqProofs := false) (disch := first | omega | (simp only [SD.down,uA,uL] <;> omega) | fail) only [run_it,s1,s3,g0,env_P,env_L,Int.toNat_natCast,ep,TQ.down,resE,oneV, ↓reduceIte,reduceCtorEq,uB,uE,uL,uA,uM,uS,uN,uX,uO,vR,vD,vL,vK,vE,vA,vM,vT,vS]
  first | refine G.call (leaves_ok d _ m r) ?_ | refine G.callC (leaves_ok d _ m r) ?_ | refine G.callL (leaves_ok d _ m r) ?_
  rintro v h1 ⟨rfl,k1⟩
  have e1 : decide (((2 ^ q : Nat) : Int) < ((gLeaves m r : Nat) : Int)) = true := decide_eq_true (by exact_mod_cast hn)
  simp (maxSteps := 2000000) (implicitDefEqProofs := false) (disch := first | omega | (simp only [SD.down,uA,uL] <;> omega) | fail) only [run_it,s1,s3,e1,env_P,env_L,TQ.down,resE,oneV, ↓reduceIte,reduceCtorEq,uB,uE,uL,uA,uM,uS,uN,uX,uO,vR,vD,vL,vK,vE,vA,vM,vT,vS]
  have k1n := k1.1
  exact ih _ _ ⟨q + 1,by omega,by simp (maxSteps := 2000000) (implicitDefEqProofs := false) (disch := first | omega | (simp only [SD.down,uA,uL] <;> omega) | fail) only [s1,TQ.down,resE,oneV, ↓reduceIte,reduceCtorEq,uB,uE,uL,uA,uM,uS,uN,uX,uO,vR,vD,vL,vK,vE,vA,vM,vT,vS],by simp (maxSteps := 2000000) (implicitDefEqProofs := false) (disch := first | omega | (simp only [SD.down,uA,uL] <;> omega) | fail) only [s3,TQ.down,resE,oneV, ↓reduceIte,reduceCtorEq,uB,uE,uL,uA,uM,uS,uN,uX,uO,vR,vD,vL,vK,vE,vA,vM,vT,vS],(k1.2 _ gn).trans g0,by omega,k.trans k1⟩
 ·exact ⟨0,by omega,by simp (maxSteps := 2000000) (implicitDefEqProofs := false) (disch := first | omega | (simp only [SD.down,uA,uL] <;> omega) | fail) only [TQ.down,resE,oneV, ↓reduceIte,reduceCtorEq,uB,uE,uL,uA,uM,uS,uN,uX,uO,vR,vD,vL,vK,vE,vA,vM,vT,vS],by simp (maxSteps := 2000000) (implicitDefEqProofs := false) (disch := first | omega | (simp only [SD.down,uA,uL] <;> omega) | fail) only [TQ.down,resE,oneV, ↓reduceIte,reduceCtorEq,uB,uE,uL,uA,uM,uS,uN,uX,uO,vR,vD,vL,vK,vE,vA,vM,vT,vS],by simp (maxSteps := 2000000) (implicitDefEqProofs := false) (disch := first | omega | (simp only [SD.down,uA,uL] <;> omega) | fail) only [TQ.down,resE,oneV, ↓reduceIte,reduceCtorEq,uB,uE,uL,uA,uM,uS,uN,uX,uO,vR,vD,vL,vK,vE,vA,vM,vT,vS],by simp (maxSteps := 2000000) (implicitDefEqProofs := false) (disch := first | omega | (simp only [SD.down,uA,uL] <;> omega) | fail) only [TQ.down,resE,oneV, ↓reduceIte,reduceCtorEq,uB,uE,uL,uA,uM,uS,uN,uX,uO,vR,vD,vL,vK,vE,vA,vM,vT,vS] <;> omega,(Keeps.refl h).post (by simp (maxSteps := 2000000) (implicitDefEqProofs := false) (disch := first | omega | (simp only [SD.down,uA,uL] <;> omega) | fail) only [TQ.down,resE,oneV, ↓reduceIte,reduceCtorEq,uB,uE,uL,uA,uM,uS,uN,uX,uO,vR,vD,vL,vK,vE,vA,vM,vT,vS] <;> omega) (fun j hj => by simp (maxSteps := 2000000) (implicitDefEqProofs := false) (disch := first | omega | (simp only [SD.down,uA,uL] <;> omega) | fail) only [TQ.down,resE,oneV, ↓reduceIte,reduceCtorEq,uB,uE,uL,uA,uM,uS,uN,uX,uO,vR,vD,vL,vK,vE,vA,vM,vT,vS])⟩
theorem nodes_ok (d : Nat) (h : Heap) (m r : Int) : G (callD env (d + 5) 56 [gA m r] h) fun v h' => v = .int .i64 (gNodes m r : Nat) /\ Keeps h h' := by
 refine G.gen fun Q hX => ?_
 have hH := gHeight_le m r
 have hp := Nat.pow_le_pow_right (n := 2) (by omega) hH
 have hp1 := Nat.one_le_two_pow (n := gHeight m r)
 have ep := shl1 hH
 have e2 : ((2 ^ gHeight m r : Nat) : Int) - 1 = ((gNodes m r : Nat) : Int) := by unfold gNodes; omega
 unfold gA
 rw [callD_run (E := env) [] (by kernel_rfl) Try.func56 rfl (by rw [Try.ntmps56]; simp) (by kernel_rfl)]; simp (maxSteps := 2000000) (implicitDefEqProofs := false) (disch := first | omega | (simp only [SD.down,uA,uL] <;> omega) | fail) only [Try.ntmps56,Try.results56,env_P,env_L,TQ.down,resE,oneV, ↓reduceIte,reduceCtorEq,uB,uE,uL,uA,uM,uS,uN,uX,uO,vR,vD,vL,vK,vE,vA,vM,vT,vS]
 first | refine G.call (height_ok d _ m r) ?_ | refine G.callC (height_ok d _ m r) ?_ | refine G.callL (height_ok d _ m r) ?_
 rintro v h1 ⟨rfl,k⟩
 generalize hY : 2 ^ gHeight m r = X at *
 simp (maxSteps := 2000000) (implicitDefEqProofs := false) (disch := first | omega | (simp only [SD.down,uA,uL] <;> omega) | fail) only [Int.toNat_natCast,ep,env_P,env_L,TQ.down,resE,oneV, ↓reduceIte,reduceCtorEq,uB,uE,uL,uA,uM,uS,uN,uX,uO,vR,vD,vL,vK,vE,vA,vM,vT,vS]
 subst hX
 exact G.ok ⟨by unfold gNodes; rw [<- hY],k.pre (by simp (maxSteps := 2000000) (implicitDefEqProofs := false) (disch := first | omega | (simp only [SD.down,uA,uL] <;> omega) | fail) only [TQ.down,resE,oneV, ↓reduceIte,reduceCtorEq,uB,uE,uL,uA,uM,uS,uN,uX,uO,vR,vD,vL,vK,vE,vA,vM,vT,vS] <;> omega) (fun j hj => by simp (maxSteps := 2000000) (implicitDefEqProofs := false) (disch := first | omega | (simp only [SD.down,uA,uL] <;> omega) | fail) only [TQ.down,resE,oneV, ↓reduceIte,reduceCtorEq,uB,uE,uL,uA,uM,uS,uN,uX,uO,vR,vD,vL,vK,vE,vA,vM,vT,vS])⟩
theorem Keeps.at {h h' : Heap} (k : Keeps h h') {j : Nat} {b : Option Blk} (hj : j < h.next) (g : h.get j = b) : h'.get j = b := (k.2 j hj).trans g
theorem sgA (m r : Int) : AV.same (.agg [AV.int .i64 m,AV.int .i64 r]) (.agg [AV.int .i64 m,AV.int .i64 r]) = true := by simp [AV.same,scsSame,scSame,ieq_eq]
theorem cap_ok (d : Nat) (h : Heap) (m r : Int) : G (callD env (d + 6) 30 [gA m r] h) fun v h' => v = .int .i64 (gCap m r : Nat) /\ Keeps h h' := by
 refine G.gen fun Q hX => ?_
 have hH := gHeight_le m r
 have hN := gNodes_le m r
 unfold gA
 rw [callD_run (E := env) [(4, .fl [(5,0,1)])] (by kernel_rfl) Try.func30 rfl (by rw [Try.ntmps30]; simp) (by kernel_rfl)]; simp (maxSteps := 2000000) (implicitDefEqProofs := false) (disch := first | omega | (simp only [SD.down,uA,uL] <;> omega) | fail) only [Try.ntmps30,Try.results30,env_P,env_L,MX.down,TQ.down,resE,oneV, ↓reduceIte,reduceCtorEq,uB,uE,uL,uA,uM,uS,uN,uX,uO,vR,vD,vL,vK,vE,vA,vM,vT,vS]
 first | refine G.call (is_ok (d + 3) _ m r) ?_ | refine G.callC (is_ok (d + 3) _ m r) ?_ | refine G.callL (is_ok (d + 3) _ m r) ?_
 rintro v h1 ⟨rfl,k1⟩
 have n1 := k1.1
 simp (maxSteps := 2000000) (implicitDefEqProofs := false) (disch := first | omega | (simp only [SD.down,uA,uL] <;> omega) | fail) only [TQ.down,resE,oneV, ↓reduceIte,reduceCtorEq,uB,uE,uL,uA,uM,uS,uN,uX,uO,vR,vD,vL,vK,vE,vA,vM,vT,vS] at n1
 have g1 : h1.get h.next = some (.cells [.int .i64 m, .int .i64 r] 0 false) := by rw [k1.2 _ (by simp (maxSteps := 2000000) (implicitDefEqProofs := false) (disch := first | omega | (simp only [SD.down,uA,uL] <;> omega) | fail) only [TQ.down,resE,oneV, ↓reduceIte,reduceCtorEq,uB,uE,uL,uA,uM,uS,uN,uX,uO,vR,vD,vL,vK,vE,vA,vM,vT,vS] <;> omega)]; simp (maxSteps := 2000000) (implicitDefEqProofs := false) (disch := first | omega | (simp only [SD.down,uA,uL] <;> omega) | fail) only [TQ.down,resE,oneV, ↓reduceIte,reduceCtorEq,uB,uE,uL,uA,uM,uS,uN,uX,uO,vR,vD,vL,vK,vE,vA,vM,vT,vS]
 cases hg : gOk m r with
 | false =>
  simp (maxSteps := 2000000) (implicitDefEqProofs := false) (disch := first | omega | (simp only [SD.down,uA,uL] <;> omega) | fail) only [g1,env_P,env_L,TQ.down,resE,oneV, ↓reduceIte,reduceCtorEq,uB,uE,uL,uA,uM,uS,uN,uX,uO,vR,vD,vL,vK,vE,vA,vM,vT,vS]
  subst hX
  exact G.ok ⟨by unfold gCap; rw [hg]; rfl,k1.pre (by simp (maxSteps := 2000000) (implicitDefEqProofs := false) (disch := first | omega | (simp only [SD.down,uA,uL] <;> omega) | fail) only [TQ.down,resE,oneV, ↓reduceIte,reduceCtorEq,uB,uE,uL,uA,uM,uS,uN,uX,uO,vR,vD,vL,vK,vE,vA,vM,vT,vS] <;> omega) (fun j hj => by simp (maxSteps := 2000000) (implicitDefEqProofs := false) (disch := first | omega | (simp only [SD.down,uA,uL] <;> omega) | fail) only [TQ.down,resE,oneV, ↓reduceIte,reduceCtorEq,uB,uE,uL,uA,uM,uS,uN,uX,uO,vR,vD,vL,vK,vE,vA,vM,vT,vS])⟩
 | true =>
  obtain ⟨b1,b2,b3,b4⟩ := gOk_t hg
  obtain ⟨M,eM⟩ : ∃ M : Nat,max 6 m = (M : Int) := ⟨(max 6 m).toNat,by omega⟩
  have hM : M <= 64 := by omega
  have hMH : M * gHeight m r <= 768 := Nat.le_trans (Nat.mul_le_mul hM hH) (by decide)
  have eMH : (M : Int) * ((gHeight m r : Nat) : Int) = ((M * gHeight m r : Nat) : Int) := by simp
  obtain ⟨q,hq⟩ : ∃ q,q = min (M * gHeight m r) (gNodes m r) := ⟨_,rfl⟩
  have eC : gCap m r = M + q + 8 := by unfold gCap; rw [hg,eM,hq]; rfl
  have eMin : min ((M * gHeight m r : Nat) : Int) ((gNodes m r : Nat) : Int) = (q : Int) := by omega
  have hmin : q <= 768 := by omega
  simp (maxSteps := 2000000) (implicitDefEqProofs := false) (disch := first | omega | (simp only [SD.down,uA,uL] <;> omega) | fail) only [g1,eM,MX.down,env_P,env_L,TQ.down,resE,oneV, ↓reduceIte,reduceCtorEq,uB,uE,uL,uA,uM,uS,uN,uX,uO,vR,vD,vL,vK,vE,vA,vM,vT,vS]
  first | refine G.call (height_ok (d + 1) _ m r) ?_ | refine G.callC (height_ok (d + 1) _ m r) ?_ | refine G.callL (height_ok (d + 1) _ m r) ?_
  rintro v h2 ⟨rfl,k2⟩
  have n2 := k2.1
  have g2 := k2.at (by omega) g1
  simp (maxSteps := 2000000) (implicitDefEqProofs := false) (disch := first | omega | (simp only [SD.down,uA,uL] <;> omega) | fail) only [g2,eMH,env_P,env_L,TQ.down,resE,oneV, ↓reduceIte,reduceCtorEq,uB,uE,uL,uA,uM,uS,uN,uX,uO,vR,vD,vL,vK,vE,vA,vM,vT,vS]
  first | refine G.call (nodes_ok d _ m r) ?_ | refine G.callC (nodes_ok d _ m r) ?_ | refine G.callL (nodes_ok d _ m r) ?_
  rintro v h3 ⟨rfl,k3⟩
  have n3 := k3.1
  have g3 := k3.at (by omega) g2
  simp (maxSteps := 2000000) (implicitDefEqProofs := false) (disch := first | omega | (simp only [SD.down,uA,uL] <;> omega) | fail) only [g1,g2,g3,sgA,eMin,MX.down,env_P,env_L,TQ.down,resE,oneV, ↓reduceIte,reduceCtorEq,uB,uE,uL,uA,uM,uS,uN,uX,uO,vR,vD,vL,vK,vE,vA,vM,vT,vS]
  subst hX
  exact G.ok ⟨congrArg _ (by rw [eC]),((k1.trans k2).trans k3).pre (by simp (maxSteps := 2000000) (implicitDefEqProofs := false) (disch := first | omega | (simp only [SD.down,uA,uL] <;> omega) | fail) only [TQ.down,resE,oneV, ↓reduceIte,reduceCtorEq,uB,uE,uL,uA,uM,uS,uN,uX,uO,vR,vD,vL,vK,vE,vA,vM,vT,vS] <;> omega) (fun j hj => by simp (maxSteps := 2000000) (implicitDefEqProofs := false) (disch := first | omega | (simp only [SD.down,uA,uL] <;> omega) | fail) only [TQ.down,resE,oneV, ↓reduceIte,reduceCtorEq,uB,uE,uL,uA,uM,uS,uN,uX,uO,vR,vD,vL,vK,vE,vA,vM,vT,vS])⟩
theorem half_ok (d : Nat) (h : Heap) (m r : Int) : G (callD env (d + 7) 25 [gA m r] h) fun v h' => v = .int .i64 (gHalf m r : Nat) /\ Keeps h h' := by
 refine G.gen fun Q hX => ?_
 have hC := gCap_le m r
 unfold gA
 rw [callD_run (E := env) [] (by kernel_rfl) Try.func25 rfl (by rw [Try.ntmps25]; simp) (by kernel_rfl)]; simp (maxSteps := 2000000) (implicitDefEqProofs := false) (disch := first | omega | (simp only [SD.down,uA,uL] <;> omega) | fail) only [Try.ntmps25,Try.results25,env_P,env_L,TQ.down,resE,oneV, ↓reduceIte,reduceCtorEq,uB,uE,uL,uA,uM,uS,uN,uX,uO,vR,vD,vL,vK,vE,vA,vM,vT,vS]
 first | refine G.call (is_ok (d + 4) _ m r) ?_ | refine G.callC (is_ok (d + 4) _ m r) ?_ | refine G.callL (is_ok (d + 4) _ m r) ?_
 rintro v h1 ⟨rfl,k1⟩
 have n1 := k1.1
 simp (maxSteps := 2000000) (implicitDefEqProofs := false) (disch := first | omega | (simp only [SD.down,uA,uL] <;> omega) | fail) only [TQ.down,resE,oneV, ↓reduceIte,reduceCtorEq,uB,uE,uL,uA,uM,uS,uN,uX,uO,vR,vD,vL,vK,vE,vA,vM,vT,vS] at n1
 have g1 : h1.get h.next = some (.cells [.int .i64 m, .int .i64 r] 0 false) := by rw [k1.2 _ (by simp (maxSteps := 2000000) (implicitDefEqProofs := false) (disch := first | omega | (simp only [SD.down,uA,uL] <;> omega) | fail) only [TQ.down,resE,oneV, ↓reduceIte,reduceCtorEq,uB,uE,uL,uA,uM,uS,uN,uX,uO,vR,vD,vL,vK,vE,vA,vM,vT,vS] <;> omega)]; simp (maxSteps := 2000000) (implicitDefEqProofs := false) (disch := first | omega | (simp only [SD.down,uA,uL] <;> omega) | fail) only [TQ.down,resE,oneV, ↓reduceIte,reduceCtorEq,uB,uE,uL,uA,uM,uS,uN,uX,uO,vR,vD,vL,vK,vE,vA,vM,vT,vS]
 cases hg : gOk m r with
 | false =>
  simp (maxSteps := 2000000) (implicitDefEqProofs := false) (disch := first | omega | (simp only [SD.down,uA,uL] <;> omega) | fail) only [g1,env_P,env_L,TQ.down,resE,oneV, ↓reduceIte,reduceCtorEq,uB,uE,uL,uA,uM,uS,uN,uX,uO,vR,vD,vL,vK,vE,vA,vM,vT,vS]
  subst hX
  exact G.ok ⟨by unfold gHalf; rw [hg]; rfl,k1.pre (by simp (maxSteps := 2000000) (implicitDefEqProofs := false) (disch := first | omega | (simp only [SD.down,uA,uL] <;> omega) | fail) only [TQ.down,resE,oneV, ↓reduceIte,reduceCtorEq,uB,uE,uL,uA,uM,uS,uN,uX,uO,vR,vD,vL,vK,vE,vA,vM,vT,vS] <;> omega) (fun j hj => by simp (maxSteps := 2000000) (implicitDefEqProofs := false) (disch := first | omega | (simp only [SD.down,uA,uL] <;> omega) | fail) only [TQ.down,resE,oneV, ↓reduceIte,reduceCtorEq,uB,uE,uL,uA,uM,uS,uN,uX,uO,vR,vD,vL,vK,vE,vA,vM,vT,vS])⟩
 | true =>
  simp (maxSteps := 2000000) (implicitDefEqProofs := false) (disch := first | omega | (simp only [SD.down,uA,uL] <;> omega) | fail) only [g1,env_P,env_L,TQ.down,resE,oneV, ↓reduceIte,reduceCtorEq,uB,uE,uL,uA,uM,uS,uN,uX,uO,vR,vD,vL,vK,vE,vA,vM,vT,vS]
  first | refine G.call (cap_ok d _ m r) ?_ | refine G.callC (cap_ok d _ m r) ?_ | refine G.callL (cap_ok d _ m r) ?_
  rintro v h2 ⟨rfl,k2⟩
  have n2 := k2.1
  have eC : gHalf m r = 2 + (69 * gCap m r + 63) / 64 := by unfold gHalf; rw [hg]; rfl
  have e2 : (2 : Int) + (69 * ((gCap m r : Nat) : Int) + 64 - 1) / 64 = ((gHalf m r : Nat) : Int) := by rw [eC]; omega
  simp (maxSteps := 2000000) (implicitDefEqProofs := false) (disch := first | omega | (simp only [SD.down,uA,uL] <;> omega) | fail) only [g1,env_P,env_L,TQ.down,resE,oneV, ↓reduceIte,reduceCtorEq,uB,uE,uL,uA,uM,uS,uN,uX,uO,vR,vD,vL,vK,vE,vA,vM,vT,vS]
  subst hX
  exact G.ok ⟨congrArg _ (by rw [eC]; omega),(k1.trans k2).pre (by simp (maxSteps := 2000000) (implicitDefEqProofs := false) (disch := first | omega | (simp only [SD.down,uA,uL] <;> omega) | fail) only [TQ.down,resE,oneV, ↓reduceIte,reduceCtorEq,uB,uE,uL,uA,uM,uS,uN,uX,uO,vR,vD,vL,vK,vE,vA,vM,vT,vS] <;> omega) (fun j hj => by simp (maxSteps := 2000000) (implicitDefEqProofs := false) (disch := first | omega | (simp only [SD.down,uA,uL] <;> omega) | fail) only [TQ.down,resE,oneV, ↓reduceIte,reduceCtorEq,uB,uE,uL,uA,uM,uS,uN,uX,uO,vR,vD,vL,vK,vE,vA,vM,vT,vS])⟩
def gFs (m r : Int) : List Nat := [0,0,8,8 + 2 * gHalf m r,8 + 2 * gHalf m r + gNodes m r,8 + 2 * gHalf m r + gNodes m r + r.toNat]
def iA (l : List Nat) : List AV := l.map fun n : Nat => AV.int .i64 (n : Int)
theorem firsts_ok (d : Nat) (h : Heap) (m r : Int) (hg : gOk m r = true) : G (callD env (d + 8) 80 [gA m r] h) fun v h' => v = .agg (iA (gFs m r)) /\ Keeps h h' := by
 refine G.gen fun Q hX => ?_
 have hH := gHalf_le m r
 have hN := gNodes_le m r
 obtain ⟨b1,b2,b3,b4⟩ := gOk_t hg
 unfold gA
 rw [callD_run (E := env) [(3, .fl [(1,0,1)]),(4, .fl [(1,0,1)])] (by kernel_rfl) Try.func80 rfl (by rw [Try.ntmps80]; simp) (by kernel_rfl)]; simp (maxSteps := 2000000) (implicitDefEqProofs := false) (disch := first | omega | (simp only [SD.down,uA,uL] <;> omega) | fail) only [Try.ntmps80,Try.results80,env_P,env_L,TQ.down,resE,oneV, ↓reduceIte,reduceCtorEq,uB,uE,uL,uA,uM,uS,uN,uX,uO,vR,vD,vL,vK,vE,vA,vM,vT,vS]
 first | refine G.call (half_ok d _ m r) ?_ | refine G.callC (half_ok d _ m r) ?_ | refine G.callL (half_ok d _ m r) ?_
 rintro v h1 ⟨rfl,k1⟩
 have n1 := k1.1
 simp (maxSteps := 2000000) (implicitDefEqProofs := false) (disch := first | omega | (simp only [SD.down,uA,uL] <;> omega) | fail) only [TQ.down,resE,oneV, ↓reduceIte,reduceCtorEq,uB,uE,uL,uA,uM,uS,uN,uX,uO,vR,vD,vL,vK,vE,vA,vM,vT,vS] at n1
 have g0 : h1.get h.next = some (.cells [.int .i64 m, .int .i64 r] 0 false) := by rw [k1.2 _ (by simp (maxSteps := 2000000) (implicitDefEqProofs := false) (disch := first | omega | (simp only [SD.down,uA,uL] <;> omega) | fail) only [TQ.down,resE,oneV, ↓reduceIte,reduceCtorEq,uB,uE,uL,uA,uM,uS,uN,uX,uO,vR,vD,vL,vK,vE,vA,vM,vT,vS] <;> omega)]; simp (maxSteps := 2000000) (implicitDefEqProofs := false) (disch := first | omega | (simp only [SD.down,uA,uL] <;> omega) | fail) only [TQ.down,resE,oneV, ↓reduceIte,reduceCtorEq,uB,uE,uL,uA,uM,uS,uN,uX,uO,vR,vD,vL,vK,vE,vA,vM,vT,vS]
 have g1 : h1.get (h.next + 1) = some (.cells (List.replicate 6 (.int .i64 0)) 0 false) := by rw [k1.2 _ (by simp (maxSteps := 2000000) (implicitDefEqProofs := false) (disch := first | omega | (simp only [SD.down,uA,uL] <;> omega) | fail) only [TQ.down,resE,oneV, ↓reduceIte,reduceCtorEq,uB,uE,uL,uA,uM,uS,uN,uX,uO,vR,vD,vL,vK,vE,vA,vM,vT,vS] <;> omega)]; simp (maxSteps := 2000000) (implicitDefEqProofs := false) (disch := first | omega | (simp only [SD.down,uA,uL] <;> omega) | fail) only [TQ.down,resE,oneV, ↓reduceIte,reduceCtorEq,uB,uE,uL,uA,uM,uS,uN,uX,uO,vR,vD,vL,vK,vE,vA,vM,vT,vS]
 have g2 : h1.get (h.next + 2) = some (.cells [.int .i64 0, .int .i64 0, .int .i64 8, .int .i64 0, .int .i64 0, .int .i64 0] 0 false) := by rw [k1.2 _ (by simp (maxSteps := 2000000) (implicitDefEqProofs := false) (disch := first | omega | (simp only [SD.down,uA,uL] <;> omega) | fail) only [TQ.down,resE,oneV, ↓reduceIte,reduceCtorEq,uB,uE,uL,uA,uM,uS,uN,uX,uO,vR,vD,vL,vK,vE,vA,vM,vT,vS] <;> omega)]; simp (maxSteps := 2000000) (implicitDefEqProofs := false) (disch := first | omega | (simp only [SD.down,uA,uL] <;> omega) | fail) only [TQ.down,resE,oneV, ↓reduceIte,reduceCtorEq,uB,uE,uL,uA,uM,uS,uN,uX,uO,vR,vD,vL,vK,vE,vA,vM,vT,vS]; rfl
 simp (maxSteps := 2000000) (implicitDefEqProofs := false) (disch := first | omega | (simp only [SD.down,uA,uL] <;> omega) | fail) only [g0,g1,g2,env_P,env_L,TQ.down,resE,oneV, ↓reduceIte,reduceCtorEq,uB,uE,uL,uA,uM,uS,uN,uX,uO,vR,vD,vL,vK,vE,vA,vM,vT,vS]
 first | refine G.call (nodes_ok (d + 2) _ m r) ?_ | refine G.callC (nodes_ok (d + 2) _ m r) ?_ | refine G.callL (nodes_ok (d + 2) _ m r) ?_
 rintro v h2 ⟨rfl,k2⟩
 have n2 := k2.1
 simp (maxSteps := 2000000) (implicitDefEqProofs := false) (disch := first | omega | (simp only [SD.down,uA,uL] <;> omega) | fail) only [TQ.down,resE,oneV, ↓reduceIte,reduceCtorEq,uB,uE,uL,uA,uM,uS,uN,uX,uO,vR,vD,vL,vK,vE,vA,vM,vT,vS] at n2
 have g0' : h2.get h.next = some (.cells [.int .i64 m, .int .i64 r] 0 false) := by rw [k2.2 _ (by simp (maxSteps := 2000000) (implicitDefEqProofs := false) (disch := first | omega | (simp only [SD.down,uA,uL] <;> omega) | fail) only [TQ.down,resE,oneV, ↓reduceIte,reduceCtorEq,uB,uE,uL,uA,uM,uS,uN,uX,uO,vR,vD,vL,vK,vE,vA,vM,vT,vS] <;> omega)]; simp (maxSteps := 2000000) (implicitDefEqProofs := false) (disch := first | omega | (simp only [SD.down,uA,uL] <;> omega) | fail) only [g0,TQ.down,resE,oneV, ↓reduceIte,reduceCtorEq,uB,uE,uL,uA,uM,uS,uN,uX,uO,vR,vD,vL,vK,vE,vA,vM,vT,vS]
 have g1' : h2.get (h.next + 1) = some (.cells (List.replicate 6 (.int .i64 0)) 0 false) := by rw [k2.2 _ (by simp (maxSteps := 2000000) (implicitDefEqProofs := false) (disch := first | omega | (simp only [SD.down,uA,uL] <;> omega) | fail) only [TQ.down,resE,oneV, ↓reduceIte,reduceCtorEq,uB,uE,uL,uA,uM,uS,uN,uX,uO,vR,vD,vL,vK,vE,vA,vM,vT,vS] <;> omega)]; simp (maxSteps := 2000000) (implicitDefEqProofs := false) (disch := first | omega | (simp only [SD.down,uA,uL] <;> omega) | fail) only [g1,TQ.down,resE,oneV, ↓reduceIte,reduceCtorEq,uB,uE,uL,uA,uM,uS,uN,uX,uO,vR,vD,vL,vK,vE,vA,vM,vT,vS]
 have g2' : h2.get (h.next + 2) = some (.cells [.int .i64 0, .int .i64 0, .int .i64 8, .int .i64 ((8 + 2 * gHalf m r : Nat) : Int), .int .i64 0, .int .i64 0] 0 false) := by rw [k2.2 _ (by simp (maxSteps := 2000000) (implicitDefEqProofs := false) (disch := first | omega | (simp only [SD.down,uA,uL] <;> omega) | fail) only [TQ.down,resE,oneV, ↓reduceIte,reduceCtorEq,uB,uE,uL,uA,uM,uS,uN,uX,uO,vR,vD,vL,vK,vE,vA,vM,vT,vS] <;> omega)]; simp (maxSteps := 2000000) (implicitDefEqProofs := false) (disch := first | omega | (simp only [SD.down,uA,uL] <;> omega) | fail) only [TQ.down,resE,oneV, ↓reduceIte,reduceCtorEq,uB,uE,uL,uA,uM,uS,uN,uX,uO,vR,vD,vL,vK,vE,vA,vM,vT,vS]
 have er : r = ((r.toNat : Nat) : Int) := by omega
 have r64 : r.toNat <= 64 := by omega
 simp (maxSteps := 2000000) (implicitDefEqProofs := false) (disch := first | omega | (simp only [SD.down,uA,uL] <;> omega) | fail) only [g0',g1',g2',env_P,env_L,TQ.down,resE,oneV, ↓reduceIte,reduceCtorEq,uB,uE,uL,uA,uM,uS,uN,uX,uO,vR,vD,vL,vK,vE,vA,vM,vT,vS]
 subst hX
 refine G.ok ⟨?_, ?_⟩
 ·simp only [iA,gFs,List.map_cons,List.map_nil]
  rw [show ((8 + 2 * gHalf m r + gNodes m r + r.toNat : Nat) : Int) = ((8 + 2 * gHalf m r + gNodes m r : Nat) : Int) + r by omega]
  rfl
 ·refine ⟨by simp (maxSteps := 2000000) (implicitDefEqProofs := false) (disch := first | omega | (simp only [SD.down,uA,uL] <;> omega) | fail) only [TQ.down,resE,oneV, ↓reduceIte,reduceCtorEq,uB,uE,uL,uA,uM,uS,uN,uX,uO,vR,vD,vL,vK,vE,vA,vM,vT,vS] <;> omega,fun j hj => ?_⟩
  simp (maxSteps := 2000000) (implicitDefEqProofs := false) (disch := first | omega | (simp only [SD.down,uA,uL] <;> omega) | fail) only [TQ.down,resE,oneV, ↓reduceIte,reduceCtorEq,uB,uE,uL,uA,uM,uS,uN,uX,uO,vR,vD,vL,vK,vE,vA,vM,vT,vS]
  rw [k2.2 _ (by simp (maxSteps := 2000000) (implicitDefEqProofs := false) (disch := first | omega | (simp only [SD.down,uA,uL] <;> omega) | fail) only [TQ.down,resE,oneV, ↓reduceIte,reduceCtorEq,uB,uE,uL,uA,uM,uS,uN,uX,uO,vR,vD,vL,vK,vE,vA,vM,vT,vS] <;> omega)]
  simp (maxSteps := 2000000) (implicitDefEqProofs := false) (disch := first | omega | (simp only [SD.down,uA,uL] <;> omega) | fail) only [TQ.down,resE,oneV, ↓reduceIte,reduceCtorEq,uB,uE,uL,uA,uM,uS,uN,uX,uO,vR,vD,vL,vK,vE,vA,vM,vT,vS]
  rw [k1.2 _ (by simp (maxSteps := 2000000) (implicitDefEqProofs := false) (disch := first | omega | (simp only [SD.down,uA,uL] <;> omega) | fail) only [TQ.down,resE,oneV, ↓reduceIte,reduceCtorEq,uB,uE,uL,uA,uM,uS,uN,uX,uO,vR,vD,vL,vK,vE,vA,vM,vT,vS] <;> omega)]
  simp (maxSteps := 2000000) (implicitDefEqProofs := false) (disch := first | omega | (simp only [SD.down,uA,uL] <;> omega) | fail) only [TQ.down,resE,oneV, ↓reduceIte,reduceCtorEq,uB,uE,uL,uA,uM,uS,uN,uX,uO,vR,vD,vL,vK,vE,vA,vM,vT,vS]
def gLst (region : Int) : Int := if region = 3 then 1 else 0
theorem least_ok (d : Nat) (h : Heap) (region : Int) : callD env (d + 1) 79 [.int .i64 region] h = some (.int .i64 (gLst region),h) := by
 by_cases hr : region = 3
 ·have e : gLst region = 1 := if_pos hr
  rw [e]
  rw [callD_run (E := env) [] (by kernel_rfl) Try.func79 rfl (by rw [Try.ntmps79]; simp) (by kernel_rfl)]; simp (maxSteps := 2000000) (implicitDefEqProofs := false) (disch := first | omega | (simp only [SD.down,uA,uL] <;> omega) | fail) only [Try.ntmps79,Try.results79,env_P,env_L,hr,TQ.down,resE,oneV, ↓reduceIte,reduceCtorEq,uB,uE,uL,uA,uM,uS,uN,uX,uO,vR,vD,vL,vK,vE,vA,vM,vT,vS]
 ·have e : gLst region = 0 := if_neg hr
  rw [e]
  rw [callD_run (E := env) [] (by kernel_rfl) Try.func79 rfl (by rw [Try.ntmps79]; simp) (by kernel_rfl)]; simp (maxSteps := 2000000) (implicitDefEqProofs := false) (disch := first | omega | (simp only [SD.down,uA,uL] <;> omega) | fail) only [Try.ntmps79,Try.results79,env_P,env_L,TQ.down,resE,oneV, ↓reduceIte,reduceCtorEq,uB,uE,uL,uA,uM,uS,uN,uX,uO,vR,vD,vL,vK,vE,vA,vM,vT,vS]
def gFst (m r : Int) (region : Int) : Int := (((gFs m r).getD region.toNat 0 : Nat) : Int)
def gPl (m r region index : Int) : Int × Int := if gOk m r = true /\ 1 <= region /\ region <= 4 /\ gLst region <= index /\ index - gLst region < gFst m r (region + 1) - gFst m r region then (gFst m r region + index - gLst region,0) else (0,2)
theorem iA_sc (l : List Nat) : allSc (iA l) = true := by simp [iA,allSc,isSc]
theorem iA_get (l : List Nat) {n : Nat} (h : n < l.length) : (iA l)[n]? = some (.int .i64 ((l.getD n 0 : Nat) : Int)) := by
 simp [iA,h]
set_option maxHeartbeats 1000000 in
theorem place_ok (d : Nat) (h : Heap) (m r region index : Int) (hg : gOk m r = true) (h1' : 1 <= region) (h4 : region <= 4) (hi : gLst region <= index) (hi2 : index < 9223372036854775808) : G (callD env (d + 9) 66 [gA m r, .int .i64 region, .int .i64 index] h) fun v h' => v = .tup [.int .i64 (gPl m r region index).1, .int .i64 (gPl m r region index).2] /\ Keeps h h' := by
 refine G.gen fun Q hX => ?_
 have le := fun (d : Nat) (h : Heap) => least_ok d h region
 obtain ⟨b1,b2,b3,b4⟩ := gOk_t hg
 have hH := gHalf_le m r
 have hN := gNodes_le m r
 obtain ⟨R,rfl⟩ : ∃ R : Nat,region = (R : Int) := ⟨region.toNat,by omega⟩
 have hl0 : 0 <= gLst R /\ gLst R <= 1 := by unfold gLst; split <;> omega
 have len6 : (gFs m r).length = 6 := rfl
 have lenA6 : (iA (gFs m r)).length = 6 := rfl
 have cF : cutE 0 6 (iA (gFs m r)) = some (iA (gFs m r)) := cut_all (by rw [lenA6]; rfl)
 have oF : overE 0 (iA (gFs m r)) (List.replicate 6 (AV.int .i64 0)) = some (iA (gFs m r)) := by
  rw [overE_n,lenA6,ovN_full (by simp [lenA6]),iA_sc,scE_true]
 have q1 : (iA (gFs m r))[R]? = some (.int .i64 (gFst m r R)) := by rw [iA_get _ (by rw [len6]; omega)]; rfl
 have q2 : (iA (gFs m r))[R + 1]? = some (.int .i64 (gFst m r ((R : Int) + 1))) := by
  rw [iA_get _ (by rw [len6]; omega)]; unfold gFst; rw [show ((R : Int) + 1).toNat = R + 1 by omega]
 have hb : ∀ n,(gFs m r).getD n 0 <= 7000 := by
  intro n
  have hr : r.toNat <= 64 := by omega
  rcases n with _ | _ | _ | _ | _ | _ | n <;> simp [gFs] <;> omega
 have f1 : 0 <= gFst m r R /\ gFst m r R <= 7000 := ⟨Int.natCast_nonneg _,by have := hb (R : Int).toNat; unfold gFst; omega⟩
 have f2 : 0 <= gFst m r ((R : Int) + 1) /\ gFst m r ((R : Int) + 1) <= 7000 := ⟨Int.natCast_nonneg _,by have := hb ((R : Int) + 1).toNat; unfold gFst; omega⟩
 unfold gA
 rw [callD_run (E := env) [(4, .fl [(7,0,1),(10,0,1)]),(6, .fl [(2,0,1)])] (by kernel_rfl) Try.func66 rfl (by rw [Try.ntmps66]; simp) (by kernel_rfl)]; simp (maxSteps := 2000000) (implicitDefEqProofs := false) (disch := first | omega | (simp only [SD.down,uA,uL] <;> omega) | fail) only [Try.ntmps66,Try.results66,env_P,env_L,TQ.down,resE,oneV, ↓reduceIte,reduceCtorEq,uB,uE,uL,uA,uM,uS,uN,uX,uO,vR,vD,vL,vK,vE,vA,vM,vT,vS]
 first | refine G.call (is_ok (d + 6) _ m r) ?_ | refine G.callC (is_ok (d + 6) _ m r) ?_ | refine G.callL (is_ok (d + 6) _ m r) ?_
 rintro v h1 ⟨rfl,k1⟩
 have n1 := k1.1
 simp (maxSteps := 2000000) (implicitDefEqProofs := false) (disch := first | omega | (simp only [SD.down,uA,uL] <;> omega) | fail) only [TQ.down,resE,oneV, ↓reduceIte,reduceCtorEq,uB,uE,uL,uA,uM,uS,uN,uX,uO,vR,vD,vL,vK,vE,vA,vM,vT,vS] at n1
 have g0 : h1.get h.next = some (.cells [.int .i64 m, .int .i64 r] 0 false) := by rw [k1.2 _ (by simp (maxSteps := 2000000) (implicitDefEqProofs := false) (disch := first | omega | (simp only [SD.down,uA,uL] <;> omega) | fail) only [TQ.down,resE,oneV, ↓reduceIte,reduceCtorEq,uB,uE,uL,uA,uM,uS,uN,uX,uO,vR,vD,vL,vK,vE,vA,vM,vT,vS] <;> omega)]; simp (maxSteps := 2000000) (implicitDefEqProofs := false) (disch := first | omega | (simp only [SD.down,uA,uL] <;> omega) | fail) only [TQ.down,resE,oneV, ↓reduceIte,reduceCtorEq,uB,uE,uL,uA,uM,uS,uN,uX,uO,vR,vD,vL,vK,vE,vA,vM,vT,vS]
 rw [hg]
 simp (maxSteps := 2000000) (implicitDefEqProofs := false) (disch := first | omega | (simp only [SD.down,uA,uL] <;> omega) | fail) only [g0,le,env_P,env_L,TQ.down,resE,oneV, ↓reduceIte,reduceCtorEq,uB,uE,uL,uA,uM,uS,uN,uX,uO,vR,vD,vL,vK,vE,vA,vM,vT,vS]
 first | refine G.call (firsts_ok d _ m r hg) ?_ | refine G.callC (firsts_ok d _ m r hg) ?_ | refine G.callL (firsts_ok d _ m r hg) ?_
 rintro v h2 ⟨rfl,k2⟩
 have n2 := k2.1
 have eP : gPl m r R index = if index - gLst R < gFst m r ((R : Int) + 1) - gFst m r R then (gFst m r R + index - gLst R,0) else (0,2) := by
  unfold gPl
  by_cases x : index - gLst R < gFst m r ((R : Int) + 1) - gFst m r R
  ·rw [if_pos ⟨hg,h1',h4,hi,x⟩,if_pos x]
  ·rw [if_neg fun y => x y.2.2.2.2,if_neg x]
 rw [eP] at hX
 generalize gFst m r R = F at *
 generalize gFst m r ((R : Int) + 1) = F1 at *
 generalize gLst R = L at *
 by_cases hlt : index - L < F1 - F
 ·rw [if_pos hlt] at hX
  simp (maxSteps := 2000000) (implicitDefEqProofs := false) (disch := first | omega | (simp only [SD.down,uA,uL] <;> omega) | fail) only [lenA6,cF,oF,q1,q2,le,env_P,env_L,TQ.down,resE,oneV, ↓reduceIte,reduceCtorEq,uB,uE,uL,uA,uM,uS,uN,uX,uO,vR,vD,vL,vK,vE,vA,vM,vT,vS]
  subst hX
  exact G.ok ⟨rfl,((k1.pre (by simp (maxSteps := 2000000) (implicitDefEqProofs := false) (disch := first | omega | (simp only [SD.down,uA,uL] <;> omega) | fail) only [TQ.down,resE,oneV, ↓reduceIte,reduceCtorEq,uB,uE,uL,uA,uM,uS,uN,uX,uO,vR,vD,vL,vK,vE,vA,vM,vT,vS] <;> omega) (fun j hj => by simp (maxSteps := 2000000) (implicitDefEqProofs := false) (disch := first | omega | (simp only [SD.down,uA,uL] <;> omega) | fail) only [TQ.down,resE,oneV, ↓reduceIte,reduceCtorEq,uB,uE,uL,uA,uM,uS,uN,uX,uO,vR,vD,vL,vK,vE,vA,vM,vT,vS])).trans k2).post (by simp (maxSteps := 2000000) (implicitDefEqProofs := false) (disch := first | omega | (simp only [SD.down,uA,uL] <;> omega) | fail) only [TQ.down,resE,oneV, ↓reduceIte,reduceCtorEq,uB,uE,uL,uA,uM,uS,uN,uX,uO,vR,vD,vL,vK,vE,vA,vM,vT,vS] <;> omega) (fun j hj => by simp (maxSteps := 2000000) (implicitDefEqProofs := false) (disch := first | omega | (simp only [SD.down,uA,uL] <;> omega) | fail) only [TQ.down,resE,oneV, ↓reduceIte,reduceCtorEq,uB,uE,uL,uA,uM,uS,uN,uX,uO,vR,vD,vL,vK,vE,vA,vM,vT,vS])⟩
 ·rw [if_neg hlt] at hX
  simp (maxSteps := 2000000) (implicitDefEqProofs := false) (disch := first | omega | (simp only [SD.down,uA,uL] <;> omega) | fail) only [lenA6,cF,oF,q1,q2,le,env_P,env_L,TQ.down,resE,oneV, ↓reduceIte,reduceCtorEq,uB,uE,uL,uA,uM,uS,uN,uX,uO,vR,vD,vL,vK,vE,vA,vM,vT,vS]
  subst hX
  exact G.ok ⟨rfl,((k1.pre (by simp (maxSteps := 2000000) (implicitDefEqProofs := false) (disch := first | omega | (simp only [SD.down,uA,uL] <;> omega) | fail) only [TQ.down,resE,oneV, ↓reduceIte,reduceCtorEq,uB,uE,uL,uA,uM,uS,uN,uX,uO,vR,vD,vL,vK,vE,vA,vM,vT,vS] <;> omega) (fun j hj => by simp (maxSteps := 2000000) (implicitDefEqProofs := false) (disch := first | omega | (simp only [SD.down,uA,uL] <;> omega) | fail) only [TQ.down,resE,oneV, ↓reduceIte,reduceCtorEq,uB,uE,uL,uA,uM,uS,uN,uX,uO,vR,vD,vL,vK,vE,vA,vM,vT,vS])).trans k2).post (by simp (maxSteps := 2000000) (implicitDefEqProofs := false) (disch := first | omega | (simp only [SD.down,uA,uL] <;> omega) | fail) only [TQ.down,resE,oneV, ↓reduceIte,reduceCtorEq,uB,uE,uL,uA,uM,uS,uN,uX,uO,vR,vD,vL,vK,vE,vA,vM,vT,vS] <;> omega) (fun j hj => by simp (maxSteps := 2000000) (implicitDefEqProofs := false) (disch := first | omega | (simp only [SD.down,uA,uL] <;> omega) | fail) only [TQ.down,resE,oneV, ↓reduceIte,reduceCtorEq,uB,uE,uL,uA,uM,uS,uN,uX,uO,vR,vD,vL,vK,vE,vA,vM,vT,vS])⟩
end Go.Proofs.Ytlnepbkeiianmaa
