/- Of this program, for all inputs: contracts. No condition but those in the theorems. -/
import Derived.Test.YtfjcfjfgamajkaaU1
namespace Go.Proofs.Ytfjcfjfgamajkaa
open Go Go.Ai Go.Aw Go.Proofs
open Nat renaming reduceBEq → uB, reduceEqDiff → uE, reduceLT → uL, reduceAdd → uA, reduceMul → uM, reduceSub → uS, reduceAnd → uN, reduceXor → uX, reduceOr → uO
open Int renaming reduceMod → vR, reduceDiv → vD, reduceLT → vL, reduceLE → vK, reduceEq → vE, reduceAdd → vA, reduceMul → vM, reduceToNat → vT, reduceSub → vS
set_option linter.unusedSimpArgs false
set_option linter.unusedVariables false
set_option maxRecDepth 10000
/-- picks handed in, empty ones with their length -/
def PickB (h : Heap) (u : AV) (l : List Nat) : Prop := PickA h u l ∧ lenE Try.prog 40 u = some (.int .i64 (l.length : Int))
def crashS (n : Nat) (l : List Nat) : Stp := ⟨(n : Int), 6, 0, 0, 0, zz, l⟩
theorem cfold (n : Nat) (u : AV) (l : List Nat) : (((((List.replicate 5 (AV.int IntKind.i64 0) ++ List.replicate 64 (b8 0) ++ [AV.nilslice]).set 0 (AV.int IntKind.i64 (n : Int))).set 1 (AV.int IntKind.i64 6))).set 69 u) = (crashS n l).C u := rfl
theorem bs43C (s : Stp) (u : AV) (hs : s.data.length = 64) (hu : isSc u = true) (h : Heap) : bsE Try.prog 43 1 [(0, .agg (s.C u))] h = some (.slice h.next 0 1 1, h.new (.cells (s.C u) 0 false)) := bs_one Try.underlying43 (s := 69) (by kernel_rfl) (z := ((zeroE Try.prog 42).getD .nilptr)) (by kernel_rfl) (by kernel_rfl) (by kernel_rfl) (s.C_len u hs) (s.C_sc u hu) h
set_option maxHeartbeats 4000000 in
theorem busOff_ok (d : Nat) (h : Heap) (a1 : AV) (x1 : List Act) (h1 : ActsI h a1 x1) (o1 : ∀ a ∈ x1, a.ok) (a2 : AV) (x2 : List Act) (h2 : ActsI h a2 x2) (o2 : ∀ a ∈ x2, a.ok) (a3 : AV) (x3 : List Nat) (h3' : PickB h a3 x3) : G (callD env (d + 13) 7 [a1, a2, a3] h) fun v h' => v = .bool true := by
  generalize hX : (fun (v : AV) (h' : Heap) => v = .bool true) = Q
  obtain ⟨h3, hl3⟩ := h3'
  have l1 := h1.len
  have l2 := h2.len
  obtain ⟨ok3, sc3, _⟩ := h3.ok
  by_cases g1 : 30 < x1.length
  · have d1 : decide ((30 : Int) < (x1.length : Int)) = true := decide_eq_true (by omega)
    rw [callD_run (E := env) [] (by kernel_rfl) Try.func7 rfl (by rw [Try.ntmps7]; simp) (by kernel_rfl)]; simp (maxSteps := 2000000) (implicitDefEqProofs := false) (disch := first | omega | (simp only [SD.down, uA, uL] <;> omega) | fail) only [Try.ntmps7, Try.results7, env_P, env_L, lncA, lnoA, l1, h1.okv, h1.same, l2, h2.okv, h2.same, hl3, ok3, d1, awake_eq, TA.down, TL.down, same_nilslice, resE, oneV, ↓reduceIte, reduceCtorEq, uB, uE, uL, uA, uM, uS, uN, uX, uO, vR, vD, vL, vK, vE, vA, vM, vT, vS]
    subst hX
    exact G.ok rfl
  have d1 : decide ((30 : Int) < (x1.length : Int)) = false := decide_eq_false (by omega)
  by_cases g2 : 30 < x2.length
  · have d2 : decide ((30 : Int) < (x2.length : Int)) = true := decide_eq_true (by omega)
    rw [callD_run (E := env) [] (by kernel_rfl) Try.func7 rfl (by rw [Try.ntmps7]; simp) (by kernel_rfl)]; simp (maxSteps := 2000000) (implicitDefEqProofs := false) (disch := first | omega | (simp only [SD.down, uA, uL] <;> omega) | fail) only [Try.ntmps7, Try.results7, env_P, env_L, lncA, lnoA, l1, h1.okv, h1.same, l2, h2.okv, h2.same, hl3, ok3, d1, d2, awake_eq, TA.down, TL.down, same_nilslice, resE, oneV, ↓reduceIte, reduceCtorEq, uB, uE, uL, uA, uM, uS, uN, uX, uO, vR, vD, vL, vK, vE, vA, vM, vT, vS]
    subst hX
    exact G.ok rfl
  have d2 : decide ((30 : Int) < (x2.length : Int)) = false := decide_eq_false (by omega)
  by_cases g3 : 200 < x3.length
  · have d3 : decide ((200 : Int) < (x3.length : Int)) = true := decide_eq_true (by omega)
    rw [callD_run (E := env) [] (by kernel_rfl) Try.func7 rfl (by rw [Try.ntmps7]; simp) (by kernel_rfl)]; simp (maxSteps := 2000000) (implicitDefEqProofs := false) (disch := first | omega | (simp only [SD.down, uA, uL] <;> omega) | fail) only [Try.ntmps7, Try.results7, env_P, env_L, lncA, lnoA, l1, h1.okv, h1.same, l2, h2.okv, h2.same, hl3, ok3, d1, d2, d3, awake_eq, TA.down, TL.down, same_nilslice, resE, oneV, ↓reduceIte, reduceCtorEq, uB, uE, uL, uA, uM, uS, uN, uX, uO, vR, vD, vL, vK, vE, vA, vM, vT, vS]
    subst hX
    exact G.ok rfl
  have d3 : decide ((200 : Int) < (x3.length : Int)) = false := decide_eq_false (by omega)
  rw [callD_run (E := env) [] (by kernel_rfl) Try.func7 rfl (by rw [Try.ntmps7]; simp) (by kernel_rfl)]; simp (maxSteps := 2000000) (implicitDefEqProofs := false) (disch := first | omega | (simp only [SD.down, uA, uL] <;> omega) | fail) only [Try.ntmps7, Try.results7, env_P, env_L, lncA, lnoA, l1, h1.okv, h1.same, l2, h2.okv, h2.same, hl3, ok3, d1, d2, d3, awake_eq, TA.down, TL.down, same_nilslice, resE, oneV, ↓reduceIte, reduceCtorEq, uB, uE, uL, uA, uM, uS, uN, uX, uO, vR, vD, vL, vK, vE, vA, vM, vT, vS]
  rw [run_loop]
  refine loop_ind (fun j σ hh => ∃ q, q + j = x1.length ∧ hh = h ∧ σ 0 = a1 ∧ σ 1 = a2 ∧ σ 2 = a3 ∧ σ 7 = .int .i64 (ios (x1.take q) : Int) ∧ σ 8 = .int .i64 (q : Int)) ?_ ?_ x1.length _ _ _ (by simp; omega) ?_
  · rintro mm σ hh ⟨q, hq, rfl, s0, s1, s2, s7, s8⟩
    obtain rfl : q = x1.length := by omega
    rw [List.take_of_length_le (Nat.le_refl _)] at s7
    have c3 : a3.cells = [a3] := by
      rcases h3 with ⟨_, rfl | ⟨q, o, n, rfl⟩⟩ | ⟨K, o, n, cs, ext, ro, _, rfl, _⟩ <;> rfl
    have cf := fun n => cfold n a3 x3
    have bsC := fun n => bs43C (crashS n x3) a3 rfl sc3
    simp (maxSteps := 2000000) (implicitDefEqProofs := false) (disch := first | omega | (simp only [SD.down, uA, uL] <;> omega) | fail) only [run_it, s0, s1, s2, s7, s8, lncA, lnoA, l1, h1.okv, h1.same, ok3, c3, sc3, cf, bsC, env_P, env_L, TA.down, TL.down, same_nilslice, resE, oneV, ↓reduceIte, reduceCtorEq, uB, uE, uL, uA, uM, uS, uN, uX, uO, vR, vD, vL, vK, vE, vA, vM, vT, vS]
    obtain ⟨n, hn⟩ : ∃ n, n = ios x1 := ⟨_, rfl⟩
    rw [← hn]
    have hn30 : n ≤ 30 := by have := ios_len x1; omega
    have kp1 : Keeps hh (hh.new (Blk.cells ((crashS n x3).C a3) 0 false)) := ⟨by simp (maxSteps := 2000000) (implicitDefEqProofs := false) (disch := first | omega | (simp only [SD.down, uA, uL] <;> omega) | fail) only [TA.down, TL.down, same_nilslice, resE, oneV, ↓reduceIte, reduceCtorEq, uB, uE, uL, uA, uM, uS, uN, uX, uO, vR, vD, vL, vK, vE, vA, vM, vT, vS]; omega, fun j hj => by simp (maxSteps := 2000000) (implicitDefEqProofs := false) (disch := first | omega | (simp only [SD.down, uA, uL] <;> omega) | fail) only [TA.down, TL.down, same_nilslice, resE, oneV, ↓reduceIte, reduceCtorEq, uB, uE, uL, uA, uM, uS, uN, uX, uO, vR, vD, vL, vK, vE, vA, vM, vT, vS]⟩
    have hsd : ∀ s ∈ [crashS n x3], s.data.length = 64 := fun s hs => by
      simp only [List.mem_cons, List.not_mem_nil, or_false] at hs; subst hs; rfl
    have hsp : ∀ s ∈ [crashS n x3], s.picks.length < 4000 := fun s hs => by
      simp only [List.mem_cons, List.not_mem_nil, or_false] at hs; subst hs; show x3.length < 4000; omega
    have stA : StA (hh.new (Blk.cells ((crashS n x3).C a3) 0 false)) (.slice hh.next 0 1 1) [crashS n x3] := by
      refine .inr ⟨hh.next, [a3], [], 0, false, by simp, .inl ⟨1, rfl⟩, by simp (maxSteps := 2000000) (implicitDefEqProofs := false) (disch := first | omega | (simp only [SD.down, uA, uL] <;> omega) | fail) only [TA.down, TL.down, same_nilslice, resE, oneV, ↓reduceIte, reduceCtorEq, uB, uE, uL, uA, uM, uS, uN, uX, uO, vR, vD, vL, vK, vE, vA, vM, vT, vS]; omega, rfl, ?_, fun i s u hs hu => ?_⟩
      · simp only [stpsC, List.zip_cons_cons, List.zip_nil_left, List.flatMap_cons, List.flatMap_nil, List.append_nil]
        simp (maxSteps := 2000000) (implicitDefEqProofs := false) (disch := first | omega | (simp only [SD.down, uA, uL] <;> omega) | fail) only [TA.down, TL.down, same_nilslice, resE, oneV, ↓reduceIte, reduceCtorEq, uB, uE, uL, uA, uM, uS, uN, uX, uO, vR, vD, vL, vK, vE, vA, vM, vT, vS]
      · match i, hs, hu with
        | 0, hs, hu => simp at hs hu; subst hs; subst hu; exact h3.keep kp1
        | i + 1, hs, hu => simp at hs
    first | refine G.call (two_g (d + 4) _ (fun _ => 0) 100 (.slice hh.next 0 1 1) [crashS n x3] hsd (by simp) hsp stA) ?_ | refine G.callC (two_g (d + 4) _ (fun _ => 0) 100 (.slice hh.next 0 1 1) [crashS n x3] hsd (by simp) hsp stA) ?_ | refine G.callL (two_g (d + 4) _ (fun _ => 0) 100 (.slice hh.next 0 1 1) [crashS n x3] hsd (by simp) hsp stA) ?_
    rintro v q1 ⟨β, a, b, cp, C1, rfl, I1, k1, hC1, hD1⟩
    have kk1 := kp1.trans k1
    have hn1 := kk1.1
    have stq : ∀ d' bb, bb.steps = [crashS n x3] → StepOk (d' + 1) bb 100 β cp [a, b] := fun d' bb hb => step_crash d' bb 100 β cp [a, b] (by omega) (fun s hs _ => by
      rw [hb] at hs
      simp only [List.mem_cons, List.not_mem_nil, or_false] at hs; subst hs; exact ⟨rfl, rfl⟩)
    have hC1' : ∀ j, j < hh.next → C1 j = 0 := fun j hj => hC1 j (by have := kp1.1; omega)
    have hf1 : ∀ j, j < hh.next → q1.get j = hh.get j := kk1.2
    have O1 : OI [crashS n x3] (BS.two [crashS n x3]) := OI.two (by simp) hsd
    clear stA kp1 hD1 k1 kk1 hC1
    simp (maxSteps := 2000000) (implicitDefEqProofs := false) (disch := first | omega | (simp only [SD.down, uA, uL] <;> omega) | fail) only [s0, s1, s2, s7, s8, lncA, lnoA, l1, h1.okv, h1.same, env_P, env_L, TA.down, TL.down, same_nilslice, resE, oneV, ↓reduceIte, reduceCtorEq, uB, uE, uL, uA, uM, uS, uN, uX, uO, vR, vD, vL, vK, vE, vA, vM, vT, vS]
    rw [run_loop]
    refine loop_ind (fun j σ q2 => ∃ q C bb, q + j = x1.length ∧ σ 0 = a1 ∧ σ 1 = a2 ∧ σ 9 = .ptr β 0 ∧ σ 10 = .ptr a 0 ∧ σ 11 = .ptr b 0 ∧ σ 12 = .int .i64 (q : Int) ∧ BusI q2 C 100 β cp [a, b] bb ∧ OI [crashS n x3] bb ∧ bb.off = false ∧ bb.log.length = ios (x1.take q) ∧ hh.next ≤ q2.next ∧ (∀ j, j < hh.next → C j = 0) ∧ ∀ j, j < hh.next → q2.get j = hh.get j) ?_ ?_ x1.length _ _ _ (by simp; omega) ?_
    · rintro mm σ q2 ⟨q, C, bb, hq, t0, t1, t9, t10, t11, t12, I, O, ho, hlg, hnn, hC, hf⟩
      obtain rfl : q = x1.length := by omega
      rw [List.take_of_length_le (Nat.le_refl _), ← hn] at hlg
      simp (maxSteps := 2000000) (implicitDefEqProofs := false) (disch := first | omega | (simp only [SD.down, uA, uL] <;> omega) | fail) only [run_it, t0, t1, t9, t10, t11, t12, lncA, lnoA, l1, h1.okv, h1.same, env_P, env_L, TA.down, TL.down, same_nilslice, resE, oneV, ↓reduceIte, reduceCtorEq, uB, uE, uL, uA, uM, uS, uN, uX, uO, vR, vD, vL, vK, vE, vA, vM, vT, vS]
      first | refine G.call (bus_cell (d + 1) q2 C 100 β cp [a, b] bb (by omega) I O.w (stq (d + 2) bb O.st)) ?_ | refine G.callC (bus_cell (d + 1) q2 C 100 β cp [a, b] bb (by omega) I O.w (stq (d + 2) bb O.st)) ?_ | refine G.callL (bus_cell (d + 1) q2 C 100 β cp [a, b] bb (by omega) I O.w (stq (d + 2) bb O.st)) ?_
      rintro v q3 ⟨C3, rfl, I3, fr3, hC3⟩
      have ea : bb.ahead = { bb with ms := crashL bb.ms x3, off := true } := by
        unfold BS.ahead
        rw [O.st]
        show (if (n : Int) = (bb.log.length : Int) then _ else _) = _
        rw [if_pos (by omega)]
        unfold BS.step
        rw [if_pos (show (crashS n x3).kind = 6 from rfl), O.st]
        rfl
      have eoff : bb.ahead.off = true := by rw [ea]
      have ecv : bb.cellV = (0, czz) := by unfold BS.cellV; rw [if_pos eoff]
      have ecr : bb.cellR = ({ tCell with e := 13 }, { ms := crashL bb.ms x3, cell := bb.cell, steps := bb.steps, off := true, log := bb.log ++ [{ tCell with e := 13 }] }) := by
        unfold BS.cellR; rw [ioR_off eoff, ea]
      rw [ecv, ecr]
      rw [ecr] at I3
      obtain ⟨b1, hb1⟩ : ∃ b1 : BS, b1 = { ms := crashL bb.ms x3, cell := bb.cell, steps := bb.steps, off := true, log := bb.log ++ [{ tCell with e := 13 }] } := ⟨_, rfl⟩
      have I3' : BusI q3 C3 100 β cp [a, b] b1 := by rw [hb1]; exact I3
      have wb1 : b1.wf := by
        have := ioR_wf O.w tCell rfl cellAct (pad_len (BS.last_len (BS.ahead_wf O.w))) (BS.ahead_wf O.w) (by omega)
        rw [hb1]
        have e : bb.ioR tCell cellAct = bb.cellR := rfl
        rw [e, ecr] at this
        exact this
      obtain ⟨S0, S1, hS⟩ : ∃ S0 S1, b1.ms = [S0, S1] := by
        have : b1.ms.length = 2 := by rw [hb1]; exact (crashL_len _ _).trans O.len
        match hm : b1.ms, this with
        | [S0, S1], _ => exact ⟨S0, S1, rfl⟩
      have hcm : ∀ S ∈ crashL bb.ms x3, S.lg = [] ∧ S.marks = [] ∧ S.n = 4 := by
        have key : ∀ (l : List MS) (p : List Nat), (∀ S ∈ l, S.n = 4 ∧ S.marks = []) → ∀ S ∈ crashL l p, S.lg = [] ∧ S.marks = [] ∧ S.n = 4 := by
          intro l
          induction l with
          | nil => intro p _ S hS; cases hS
          | cons T r ih =>
            intro p h S hS
            rw [crashL] at hS
            rcases List.mem_cons.1 hS with rfl | hS
            · exact ⟨rfl, (h T (by simp)).2, (h T (by simp)).1⟩
            · exact ih _ (fun S hS => h S (List.mem_cons_of_mem _ hS)) S hS
        exact key _ _ O.m
      have m0 := hcm S0 (by have : S0 ∈ b1.ms := by rw [hS]; simp
                            rw [hb1] at this; exact this)
      have m1 := hcm S1 (by have : S1 ∈ b1.ms := by rw [hS]; simp
                            rw [hb1] at this; exact this)
      have w0 : S0.wf := wb1.ms S0 (by rw [hS]; simp)
      have w1 : S1.wf := wb1.ms S1 (by rw [hS]; simp)
      have hoff1 : b1.off = true := by rw [hb1]
      have hst1 : b1.steps = [crashS n x3] := by rw [hb1]; exact O.st
      have hlg1 : b1.log.length = n + 1 := by rw [hb1]; simp; omega
      have hce1 : b1.cell.length ≤ n + 1 := by
        rw [hb1]
        show bb.cell.length ≤ n + 1
        have := O.cl; omega
      have hla1 : b1.last.1 ≤ n := by
        have : b1.last = bb.last := by rw [hb1]; rfl
        rw [this]; have := O.last; omega
      have hn3 := fr3.le
      have hC3' : ∀ j, j < hh.next → C3 j = 0 := fun j hj => (hC3 j (by omega)).trans (hC j hj)
      have hf3 : ∀ j, j < hh.next → q3.get j = hh.get j := fun j hj => (fr3.get j (by omega) (by rw [hC j hj]; unfold busK; omega)).trans (hf j hj)
      clear I3 hb1 ecr ecv eoff ea hcm fr3 hC3 hf hC I O ho hlg
      have czl : czz.length = 32 := rfl
      have hcz := cC_len 0 czz czl
      have hco := cC_over 0 0 czz czz czl czl
      have hcc := cC_cut 0 czz czl
      have ez : eqlE Try.prog 70 (.agg (cC 0 czz)) (.agg (cC 0 czz)) = some true := by kernel_rfl
      simp (maxSteps := 2000000) (implicitDefEqProofs := false) (disch := first | omega | (simp only [SD.down, uA, uL] <;> omega) | fail) only [t0, t1, t9, t10, t11, t12, lncA, lnoA, l1, h1.okv, h1.same, c33_fold, cz_fold, hcz, hco, hcc, ez, bin_neq_agg, env_P, env_L, TA.down, TL.down, same_nilslice, resE, oneV, ↓reduceIte, reduceCtorEq, uB, uE, uL, uA, uM, uS, uN, uX, uO, vR, vD, vL, vK, vE, vA, vM, vT, vS]
      have kp3 : Keeps q3 ((q3.new (Blk.cells (cC 0 czz) 0 false)).put q3.next (some (Blk.cells (cC 0 czz) 0 false))) := ⟨by simp (maxSteps := 2000000) (implicitDefEqProofs := false) (disch := first | omega | (simp only [SD.down, uA, uL] <;> omega) | fail) only [TA.down, TL.down, same_nilslice, resE, oneV, ↓reduceIte, reduceCtorEq, uB, uE, uL, uA, uM, uS, uN, uX, uO, vR, vD, vL, vK, vE, vA, vM, vT, vS]; omega, fun j hj => by simp (maxSteps := 2000000) (implicitDefEqProofs := false) (disch := first | omega | (simp only [SD.down, uA, uL] <;> omega) | fail) only [TA.down, TL.down, same_nilslice, resE, oneV, ↓reduceIte, reduceCtorEq, uB, uE, uL, uA, uM, uS, uN, uX, uO, vR, vD, vL, vK, vE, vA, vM, vT, vS]⟩
      generalize ((q3.new (Blk.cells (cC 0 czz) 0 false)).put q3.next (some (Blk.cells (cC 0 czz) 0 false))) = q4 at kp3 ⊢
      have cc4 : ∀ j, j < q3.next → pnt C3 q3.next 0 j = C3 j := fun j hj => pnt_lt hj
      have I4 : BusI q4 (pnt C3 q3.next 0) 100 β cp [a, b] b1 := I3'.keeps wb1.msl kp3 cc4
      have hn4 := kp3.1
      have hC4 : ∀ j, j < hh.next → pnt C3 q3.next 0 j = 0 := fun j hj => (cc4 j (by omega)).trans (hC3' j hj)
      have hf4 : ∀ j, j < hh.next → q4.get j = hh.get j := fun j hj => (kp3.2 j (by omega)).trans (hf3 j hj)
      generalize pnt C3 q3.next 0 = C4 at I4 hC4
      clear cc4 I3' hC3' hf3
      have I4c := I4
      obtain ⟨Ms4, stv4, lgv4, _, _, _, _, _, _, _, _, jm, _, _, _⟩ := I4c
      have A0 := jm 0 a S0 rfl (by rw [hS]; rfl)
      have A1 := jm 1 b S1 rfl (by rw [hS]; rfl)
      clear jm
      have u0 := fun d => m_unfl d q4 C4 102 a S0 A0 w0
      have u1 := fun d => m_unfl d q4 C4 103 b S1 A1 w1
      have of4 := fun d => bus_off d q4 C4 100 β cp [a, b] b1 I4
      rw [hoff1] at of4
      rw [m0.1] at u0
      rw [m1.1] at u1
      have e00 : ((List.length ([] : Img) : Nat) : Int) = 0 := rfl
      rw [e00] at u0 u1
      simp (maxSteps := 2000000) (implicitDefEqProofs := false) (disch := first | omega | (simp only [SD.down, uA, uL] <;> omega) | fail) only [t0, t1, t9, t10, t11, t12, of4, u0, u1, env_P, env_L, TA.down, TL.down, same_nilslice, resE, oneV, ↓reduceIte, reduceCtorEq, uB, uE, uL, uA, uM, uS, uN, uX, uO, vR, vD, vL, vK, vE, vA, vM, vT, vS]
      first | refine G.call (m_copy (d + 6) q4 C4 102 202 a S0 A0 w0 m0.2.1) ?_ | refine G.callC (m_copy (d + 6) q4 C4 102 202 a S0 A0 w0 m0.2.1) ?_ | refine G.callL (m_copy (d + 6) q4 C4 102 202 a S0 A0 w0 m0.2.1) ?_
      rintro v q5 ⟨c, rfl, B0, k5⟩
      have hn5 := k5.1
      have A1' := A1.keeps (c' := pnt C4 q4.next 202) k5 (fun j hj hc => (pnt_lt hj).trans hc)
      simp (maxSteps := 2000000) (implicitDefEqProofs := false) (disch := first | omega | (simp only [SD.down, uA, uL] <;> omega) | fail) only [t0, t1, t9, t10, t11, t12, env_P, env_L, TA.down, TL.down, same_nilslice, resE, oneV, ↓reduceIte, reduceCtorEq, uB, uE, uL, uA, uM, uS, uN, uX, uO, vR, vD, vL, vK, vE, vA, vM, vT, vS]
      first | refine G.call (m_copy (d + 6) q5 (pnt C4 q4.next 202) 103 203 b S1 A1' w1 m1.2.1) ?_ | refine G.callC (m_copy (d + 6) q5 (pnt C4 q4.next 202) 103 203 b S1 A1' w1 m1.2.1) ?_ | refine G.callL (m_copy (d + 6) q5 (pnt C4 q4.next 202) 103 203 b S1 A1' w1 m1.2.1) ?_
      rintro v q6 ⟨e, rfl, B1, k6⟩
      have hn6 := k6.1
      have cc6 : ∀ j, j < q4.next → pnt (pnt C4 q4.next 202) q5.next 203 j = C4 j := fun j hj => (pnt_lt (by omega)).trans (pnt_lt hj)
      have I6 : BusI q6 (pnt (pnt C4 q4.next 202) q5.next 203) 100 β cp [a, b] b1 := I4.keeps wb1.msl (k5.trans k6) cc6
      have B0' : MemI q6 (pnt (pnt C4 q4.next 202) q5.next 203) 202 c S0 := B0.keeps k6 (fun j hj hc => (pnt_lt hj).trans hc)
      have hC6 : ∀ j, j < hh.next → pnt (pnt C4 q4.next 202) q5.next 203 j = 0 := fun j hj => (cc6 j (by omega)).trans (hC4 j hj)
      have hf6 : ∀ j, j < hh.next → q6.get j = hh.get j := fun j hj => ((k5.trans k6).2 j (by omega)).trans (hf4 j hj)
      generalize pnt (pnt C4 q4.next 202) q5.next 203 = C6 at B1 I6 B0' hC6
      clear cc6 A0 A1 A1' B0 I4 u0 u1 of4 hC4 hf4
      simp (maxSteps := 2000000) (implicitDefEqProofs := false) (disch := first | omega | (simp only [SD.down, uA, uL] <;> omega) | fail) only [t0, t1, t9, t10, t11, t12, lncA, lnoA, l1, h1.okv, h1.same, env_P, env_L, TA.down, TL.down, same_nilslice, resE, oneV, ↓reduceIte, reduceCtorEq, uB, uE, uL, uA, uM, uS, uN, uX, uO, vR, vD, vL, vK, vE, vA, vM, vT, vS]
      rw [run_loop]
      refine loop_ind (fun j σ q7 => ∃ q C bb, q + j = x2.length ∧ σ 1 = a2 ∧ σ 9 = .ptr β 0 ∧ σ 10 = .ptr a 0 ∧ σ 11 = .ptr b 0 ∧ σ 15 = .ptr c 0 ∧ σ 16 = .ptr e 0 ∧ σ 17 = .int .i64 (q : Int) ∧ BusI q7 C 100 β cp [a, b] bb ∧ bb.wf ∧ bb.ms = [S0, S1] ∧ bb.off = true ∧ bb.steps = [crashS n x3] ∧ n < bb.log.length ∧ bb.log.length ≤ n + 1 + q ∧ bb.last = b1.last ∧ bb.cell = b1.cell ∧ MemI q7 C 202 c S0 ∧ MemI q7 C 203 e S1 ∧ hh.next ≤ q7.next ∧ (∀ j, j < hh.next → C j = 0) ∧ ∀ j, j < hh.next → q7.get j = hh.get j) ?_ ?_ x2.length _ _ _ (by simp; omega) ?_
      · rintro mm σ q7 ⟨q, C, bb, hq, t1, t9, t10, t11, t15, t16, t17, I, wb, hms, hoff, hst, hnl, hll, hla, hce, D0, D1, hnn7, hC, hf⟩
        obtain rfl : q = x2.length := by omega
        simp (maxSteps := 2000000) (implicitDefEqProofs := false) (disch := first | omega | (simp only [SD.down, uA, uL] <;> omega) | fail) only [run_it, t1, t9, t10, t11, t15, t16, t17, lncA, lnoA, l2, h2.okv, h2.same, env_P, env_L, TA.down, TL.down, same_nilslice, resE, oneV, ↓reduceIte, reduceCtorEq, uB, uE, uL, uA, uM, uS, uN, uX, uO, vR, vD, vL, vK, vE, vA, vM, vT, vS]
        rw [run_loop]
        have Ic := I
        obtain ⟨Ms7, stv7, lgv7, _, _, _, _, _, _, _, _, jm, _, _, _⟩ := Ic
        have F0 := jm 0 a S0 rfl (by rw [hms]; rfl)
        have F1 := jm 1 b S1 rfl (by rw [hms]; rfl)
        clear jm
        refine loop_ind (fun j σ p0 => ∃ k C, k + j = 4 ∧ σ 9 = .ptr β 0 ∧ σ 10 = .ptr a 0 ∧ σ 11 = .ptr b 0 ∧ σ 15 = .ptr c 0 ∧ σ 16 = .ptr e 0 ∧ σ 18 = .int .i64 (k : Int) ∧ BusI p0 C 100 β cp [a, b] bb ∧ MemI p0 C 102 a S0 ∧ MemI p0 C 202 c S0 ∧ MemI p0 C 103 b S1 ∧ MemI p0 C 203 e S1) ?_ ?_ 4 _ _ _ (by simp) ?_
        · rintro mm σ p0 ⟨k, C, hk, t9, t10, t11, t15, t16, t18, J, E0, E1, E2, E3⟩
          obtain rfl : k = 4 := by omega
          simp (maxSteps := 2000000) (implicitDefEqProofs := false) (disch := first | omega | (simp only [SD.down, uA, uL] <;> omega) | fail) only [run_it, t9, t10, t11, t15, t16, t18, env_P, env_L, TA.down, TL.down, same_nilslice, resE, oneV, ↓reduceIte, reduceCtorEq, uB, uE, uL, uA, uM, uS, uN, uX, uO, vR, vD, vL, vK, vE, vA, vM, vT, vS]
          first | refine G.call (bus_power (d + 9) p0 C 100 β cp [a, b] bb J wb (by omega)) ?_ | refine G.callC (bus_power (d + 9) p0 C 100 β cp [a, b] bb J wb (by omega)) ?_ | refine G.callL (bus_power (d + 9) p0 C 100 β cp [a, b] bb J wb (by omega)) ?_
          rintro v p1 ⟨rfl, J1, fr1⟩
          simp (maxSteps := 2000000) (implicitDefEqProofs := false) (disch := first | omega | (simp only [SD.down, uA, uL] <;> omega) | fail) only [t9, t10, t11, t15, t16, t18, env_P, env_L, TA.down, TL.down, same_nilslice, resE, oneV, ↓reduceIte, reduceCtorEq, uB, uE, uL, uA, uM, uS, uN, uX, uO, vR, vD, vL, vK, vE, vA, vM, vT, vS]
          have wb2 : BS.wf { bb with off := false } := ⟨wb.ms, wb.msl, wb.ms0, wb.cell, wb.celll, wb.cell0, wb.stl, wb.st, wb.logl, wb.log⟩
          first | refine G.call (bus_cell (d + 1) p1 C 100 β cp [a, b] { bb with off := false } (by omega) J1 wb2 (stq (d + 2) { bb with off := false } hst)) ?_ | refine G.callC (bus_cell (d + 1) p1 C 100 β cp [a, b] { bb with off := false } (by omega) J1 wb2 (stq (d + 2) { bb with off := false } hst)) ?_ | refine G.callL (bus_cell (d + 1) p1 C 100 β cp [a, b] { bb with off := false } (by omega) J1 wb2 (stq (d + 2) { bb with off := false } hst)) ?_
          rintro v p2 ⟨C3, rfl, J2, fr2, hC3⟩
          have eah : BS.ahead { bb with off := false } = { bb with off := false } := quiet (b := { bb with off := false }) fun s hs => by
            have hs' : s ∈ bb.steps := hs
            rw [hst] at hs'
            simp only [List.mem_cons, List.not_mem_nil, or_false] at hs'
            subst hs'
            show (n : Int) ≠ (bb.log.length : Int)
            omega
          have ecr : (BS.cellR { bb with off := false }).1.e = 0 := by unfold BS.cellR; rw [ioR_q eah rfl]; rfl
          have eco : (BS.cellR { bb with off := false }).2.off = false := by unfold BS.cellR; rw [ioR_q eah rfl]; rfl
          have of2 := fun d => bus_off d p2 C3 100 β cp [a, b] _ J2
          rw [eco] at of2
          rw [ecr]
          simp (maxSteps := 2000000) (implicitDefEqProofs := false) (disch := first | omega | (simp only [SD.down, uA, uL] <;> omega) | fail) only [t9, t10, t11, t15, t16, t18, of2, awake_eq, env_P, env_L, TA.down, TL.down, same_nilslice, resE, oneV, ↓reduceIte, reduceCtorEq, uB, uE, uL, uA, uM, uS, uN, uX, uO, vR, vD, vL, vK, vE, vA, vM, vT, vS]
          subst hX
          exact G.ok rfl
        · rintro j mm σ p0 ⟨k, C, hk, t9, t10, t11, t15, t16, t18, J, E0, E1, E2, E3⟩ ih
          have hk4 : k < 4 := by omega
          have hz := zz_len
          have r0 := MS.read_len w0 (k : Int)
          have r1 := MS.read_len w1 (k : Int)
          simp (maxSteps := 2000000) (implicitDefEqProofs := false) (disch := first | omega | (simp only [SD.down, uA, uL] <;> omega) | fail) only [run_it, t9, t10, t11, t15, t16, t18, zz_fold, env_P, env_L, TA.down, TL.down, same_nilslice, resE, oneV, ↓reduceIte, reduceCtorEq, uB, uE, uL, uA, uM, uS, uN, uX, uO, vR, vD, vL, vK, vE, vA, vM, vT, vS]
          first | refine G.call (m_read (d + 7) p0 (pnt C p0.next 0) 102 a S0 (E0.keeps (⟨Nat.le_refl _, fun _ _ => rfl⟩ : Keeps p0 p0) (fun j hj hc => (pnt_lt hj).trans hc)) w0 (k : Int)) ?_ | refine G.callC (m_read (d + 7) p0 (pnt C p0.next 0) 102 a S0 (E0.keeps (⟨Nat.le_refl _, fun _ _ => rfl⟩ : Keeps p0 p0) (fun j hj hc => (pnt_lt hj).trans hc)) w0 (k : Int)) ?_ | refine G.callL (m_read (d + 7) p0 (pnt C p0.next 0) 102 a S0 (E0.keeps (⟨Nat.le_refl _, fun _ _ => rfl⟩ : Keeps p0 p0) (fun j hj hc => (pnt_lt hj).trans hc)) w0 (k : Int)) ?_
          rintro v p1 ⟨rfl, kq0⟩
          have kn0 := kq0.1
          simp (maxSteps := 2000000) (implicitDefEqProofs := false) (disch := first | omega | (simp only [SD.down, uA, uL] <;> omega) | fail) only [t9, t10, t11, t15, t16, t18, zz_fold, hz, r0, cutB_all, over_B, bin_neq_agg, env_P, env_L, TA.down, TL.down, same_nilslice, resE, oneV, ↓reduceIte, reduceCtorEq, uB, uE, uL, uA, uM, uS, uN, uX, uO, vR, vD, vL, vK, vE, vA, vM, vT, vS]
          have kk1 : Keeps p0 ((p1.new (Blk.cells (B zz) 0 false)).put p1.next (some (Blk.cells (B ((S0.read (k : Int)).1)) 0 false))) := ⟨by simp (maxSteps := 2000000) (implicitDefEqProofs := false) (disch := first | omega | (simp only [SD.down, uA, uL] <;> omega) | fail) only [TA.down, TL.down, same_nilslice, resE, oneV, ↓reduceIte, reduceCtorEq, uB, uE, uL, uA, uM, uS, uN, uX, uO, vR, vD, vL, vK, vE, vA, vM, vT, vS]; omega, fun j hj => by simp (maxSteps := 2000000) (implicitDefEqProofs := false) (disch := first | omega | (simp only [SD.down, uA, uL] <;> omega) | fail) only [TA.down, TL.down, same_nilslice, resE, oneV, ↓reduceIte, reduceCtorEq, uB, uE, uL, uA, uM, uS, uN, uX, uO, vR, vD, vL, vK, vE, vA, vM, vT, vS]; exact kq0.2 j hj⟩
          have f0 : ((p1.new (Blk.cells (B zz) 0 false)).put p1.next (some (Blk.cells (B ((S0.read (k : Int)).1)) 0 false))).get p1.next = some (.cells (B ((S0.read (k : Int)).1)) 0 false) := by simp (maxSteps := 2000000) (implicitDefEqProofs := false) (disch := first | omega | (simp only [SD.down, uA, uL] <;> omega) | fail) only [TA.down, TL.down, same_nilslice, resE, oneV, ↓reduceIte, reduceCtorEq, uB, uE, uL, uA, uM, uS, uN, uX, uO, vR, vD, vL, vK, vE, vA, vM, vT, vS]
          have nx0 : ((p1.new (Blk.cells (B zz) 0 false)).put p1.next (some (Blk.cells (B ((S0.read (k : Int)).1)) 0 false))).next = p1.next + 1 := by simp (maxSteps := 2000000) (implicitDefEqProofs := false) (disch := first | omega | (simp only [SD.down, uA, uL] <;> omega) | fail) only [TA.down, TL.down, same_nilslice, resE, oneV, ↓reduceIte, reduceCtorEq, uB, uE, uL, uA, uM, uS, uN, uX, uO, vR, vD, vL, vK, vE, vA, vM, vT, vS]
          generalize ((p1.new (Blk.cells (B zz) 0 false)).put p1.next (some (Blk.cells (B ((S0.read (k : Int)).1)) 0 false))) = g1h at *
          first | refine G.call (m_read (d + 7) g1h (pnt C p0.next 0) 202 c S0 (E1.keeps kk1 (fun j hj hc => (pnt_lt hj).trans hc)) w0 (k : Int)) ?_ | refine G.callC (m_read (d + 7) g1h (pnt C p0.next 0) 202 c S0 (E1.keeps kk1 (fun j hj hc => (pnt_lt hj).trans hc)) w0 (k : Int)) ?_ | refine G.callL (m_read (d + 7) g1h (pnt C p0.next 0) 202 c S0 (E1.keeps kk1 (fun j hj hc => (pnt_lt hj).trans hc)) w0 (k : Int)) ?_
          rintro v p2 ⟨rfl, kq1⟩
          have kn1 := kq1.1
          replace f0 := (kq1.2 _ (by omega)).trans f0
          simp (maxSteps := 2000000) (implicitDefEqProofs := false) (disch := first | omega | (simp only [SD.down, uA, uL] <;> omega) | fail) only [t9, t10, t11, t15, t16, t18, zz_fold, hz, r0, cutB_all, over_B, f0, bin_neq_agg, env_P, env_L, TA.down, TL.down, same_nilslice, resE, oneV, ↓reduceIte, reduceCtorEq, uB, uE, uL, uA, uM, uS, uN, uX, uO, vR, vD, vL, vK, vE, vA, vM, vT, vS]
          have kk2 : Keeps p0 ((p2.new (Blk.cells (B zz) 0 false)).put p2.next (some (Blk.cells (B ((S0.read (k : Int)).1)) 0 false))) := ⟨by simp (maxSteps := 2000000) (implicitDefEqProofs := false) (disch := first | omega | (simp only [SD.down, uA, uL] <;> omega) | fail) only [TA.down, TL.down, same_nilslice, resE, oneV, ↓reduceIte, reduceCtorEq, uB, uE, uL, uA, uM, uS, uN, uX, uO, vR, vD, vL, vK, vE, vA, vM, vT, vS]; omega, fun j hj => by simp (maxSteps := 2000000) (implicitDefEqProofs := false) (disch := first | omega | (simp only [SD.down, uA, uL] <;> omega) | fail) only [TA.down, TL.down, same_nilslice, resE, oneV, ↓reduceIte, reduceCtorEq, uB, uE, uL, uA, uM, uS, uN, uX, uO, vR, vD, vL, vK, vE, vA, vM, vT, vS]; exact (kq1.2 j (by omega)).trans (kk1.2 j hj)⟩
          have f1 : ((p2.new (Blk.cells (B zz) 0 false)).put p2.next (some (Blk.cells (B ((S0.read (k : Int)).1)) 0 false))).get p2.next = some (.cells (B ((S0.read (k : Int)).1)) 0 false) := by simp (maxSteps := 2000000) (implicitDefEqProofs := false) (disch := first | omega | (simp only [SD.down, uA, uL] <;> omega) | fail) only [TA.down, TL.down, same_nilslice, resE, oneV, ↓reduceIte, reduceCtorEq, uB, uE, uL, uA, uM, uS, uN, uX, uO, vR, vD, vL, vK, vE, vA, vM, vT, vS]
          have nx1 : ((p2.new (Blk.cells (B zz) 0 false)).put p2.next (some (Blk.cells (B ((S0.read (k : Int)).1)) 0 false))).next = p2.next + 1 := by simp (maxSteps := 2000000) (implicitDefEqProofs := false) (disch := first | omega | (simp only [SD.down, uA, uL] <;> omega) | fail) only [TA.down, TL.down, same_nilslice, resE, oneV, ↓reduceIte, reduceCtorEq, uB, uE, uL, uA, uM, uS, uN, uX, uO, vR, vD, vL, vK, vE, vA, vM, vT, vS]
          have f0' : ((p2.new (Blk.cells (B zz) 0 false)).put p2.next (some (Blk.cells (B ((S0.read (k : Int)).1)) 0 false))).get p1.next = some (.cells (B ((S0.read (k : Int)).1)) 0 false) := by simp (maxSteps := 2000000) (implicitDefEqProofs := false) (disch := first | omega | (simp only [SD.down, uA, uL] <;> omega) | fail) only [TA.down, TL.down, same_nilslice, resE, oneV, ↓reduceIte, reduceCtorEq, uB, uE, uL, uA, uM, uS, uN, uX, uO, vR, vD, vL, vK, vE, vA, vM, vT, vS]; exact f0
          replace f0 := f0'
          clear f0'
          generalize ((p2.new (Blk.cells (B zz) 0 false)).put p2.next (some (Blk.cells (B ((S0.read (k : Int)).1)) 0 false))) = g2h at *
          first | refine G.call (m_read (d + 7) g2h (pnt C p0.next 0) 103 b S1 (E2.keeps kk2 (fun j hj hc => (pnt_lt hj).trans hc)) w1 (k : Int)) ?_ | refine G.callC (m_read (d + 7) g2h (pnt C p0.next 0) 103 b S1 (E2.keeps kk2 (fun j hj hc => (pnt_lt hj).trans hc)) w1 (k : Int)) ?_ | refine G.callL (m_read (d + 7) g2h (pnt C p0.next 0) 103 b S1 (E2.keeps kk2 (fun j hj hc => (pnt_lt hj).trans hc)) w1 (k : Int)) ?_
          rintro v p3 ⟨rfl, kq2⟩
          have kn2 := kq2.1
          replace f0 := (kq2.2 _ (by omega)).trans f0
          replace f1 := (kq2.2 _ (by omega)).trans f1
          simp (maxSteps := 2000000) (implicitDefEqProofs := false) (disch := first | omega | (simp only [SD.down, uA, uL] <;> omega) | fail) only [t9, t10, t11, t15, t16, t18, zz_fold, hz, r1, cutB_all, over_B, f0, f1, bin_neq_agg, env_P, env_L, TA.down, TL.down, same_nilslice, resE, oneV, ↓reduceIte, reduceCtorEq, uB, uE, uL, uA, uM, uS, uN, uX, uO, vR, vD, vL, vK, vE, vA, vM, vT, vS]
          have kk3 : Keeps p0 ((p3.new (Blk.cells (B zz) 0 false)).put p3.next (some (Blk.cells (B ((S1.read (k : Int)).1)) 0 false))) := ⟨by simp (maxSteps := 2000000) (implicitDefEqProofs := false) (disch := first | omega | (simp only [SD.down, uA, uL] <;> omega) | fail) only [TA.down, TL.down, same_nilslice, resE, oneV, ↓reduceIte, reduceCtorEq, uB, uE, uL, uA, uM, uS, uN, uX, uO, vR, vD, vL, vK, vE, vA, vM, vT, vS]; omega, fun j hj => by simp (maxSteps := 2000000) (implicitDefEqProofs := false) (disch := first | omega | (simp only [SD.down, uA, uL] <;> omega) | fail) only [TA.down, TL.down, same_nilslice, resE, oneV, ↓reduceIte, reduceCtorEq, uB, uE, uL, uA, uM, uS, uN, uX, uO, vR, vD, vL, vK, vE, vA, vM, vT, vS]; exact (kq2.2 j (by omega)).trans (kk2.2 j hj)⟩
          have f2 : ((p3.new (Blk.cells (B zz) 0 false)).put p3.next (some (Blk.cells (B ((S1.read (k : Int)).1)) 0 false))).get p3.next = some (.cells (B ((S1.read (k : Int)).1)) 0 false) := by simp (maxSteps := 2000000) (implicitDefEqProofs := false) (disch := first | omega | (simp only [SD.down, uA, uL] <;> omega) | fail) only [TA.down, TL.down, same_nilslice, resE, oneV, ↓reduceIte, reduceCtorEq, uB, uE, uL, uA, uM, uS, uN, uX, uO, vR, vD, vL, vK, vE, vA, vM, vT, vS]
          have nx2 : ((p3.new (Blk.cells (B zz) 0 false)).put p3.next (some (Blk.cells (B ((S1.read (k : Int)).1)) 0 false))).next = p3.next + 1 := by simp (maxSteps := 2000000) (implicitDefEqProofs := false) (disch := first | omega | (simp only [SD.down, uA, uL] <;> omega) | fail) only [TA.down, TL.down, same_nilslice, resE, oneV, ↓reduceIte, reduceCtorEq, uB, uE, uL, uA, uM, uS, uN, uX, uO, vR, vD, vL, vK, vE, vA, vM, vT, vS]
          have f0' : ((p3.new (Blk.cells (B zz) 0 false)).put p3.next (some (Blk.cells (B ((S1.read (k : Int)).1)) 0 false))).get p1.next = some (.cells (B ((S0.read (k : Int)).1)) 0 false) := by simp (maxSteps := 2000000) (implicitDefEqProofs := false) (disch := first | omega | (simp only [SD.down, uA, uL] <;> omega) | fail) only [TA.down, TL.down, same_nilslice, resE, oneV, ↓reduceIte, reduceCtorEq, uB, uE, uL, uA, uM, uS, uN, uX, uO, vR, vD, vL, vK, vE, vA, vM, vT, vS]; exact f0
          replace f0 := f0'
          clear f0'
          have f1' : ((p3.new (Blk.cells (B zz) 0 false)).put p3.next (some (Blk.cells (B ((S1.read (k : Int)).1)) 0 false))).get p2.next = some (.cells (B ((S0.read (k : Int)).1)) 0 false) := by simp (maxSteps := 2000000) (implicitDefEqProofs := false) (disch := first | omega | (simp only [SD.down, uA, uL] <;> omega) | fail) only [TA.down, TL.down, same_nilslice, resE, oneV, ↓reduceIte, reduceCtorEq, uB, uE, uL, uA, uM, uS, uN, uX, uO, vR, vD, vL, vK, vE, vA, vM, vT, vS]; exact f1
          replace f1 := f1'
          clear f1'
          generalize ((p3.new (Blk.cells (B zz) 0 false)).put p3.next (some (Blk.cells (B ((S1.read (k : Int)).1)) 0 false))) = g3h at *
          first | refine G.call (m_read (d + 7) g3h (pnt C p0.next 0) 203 e S1 (E3.keeps kk3 (fun j hj hc => (pnt_lt hj).trans hc)) w1 (k : Int)) ?_ | refine G.callC (m_read (d + 7) g3h (pnt C p0.next 0) 203 e S1 (E3.keeps kk3 (fun j hj hc => (pnt_lt hj).trans hc)) w1 (k : Int)) ?_ | refine G.callL (m_read (d + 7) g3h (pnt C p0.next 0) 203 e S1 (E3.keeps kk3 (fun j hj hc => (pnt_lt hj).trans hc)) w1 (k : Int)) ?_
          rintro v p4 ⟨rfl, kq3⟩
          have kn3 := kq3.1
          replace f0 := (kq3.2 _ (by omega)).trans f0
          replace f1 := (kq3.2 _ (by omega)).trans f1
          replace f2 := (kq3.2 _ (by omega)).trans f2
          have eqa : eqlE Try.prog 25 (.agg (B (S0.read (k : Int)).1)) (.agg (B (S0.read (k : Int)).1)) = some true := by rw [eq25 _ _ r0 r0, decide_eq_true rfl]
          have eqb : eqlE Try.prog 25 (.agg (B (S1.read (k : Int)).1)) (.agg (B (S1.read (k : Int)).1)) = some true := by rw [eq25 _ _ r1 r1, decide_eq_true rfl]
          have hcc : ∀ {x : Nat} (j : Nat), j < p0.next → C j = x → pnt C p0.next 0 j = x := fun j hj hc => (pnt_lt hj).trans hc
          have kk4 : Keeps p0 ((p4.new (Blk.cells (B zz) 0 false)).put p4.next (some (Blk.cells (B (S1.read (k : Int)).1) 0 false))) := ⟨by simp (maxSteps := 2000000) (implicitDefEqProofs := false) (disch := first | omega | (simp only [SD.down, uA, uL] <;> omega) | fail) only [TA.down, TL.down, same_nilslice, resE, oneV, ↓reduceIte, reduceCtorEq, uB, uE, uL, uA, uM, uS, uN, uX, uO, vR, vD, vL, vK, vE, vA, vM, vT, vS]; omega, fun j hj => by simp (maxSteps := 2000000) (implicitDefEqProofs := false) (disch := first | omega | (simp only [SD.down, uA, uL] <;> omega) | fail) only [TA.down, TL.down, same_nilslice, resE, oneV, ↓reduceIte, reduceCtorEq, uB, uE, uL, uA, uM, uS, uN, uX, uO, vR, vD, vL, vK, vE, vA, vM, vT, vS]; exact (kq3.2 j (by omega)).trans (kk3.2 j hj)⟩
          simp (maxSteps := 2000000) (implicitDefEqProofs := false) (disch := first | omega | (simp only [SD.down, uA, uL] <;> omega) | fail) only [t9, t10, t11, t15, t16, t18, zz_fold, hz, r1, cutB_all, over_B, f0, f1, f2, bin_neq_agg, eqa, eqb, env_P, env_L, TA.down, TL.down, same_nilslice, resE, oneV, ↓reduceIte, reduceCtorEq, uB, uE, uL, uA, uM, uS, uN, uX, uO, vR, vD, vL, vK, vE, vA, vM, vT, vS]
          refine ih _ _ ⟨k + 1, pnt C p0.next 0, by omega, by simp (maxSteps := 2000000) (implicitDefEqProofs := false) (disch := first | omega | (simp only [SD.down, uA, uL] <;> omega) | fail) only [t9, TA.down, TL.down, same_nilslice, resE, oneV, ↓reduceIte, reduceCtorEq, uB, uE, uL, uA, uM, uS, uN, uX, uO, vR, vD, vL, vK, vE, vA, vM, vT, vS], by simp (maxSteps := 2000000) (implicitDefEqProofs := false) (disch := first | omega | (simp only [SD.down, uA, uL] <;> omega) | fail) only [t10, TA.down, TL.down, same_nilslice, resE, oneV, ↓reduceIte, reduceCtorEq, uB, uE, uL, uA, uM, uS, uN, uX, uO, vR, vD, vL, vK, vE, vA, vM, vT, vS], by simp (maxSteps := 2000000) (implicitDefEqProofs := false) (disch := first | omega | (simp only [SD.down, uA, uL] <;> omega) | fail) only [t11, TA.down, TL.down, same_nilslice, resE, oneV, ↓reduceIte, reduceCtorEq, uB, uE, uL, uA, uM, uS, uN, uX, uO, vR, vD, vL, vK, vE, vA, vM, vT, vS], by simp (maxSteps := 2000000) (implicitDefEqProofs := false) (disch := first | omega | (simp only [SD.down, uA, uL] <;> omega) | fail) only [t15, TA.down, TL.down, same_nilslice, resE, oneV, ↓reduceIte, reduceCtorEq, uB, uE, uL, uA, uM, uS, uN, uX, uO, vR, vD, vL, vK, vE, vA, vM, vT, vS], by simp (maxSteps := 2000000) (implicitDefEqProofs := false) (disch := first | omega | (simp only [SD.down, uA, uL] <;> omega) | fail) only [t16, TA.down, TL.down, same_nilslice, resE, oneV, ↓reduceIte, reduceCtorEq, uB, uE, uL, uA, uM, uS, uN, uX, uO, vR, vD, vL, vK, vE, vA, vM, vT, vS], by simp (maxSteps := 2000000) (implicitDefEqProofs := false) (disch := first | omega | (simp only [SD.down, uA, uL] <;> omega) | fail) only [TA.down, TL.down, same_nilslice, resE, oneV, ↓reduceIte, reduceCtorEq, uB, uE, uL, uA, uM, uS, uN, uX, uO, vR, vD, vL, vK, vE, vA, vM, vT, vS], J.keeps wb.msl kk4 (fun j hj => pnt_lt hj), E0.keeps kk4 hcc, E1.keeps kk4 hcc, E2.keeps kk4 hcc, E3.keeps kk4 hcc⟩
        · exact ⟨0, C, by omega, by simp (maxSteps := 2000000) (implicitDefEqProofs := false) (disch := first | omega | (simp only [SD.down, uA, uL] <;> omega) | fail) only [t9, TA.down, TL.down, same_nilslice, resE, oneV, ↓reduceIte, reduceCtorEq, uB, uE, uL, uA, uM, uS, uN, uX, uO, vR, vD, vL, vK, vE, vA, vM, vT, vS], by simp (maxSteps := 2000000) (implicitDefEqProofs := false) (disch := first | omega | (simp only [SD.down, uA, uL] <;> omega) | fail) only [t10, TA.down, TL.down, same_nilslice, resE, oneV, ↓reduceIte, reduceCtorEq, uB, uE, uL, uA, uM, uS, uN, uX, uO, vR, vD, vL, vK, vE, vA, vM, vT, vS], by simp (maxSteps := 2000000) (implicitDefEqProofs := false) (disch := first | omega | (simp only [SD.down, uA, uL] <;> omega) | fail) only [t11, TA.down, TL.down, same_nilslice, resE, oneV, ↓reduceIte, reduceCtorEq, uB, uE, uL, uA, uM, uS, uN, uX, uO, vR, vD, vL, vK, vE, vA, vM, vT, vS], by simp (maxSteps := 2000000) (implicitDefEqProofs := false) (disch := first | omega | (simp only [SD.down, uA, uL] <;> omega) | fail) only [t15, TA.down, TL.down, same_nilslice, resE, oneV, ↓reduceIte, reduceCtorEq, uB, uE, uL, uA, uM, uS, uN, uX, uO, vR, vD, vL, vK, vE, vA, vM, vT, vS], by simp (maxSteps := 2000000) (implicitDefEqProofs := false) (disch := first | omega | (simp only [SD.down, uA, uL] <;> omega) | fail) only [t16, TA.down, TL.down, same_nilslice, resE, oneV, ↓reduceIte, reduceCtorEq, uB, uE, uL, uA, uM, uS, uN, uX, uO, vR, vD, vL, vK, vE, vA, vM, vT, vS], by simp (maxSteps := 2000000) (implicitDefEqProofs := false) (disch := first | omega | (simp only [SD.down, uA, uL] <;> omega) | fail) only [TA.down, TL.down, same_nilslice, resE, oneV, ↓reduceIte, reduceCtorEq, uB, uE, uL, uA, uM, uS, uN, uX, uO, vR, vD, vL, vK, vE, vA, vM, vT, vS], I, F0, D0, F1, D1⟩
      · rintro j mm σ q7 ⟨q, C, bb, hq, t1, t9, t10, t11, t15, t16, t17, I, wb, hms, hoff, hst, hnl, hll, hla, hce, D0, D1, hnn7, hC, hf⟩ ih
        have hql : q < x2.length := by omega
        rcases h2 with ⟨e0, _⟩ | ⟨A, cap, ro, rfl, hA, gA⟩
        · rw [e0] at hql; simp at hql
        obtain ⟨x, hx⟩ : ∃ x, x2[q]? = some x := ⟨x2[q]'hql, List.getElem?_eq_getElem hql⟩
        have hxo := o2 x (List.mem_of_getElem? hx)
        have hcut := acts_cut o2 hx
        have gA' := (hf A hA).trans gA
        have xl := x.C_len hxo.1 hxo.2
        have b0 : (actsC x2)[q * 99]? = some (.int .i64 x.k) := flat_get Act.C 99 x2 q 0 x (fun x hx => x.C_len (o2 x hx).1 (o2 x hx).2) hx (by omega)
        have e7 := fun u => bin_and7 (P := Try.prog) (u := u) x.k
        rw [show (x.k % 8).toNat = x.r from rfl] at e7
        by_cases hr : x.r = 6
        · have hd : decide ((x.r : Int) = 6) = true := decide_eq_true (by omega)
          simp (maxSteps := 2000000) (implicitDefEqProofs := false) (disch := first | omega | (simp only [SD.down, uA, uL] <;> omega) | fail) only [run_it, t1, t9, t10, t11, t15, t16, t17, gA', hcut, xl, b0, e7, hd, lncA, lnoA, l2, env_P, env_L, TA.down, TL.down, same_nilslice, resE, oneV, ↓reduceIte, reduceCtorEq, uB, uE, uL, uA, uM, uS, uN, uX, uO, vR, vD, vL, vK, vE, vA, vM, vT, vS]
          refine ih _ _ ⟨q + 1, C, bb, by omega, by simp (maxSteps := 2000000) (implicitDefEqProofs := false) (disch := first | omega | (simp only [SD.down, uA, uL] <;> omega) | fail) only [t1, TA.down, TL.down, same_nilslice, resE, oneV, ↓reduceIte, reduceCtorEq, uB, uE, uL, uA, uM, uS, uN, uX, uO, vR, vD, vL, vK, vE, vA, vM, vT, vS], by simp (maxSteps := 2000000) (implicitDefEqProofs := false) (disch := first | omega | (simp only [SD.down, uA, uL] <;> omega) | fail) only [t9, TA.down, TL.down, same_nilslice, resE, oneV, ↓reduceIte, reduceCtorEq, uB, uE, uL, uA, uM, uS, uN, uX, uO, vR, vD, vL, vK, vE, vA, vM, vT, vS], by simp (maxSteps := 2000000) (implicitDefEqProofs := false) (disch := first | omega | (simp only [SD.down, uA, uL] <;> omega) | fail) only [t10, TA.down, TL.down, same_nilslice, resE, oneV, ↓reduceIte, reduceCtorEq, uB, uE, uL, uA, uM, uS, uN, uX, uO, vR, vD, vL, vK, vE, vA, vM, vT, vS], by simp (maxSteps := 2000000) (implicitDefEqProofs := false) (disch := first | omega | (simp only [SD.down, uA, uL] <;> omega) | fail) only [t11, TA.down, TL.down, same_nilslice, resE, oneV, ↓reduceIte, reduceCtorEq, uB, uE, uL, uA, uM, uS, uN, uX, uO, vR, vD, vL, vK, vE, vA, vM, vT, vS], by simp (maxSteps := 2000000) (implicitDefEqProofs := false) (disch := first | omega | (simp only [SD.down, uA, uL] <;> omega) | fail) only [t15, TA.down, TL.down, same_nilslice, resE, oneV, ↓reduceIte, reduceCtorEq, uB, uE, uL, uA, uM, uS, uN, uX, uO, vR, vD, vL, vK, vE, vA, vM, vT, vS], by simp (maxSteps := 2000000) (implicitDefEqProofs := false) (disch := first | omega | (simp only [SD.down, uA, uL] <;> omega) | fail) only [t16, TA.down, TL.down, same_nilslice, resE, oneV, ↓reduceIte, reduceCtorEq, uB, uE, uL, uA, uM, uS, uN, uX, uO, vR, vD, vL, vK, vE, vA, vM, vT, vS], by simp (maxSteps := 2000000) (implicitDefEqProofs := false) (disch := first | omega | (simp only [SD.down, uA, uL] <;> omega) | fail) only [TA.down, TL.down, same_nilslice, resE, oneV, ↓reduceIte, reduceCtorEq, uB, uE, uL, uA, uM, uS, uN, uX, uO, vR, vD, vL, vK, vE, vA, vM, vT, vS], I, wb, hms, hoff, hst, hnl, by omega, hla, hce, D0, D1, hnn7, hC, hf⟩
        · have hd : decide ((x.r : Int) = 6) = false := decide_eq_false (by omega)
          simp (maxSteps := 2000000) (implicitDefEqProofs := false) (disch := first | omega | (simp only [SD.down, uA, uL] <;> omega) | fail) only [run_it, t1, t9, t10, t11, t15, t16, t17, gA', hcut, xl, b0, e7, hd, lncA, lnoA, l2, env_P, env_L, TA.down, TL.down, same_nilslice, resE, oneV, ↓reduceIte, reduceCtorEq, uB, uE, uL, uA, uM, uS, uN, uX, uO, vR, vD, vL, vK, vE, vA, vM, vT, vS]
          have hlgB : bb.lgB 0 := fun S hS' => by
            rw [hms] at hS'
            simp only [List.mem_cons, List.not_mem_nil, or_false] at hS'
            rcases hS' with rfl | rfl
            · rw [m0.1]; exact Nat.le_refl _
            · rw [m1.1]; exact Nat.le_refl _
          obtain ⟨t, htl, eO⟩ := over_off (quiet fun s hs => by
            rw [hst] at hs
            simp only [List.mem_cons, List.not_mem_nil, or_false] at hs
            subst hs
            show (n : Int) ≠ _
            omega) hoff x hxo.1 hxo.2 hr
          first | refine G.call (over_ok d q7 C 100 β cp [a, b] bb x hxo.1 hxo.2 (by omega) I wb hlgB (by omega) (by rw [hla]; omega) (by rw [hce]; omega) (stq d bb hst) (stq (d + 1) bb hst)) ?_ | refine G.callC (over_ok d q7 C 100 β cp [a, b] bb x hxo.1 hxo.2 (by omega) I wb hlgB (by omega) (by rw [hla]; omega) (by rw [hce]; omega) (stq d bb hst) (stq (d + 1) bb hst)) ?_ | refine G.callL (over_ok d q7 C 100 β cp [a, b] bb x hxo.1 hxo.2 (by omega) I wb hlgB (by omega) (by rw [hla]; omega) (by rw [hce]; omega) (stq d bb hst) (stq (d + 1) bb hst)) ?_
          rintro v q8 ⟨C2, rfl, I2, fr, hC2⟩
          rw [eO] at I2 ⊢
          have hle2 := fr.le
          simp (maxSteps := 2000000) (implicitDefEqProofs := false) (disch := first | omega | (simp only [SD.down, uA, uL] <;> omega) | fail) only [t1, t9, t10, t11, t15, t16, t17, env_P, env_L, TA.down, TL.down, same_nilslice, resE, oneV, ↓reduceIte, reduceCtorEq, uB, uE, uL, uA, uM, uS, uN, uX, uO, vR, vD, vL, vK, vE, vA, vM, vT, vS]
          refine ih _ _ ⟨q + 1, C2, { bb with log := bb.log ++ [t] }, by omega, by simp (maxSteps := 2000000) (implicitDefEqProofs := false) (disch := first | omega | (simp only [SD.down, uA, uL] <;> omega) | fail) only [t1, TA.down, TL.down, same_nilslice, resE, oneV, ↓reduceIte, reduceCtorEq, uB, uE, uL, uA, uM, uS, uN, uX, uO, vR, vD, vL, vK, vE, vA, vM, vT, vS], by simp (maxSteps := 2000000) (implicitDefEqProofs := false) (disch := first | omega | (simp only [SD.down, uA, uL] <;> omega) | fail) only [t9, TA.down, TL.down, same_nilslice, resE, oneV, ↓reduceIte, reduceCtorEq, uB, uE, uL, uA, uM, uS, uN, uX, uO, vR, vD, vL, vK, vE, vA, vM, vT, vS], by simp (maxSteps := 2000000) (implicitDefEqProofs := false) (disch := first | omega | (simp only [SD.down, uA, uL] <;> omega) | fail) only [t10, TA.down, TL.down, same_nilslice, resE, oneV, ↓reduceIte, reduceCtorEq, uB, uE, uL, uA, uM, uS, uN, uX, uO, vR, vD, vL, vK, vE, vA, vM, vT, vS], by simp (maxSteps := 2000000) (implicitDefEqProofs := false) (disch := first | omega | (simp only [SD.down, uA, uL] <;> omega) | fail) only [t11, TA.down, TL.down, same_nilslice, resE, oneV, ↓reduceIte, reduceCtorEq, uB, uE, uL, uA, uM, uS, uN, uX, uO, vR, vD, vL, vK, vE, vA, vM, vT, vS], by simp (maxSteps := 2000000) (implicitDefEqProofs := false) (disch := first | omega | (simp only [SD.down, uA, uL] <;> omega) | fail) only [t15, TA.down, TL.down, same_nilslice, resE, oneV, ↓reduceIte, reduceCtorEq, uB, uE, uL, uA, uM, uS, uN, uX, uO, vR, vD, vL, vK, vE, vA, vM, vT, vS], by simp (maxSteps := 2000000) (implicitDefEqProofs := false) (disch := first | omega | (simp only [SD.down, uA, uL] <;> omega) | fail) only [t16, TA.down, TL.down, same_nilslice, resE, oneV, ↓reduceIte, reduceCtorEq, uB, uE, uL, uA, uM, uS, uN, uX, uO, vR, vD, vL, vK, vE, vA, vM, vT, vS], by simp (maxSteps := 2000000) (implicitDefEqProofs := false) (disch := first | omega | (simp only [SD.down, uA, uL] <;> omega) | fail) only [TA.down, TL.down, same_nilslice, resE, oneV, ↓reduceIte, reduceCtorEq, uB, uE, uL, uA, uM, uS, uN, uX, uO, vR, vD, vL, vK, vE, vA, vM, vT, vS], I2, log_wf wb t htl (by omega), hms, hoff, hst, by simp; omega, by simp; omega, hla, hce, D0.fr fr (by unfold busK; omega) (fun j hj hc => (hC2 j hj).trans hc), D1.fr fr (by unfold busK; omega) (fun j hj hc => (hC2 j hj).trans hc), by omega, fun j hj => (hC2 j (by omega)).trans (hC j hj), fun j hj => (fr.get j (by omega) (by rw [hC j hj]; unfold busK; omega)).trans (hf j hj)⟩
      · exact ⟨0, C6, b1, by omega, by simp (maxSteps := 2000000) (implicitDefEqProofs := false) (disch := first | omega | (simp only [SD.down, uA, uL] <;> omega) | fail) only [t1, TA.down, TL.down, same_nilslice, resE, oneV, ↓reduceIte, reduceCtorEq, uB, uE, uL, uA, uM, uS, uN, uX, uO, vR, vD, vL, vK, vE, vA, vM, vT, vS], by simp (maxSteps := 2000000) (implicitDefEqProofs := false) (disch := first | omega | (simp only [SD.down, uA, uL] <;> omega) | fail) only [t9, TA.down, TL.down, same_nilslice, resE, oneV, ↓reduceIte, reduceCtorEq, uB, uE, uL, uA, uM, uS, uN, uX, uO, vR, vD, vL, vK, vE, vA, vM, vT, vS], by simp (maxSteps := 2000000) (implicitDefEqProofs := false) (disch := first | omega | (simp only [SD.down, uA, uL] <;> omega) | fail) only [t10, TA.down, TL.down, same_nilslice, resE, oneV, ↓reduceIte, reduceCtorEq, uB, uE, uL, uA, uM, uS, uN, uX, uO, vR, vD, vL, vK, vE, vA, vM, vT, vS], by simp (maxSteps := 2000000) (implicitDefEqProofs := false) (disch := first | omega | (simp only [SD.down, uA, uL] <;> omega) | fail) only [t11, TA.down, TL.down, same_nilslice, resE, oneV, ↓reduceIte, reduceCtorEq, uB, uE, uL, uA, uM, uS, uN, uX, uO, vR, vD, vL, vK, vE, vA, vM, vT, vS], by simp (maxSteps := 2000000) (implicitDefEqProofs := false) (disch := first | omega | (simp only [SD.down, uA, uL] <;> omega) | fail) only [TA.down, TL.down, same_nilslice, resE, oneV, ↓reduceIte, reduceCtorEq, uB, uE, uL, uA, uM, uS, uN, uX, uO, vR, vD, vL, vK, vE, vA, vM, vT, vS], by simp (maxSteps := 2000000) (implicitDefEqProofs := false) (disch := first | omega | (simp only [SD.down, uA, uL] <;> omega) | fail) only [TA.down, TL.down, same_nilslice, resE, oneV, ↓reduceIte, reduceCtorEq, uB, uE, uL, uA, uM, uS, uN, uX, uO, vR, vD, vL, vK, vE, vA, vM, vT, vS], by simp (maxSteps := 2000000) (implicitDefEqProofs := false) (disch := first | omega | (simp only [SD.down, uA, uL] <;> omega) | fail) only [TA.down, TL.down, same_nilslice, resE, oneV, ↓reduceIte, reduceCtorEq, uB, uE, uL, uA, uM, uS, uN, uX, uO, vR, vD, vL, vK, vE, vA, vM, vT, vS], I6, wb1, hS, hoff1, hst1, by omega, by omega, rfl, rfl, B0', B1, by omega, hC6, hf6⟩
    · rintro j mm σ q2 ⟨q, C, bb, hq, t0, t1, t9, t10, t11, t12, I, O, ho, hlg, hnn, hC, hf⟩ ih
      have hql : q < x1.length := by omega
      rcases h1 with ⟨e0, _⟩ | ⟨A, cap, ro, rfl, hA, gA⟩
      · rw [e0] at hql; simp at hql
      obtain ⟨x, hx⟩ : ∃ x, x1[q]? = some x := ⟨x1[q]'hql, List.getElem?_eq_getElem hql⟩
      have hxo := o1 x (List.mem_of_getElem? hx)
      have hcut := acts_cut o1 hx
      have gA' := (hf A hA).trans gA
      have xl := x.C_len hxo.1 hxo.2
      have ht : ios (x1.take (q + 1)) = ios (x1.take q) + (if x.r = 6 then 0 else 1) := by rw [List.take_add_one, hx]; exact ios_snoc _ _
      have hle := ios_le x1 (q + 1)
      simp (maxSteps := 2000000) (implicitDefEqProofs := false) (disch := first | omega | (simp only [SD.down, uA, uL] <;> omega) | fail) only [run_it, t0, t1, t9, t10, t11, t12, gA', hcut, xl, lncA, lnoA, l1, env_P, env_L, TA.down, TL.down, same_nilslice, resE, oneV, ↓reduceIte, reduceCtorEq, uB, uE, uL, uA, uM, uS, uN, uX, uO, vR, vD, vL, vK, vE, vA, vM, vT, vS]
      have Ol := O.last
      have Oc := O.cl
      first | refine G.call (over_ok d q2 C 100 β cp [a, b] bb x hxo.1 hxo.2 (by omega) I O.w O.lg (by omega) (by omega) (by omega) (stq d bb O.st) (stq (d + 1) bb O.st)) ?_ | refine G.callC (over_ok d q2 C 100 β cp [a, b] bb x hxo.1 hxo.2 (by omega) I O.w O.lg (by omega) (by omega) (by omega) (stq d bb O.st) (stq (d + 1) bb O.st)) ?_ | refine G.callL (over_ok d q2 C 100 β cp [a, b] bb x hxo.1 hxo.2 (by omega) I O.w O.lg (by omega) (by omega) (by omega) (stq d bb O.st) (stq (d + 1) bb O.st)) ?_
      rintro v q3 ⟨C2, rfl, I2, fr, hC2⟩
      have hle2 := fr.le
      have nxt : OI [crashS n x3] (overR bb x).2 ∧ (overR bb x).2.log.length = bb.log.length + (if x.r = 6 then 0 else 1) ∧ (overR bb x).2.off = false := by
        by_cases hr : x.r = 6
        · have e : overR bb x = (0, bb) := by unfold overR; rw [hr]; rfl
          rw [e, if_pos hr]
          exact ⟨O, rfl, ho⟩
        · rw [if_neg hr] at ht
          exact O.over (quiet fun s hs => by
            rw [O.st] at hs
            simp only [List.mem_cons, List.not_mem_nil, or_false] at hs
            subst hs
            show (n : Int) ≠ _
            omega) ho (by omega) x hxo.1 hxo.2
      obtain ⟨O2, lg2, ho2⟩ := nxt
      simp (maxSteps := 2000000) (implicitDefEqProofs := false) (disch := first | omega | (simp only [SD.down, uA, uL] <;> omega) | fail) only [t0, t1, t9, t10, t11, t12, env_P, env_L, TA.down, TL.down, same_nilslice, resE, oneV, ↓reduceIte, reduceCtorEq, uB, uE, uL, uA, uM, uS, uN, uX, uO, vR, vD, vL, vK, vE, vA, vM, vT, vS]
      refine ih _ _ ⟨q + 1, C2, (overR bb x).2, by omega, by simp (maxSteps := 2000000) (implicitDefEqProofs := false) (disch := first | omega | (simp only [SD.down, uA, uL] <;> omega) | fail) only [t0, TA.down, TL.down, same_nilslice, resE, oneV, ↓reduceIte, reduceCtorEq, uB, uE, uL, uA, uM, uS, uN, uX, uO, vR, vD, vL, vK, vE, vA, vM, vT, vS], by simp (maxSteps := 2000000) (implicitDefEqProofs := false) (disch := first | omega | (simp only [SD.down, uA, uL] <;> omega) | fail) only [t1, TA.down, TL.down, same_nilslice, resE, oneV, ↓reduceIte, reduceCtorEq, uB, uE, uL, uA, uM, uS, uN, uX, uO, vR, vD, vL, vK, vE, vA, vM, vT, vS], by simp (maxSteps := 2000000) (implicitDefEqProofs := false) (disch := first | omega | (simp only [SD.down, uA, uL] <;> omega) | fail) only [t9, TA.down, TL.down, same_nilslice, resE, oneV, ↓reduceIte, reduceCtorEq, uB, uE, uL, uA, uM, uS, uN, uX, uO, vR, vD, vL, vK, vE, vA, vM, vT, vS], by simp (maxSteps := 2000000) (implicitDefEqProofs := false) (disch := first | omega | (simp only [SD.down, uA, uL] <;> omega) | fail) only [t10, TA.down, TL.down, same_nilslice, resE, oneV, ↓reduceIte, reduceCtorEq, uB, uE, uL, uA, uM, uS, uN, uX, uO, vR, vD, vL, vK, vE, vA, vM, vT, vS], by simp (maxSteps := 2000000) (implicitDefEqProofs := false) (disch := first | omega | (simp only [SD.down, uA, uL] <;> omega) | fail) only [t11, TA.down, TL.down, same_nilslice, resE, oneV, ↓reduceIte, reduceCtorEq, uB, uE, uL, uA, uM, uS, uN, uX, uO, vR, vD, vL, vK, vE, vA, vM, vT, vS], by simp (maxSteps := 2000000) (implicitDefEqProofs := false) (disch := first | omega | (simp only [SD.down, uA, uL] <;> omega) | fail) only [TA.down, TL.down, same_nilslice, resE, oneV, ↓reduceIte, reduceCtorEq, uB, uE, uL, uA, uM, uS, uN, uX, uO, vR, vD, vL, vK, vE, vA, vM, vT, vS], I2, O2, ho2, by omega, by omega, fun j hj => (hC2 j (by omega)).trans (hC j hj), fun j hj => (fr.get j (by omega) (by rw [hC j hj]; unfold busK; omega)).trans (hf j hj)⟩
    · exact ⟨0, C1, BS.two [crashS n x3], by omega, by simp (maxSteps := 2000000) (implicitDefEqProofs := false) (disch := first | omega | (simp only [SD.down, uA, uL] <;> omega) | fail) only [s0, TA.down, TL.down, same_nilslice, resE, oneV, ↓reduceIte, reduceCtorEq, uB, uE, uL, uA, uM, uS, uN, uX, uO, vR, vD, vL, vK, vE, vA, vM, vT, vS], by simp (maxSteps := 2000000) (implicitDefEqProofs := false) (disch := first | omega | (simp only [SD.down, uA, uL] <;> omega) | fail) only [s1, TA.down, TL.down, same_nilslice, resE, oneV, ↓reduceIte, reduceCtorEq, uB, uE, uL, uA, uM, uS, uN, uX, uO, vR, vD, vL, vK, vE, vA, vM, vT, vS], by simp (maxSteps := 2000000) (implicitDefEqProofs := false) (disch := first | omega | (simp only [SD.down, uA, uL] <;> omega) | fail) only [TA.down, TL.down, same_nilslice, resE, oneV, ↓reduceIte, reduceCtorEq, uB, uE, uL, uA, uM, uS, uN, uX, uO, vR, vD, vL, vK, vE, vA, vM, vT, vS], by simp (maxSteps := 2000000) (implicitDefEqProofs := false) (disch := first | omega | (simp only [SD.down, uA, uL] <;> omega) | fail) only [TA.down, TL.down, same_nilslice, resE, oneV, ↓reduceIte, reduceCtorEq, uB, uE, uL, uA, uM, uS, uN, uX, uO, vR, vD, vL, vK, vE, vA, vM, vT, vS], by simp (maxSteps := 2000000) (implicitDefEqProofs := false) (disch := first | omega | (simp only [SD.down, uA, uL] <;> omega) | fail) only [TA.down, TL.down, same_nilslice, resE, oneV, ↓reduceIte, reduceCtorEq, uB, uE, uL, uA, uM, uS, uN, uX, uO, vR, vD, vL, vK, vE, vA, vM, vT, vS], by simp (maxSteps := 2000000) (implicitDefEqProofs := false) (disch := first | omega | (simp only [SD.down, uA, uL] <;> omega) | fail) only [TA.down, TL.down, same_nilslice, resE, oneV, ↓reduceIte, reduceCtorEq, uB, uE, uL, uA, uM, uS, uN, uX, uO, vR, vD, vL, vK, vE, vA, vM, vT, vS], I1, O1, rfl, rfl, hn1, hC1', hf1⟩
  · rintro j mm σ hh ⟨q, hq, rfl, s0, s1, s2, s7, s8⟩ ih
    have hql : q < x1.length := by omega
    have h1' := h1
    rcases h1 with ⟨e0, _⟩ | ⟨A, cap, ro, rfl, hA, gA⟩
    · rw [e0] at hql; simp at hql
    obtain ⟨x, hx⟩ : ∃ x, x1[q]? = some x := ⟨x1[q]'hql, List.getElem?_eq_getElem hql⟩
    have b0 : (actsC x1)[q * 99]? = some (.int .i64 x.k) := flat_get Act.C 99 x1 q 0 x (fun x hx => x.C_len (o1 x hx).1 (o1 x hx).2) hx (by omega)
    have e7 := fun u => bin_and7 (P := Try.prog) (u := u) x.k
    rw [show (x.k % 8).toNat = x.r from rfl] at e7
    have ht : ios (x1.take (q + 1)) = ios (x1.take q) + (if x.r = 6 then 0 else 1) := by rw [List.take_add_one, hx]; exact ios_snoc _ _
    have hil := ios_len (x1.take q)
    rw [List.length_take] at hil
    by_cases hr : x.r = 6
    · have hd : decide ((x.r : Int) = 6) = true := decide_eq_true (by omega)
      rw [if_pos hr, Nat.add_zero] at ht
      simp (maxSteps := 2000000) (implicitDefEqProofs := false) (disch := first | omega | (simp only [SD.down, uA, uL] <;> omega) | fail) only [run_it, s0, s1, s2, s7, s8, lncA, lnoA, l1, gA, b0, e7, hd, env_P, env_L, TA.down, TL.down, same_nilslice, resE, oneV, ↓reduceIte, reduceCtorEq, uB, uE, uL, uA, uM, uS, uN, uX, uO, vR, vD, vL, vK, vE, vA, vM, vT, vS]
      refine ih _ _ ⟨q + 1, by omega, rfl, by simp (maxSteps := 2000000) (implicitDefEqProofs := false) (disch := first | omega | (simp only [SD.down, uA, uL] <;> omega) | fail) only [s0, TA.down, TL.down, same_nilslice, resE, oneV, ↓reduceIte, reduceCtorEq, uB, uE, uL, uA, uM, uS, uN, uX, uO, vR, vD, vL, vK, vE, vA, vM, vT, vS], by simp (maxSteps := 2000000) (implicitDefEqProofs := false) (disch := first | omega | (simp only [SD.down, uA, uL] <;> omega) | fail) only [s1, TA.down, TL.down, same_nilslice, resE, oneV, ↓reduceIte, reduceCtorEq, uB, uE, uL, uA, uM, uS, uN, uX, uO, vR, vD, vL, vK, vE, vA, vM, vT, vS], by simp (maxSteps := 2000000) (implicitDefEqProofs := false) (disch := first | omega | (simp only [SD.down, uA, uL] <;> omega) | fail) only [s2, TA.down, TL.down, same_nilslice, resE, oneV, ↓reduceIte, reduceCtorEq, uB, uE, uL, uA, uM, uS, uN, uX, uO, vR, vD, vL, vK, vE, vA, vM, vT, vS], by rw [ht]; simp (maxSteps := 2000000) (implicitDefEqProofs := false) (disch := first | omega | (simp only [SD.down, uA, uL] <;> omega) | fail) only [s7, TA.down, TL.down, same_nilslice, resE, oneV, ↓reduceIte, reduceCtorEq, uB, uE, uL, uA, uM, uS, uN, uX, uO, vR, vD, vL, vK, vE, vA, vM, vT, vS], by simp (maxSteps := 2000000) (implicitDefEqProofs := false) (disch := first | omega | (simp only [SD.down, uA, uL] <;> omega) | fail) only [TA.down, TL.down, same_nilslice, resE, oneV, ↓reduceIte, reduceCtorEq, uB, uE, uL, uA, uM, uS, uN, uX, uO, vR, vD, vL, vK, vE, vA, vM, vT, vS]⟩
    · have hd : decide ((x.r : Int) = 6) = false := decide_eq_false (by omega)
      rw [if_neg hr] at ht
      simp (maxSteps := 2000000) (implicitDefEqProofs := false) (disch := first | omega | (simp only [SD.down, uA, uL] <;> omega) | fail) only [run_it, s0, s1, s2, s7, s8, lncA, lnoA, l1, gA, b0, e7, hd, env_P, env_L, TA.down, TL.down, same_nilslice, resE, oneV, ↓reduceIte, reduceCtorEq, uB, uE, uL, uA, uM, uS, uN, uX, uO, vR, vD, vL, vK, vE, vA, vM, vT, vS]
      refine ih _ _ ⟨q + 1, by omega, rfl, by simp (maxSteps := 2000000) (implicitDefEqProofs := false) (disch := first | omega | (simp only [SD.down, uA, uL] <;> omega) | fail) only [s0, TA.down, TL.down, same_nilslice, resE, oneV, ↓reduceIte, reduceCtorEq, uB, uE, uL, uA, uM, uS, uN, uX, uO, vR, vD, vL, vK, vE, vA, vM, vT, vS], by simp (maxSteps := 2000000) (implicitDefEqProofs := false) (disch := first | omega | (simp only [SD.down, uA, uL] <;> omega) | fail) only [s1, TA.down, TL.down, same_nilslice, resE, oneV, ↓reduceIte, reduceCtorEq, uB, uE, uL, uA, uM, uS, uN, uX, uO, vR, vD, vL, vK, vE, vA, vM, vT, vS], by simp (maxSteps := 2000000) (implicitDefEqProofs := false) (disch := first | omega | (simp only [SD.down, uA, uL] <;> omega) | fail) only [s2, TA.down, TL.down, same_nilslice, resE, oneV, ↓reduceIte, reduceCtorEq, uB, uE, uL, uA, uM, uS, uN, uX, uO, vR, vD, vL, vK, vE, vA, vM, vT, vS], by rw [ht]; simp (maxSteps := 2000000) (implicitDefEqProofs := false) (disch := first | omega | (simp only [SD.down, uA, uL] <;> omega) | fail) only [s7, TA.down, TL.down, same_nilslice, resE, oneV, ↓reduceIte, reduceCtorEq, uB, uE, uL, uA, uM, uS, uN, uX, uO, vR, vD, vL, vK, vE, vA, vM, vT, vS], by simp (maxSteps := 2000000) (implicitDefEqProofs := false) (disch := first | omega | (simp only [SD.down, uA, uL] <;> omega) | fail) only [TA.down, TL.down, same_nilslice, resE, oneV, ↓reduceIte, reduceCtorEq, uB, uE, uL, uA, uM, uS, uN, uX, uO, vR, vD, vL, vK, vE, vA, vM, vT, vS]⟩
  · exact ⟨0, by omega, rfl, by simp (maxSteps := 2000000) (implicitDefEqProofs := false) (disch := first | omega | (simp only [SD.down, uA, uL] <;> omega) | fail) only [TA.down, TL.down, same_nilslice, resE, oneV, ↓reduceIte, reduceCtorEq, uB, uE, uL, uA, uM, uS, uN, uX, uO, vR, vD, vL, vK, vE, vA, vM, vT, vS], by simp (maxSteps := 2000000) (implicitDefEqProofs := false) (disch := first | omega | (simp only [SD.down, uA, uL] <;> omega) | fail) only [TA.down, TL.down, same_nilslice, resE, oneV, ↓reduceIte, reduceCtorEq, uB, uE, uL, uA, uM, uS, uN, uX, uO, vR, vD, vL, vK, vE, vA, vM, vT, vS], by simp (maxSteps := 2000000) (implicitDefEqProofs := false) (disch := first | omega | (simp only [SD.down, uA, uL] <;> omega) | fail) only [TA.down, TL.down, same_nilslice, resE, oneV, ↓reduceIte, reduceCtorEq, uB, uE, uL, uA, uM, uS, uN, uX, uO, vR, vD, vL, vK, vE, vA, vM, vT, vS], by simp (maxSteps := 2000000) (implicitDefEqProofs := false) (disch := first | omega | (simp only [SD.down, uA, uL] <;> omega) | fail) only [TA.down, TL.down, same_nilslice, resE, oneV, ↓reduceIte, reduceCtorEq, uB, uE, uL, uA, uM, uS, uN, uX, uO, vR, vD, vL, vK, vE, vA, vM, vT, vS]; rfl, by simp (maxSteps := 2000000) (implicitDefEqProofs := false) (disch := first | omega | (simp only [SD.down, uA, uL] <;> omega) | fail) only [TA.down, TL.down, same_nilslice, resE, oneV, ↓reduceIte, reduceCtorEq, uB, uE, uL, uA, uM, uS, uN, uX, uO, vR, vD, vL, vK, vE, vA, vM, vT, vS]⟩
end Go.Proofs.Ytfjcfjfgamajkaa
