/- Of this program, for all inputs: contracts. No condition but those in the theorems. -/
import Derived.Test.YtfjcfjfgamajkaaZZ3
namespace Go.Proofs.Ytfjcfjfgamajkaa
open Go Go.Ai Go.Aw Go.Proofs
open Nat renaming reduceBEq -> uB,reduceEqDiff -> uE,reduceLT -> uL,reduceAdd -> uA,reduceMul -> uM,reduceSub -> uS,reduceAnd -> uN,reduceXor -> uX,reduceOr -> uO
open Int renaming reduceMod -> vR,reduceDiv -> vD,reduceLT -> vL,reduceLE -> vK,reduceEq -> vE,reduceAdd -> vA,reduceMul -> vM,reduceToNat -> vT,reduceSub -> vS
set_option linter.unusedSimpArgs false
set_option linter.unusedVariables false
set_option maxRecDepth 10000
def allK (kb kr n : Nat) : Prop := busK kb n \/ refK kr n
def cntL (n : Nat) (l : List Stp) : Nat := (l.filter fun s => decide (s.tm < (n : Int))).length
theorem cntL_succ (n : Nat) : ∀ l : List Stp,cntL (n + 1) l = cntL n l + cntS n l
 | [] => rfl
 | s :: l => by
  have ih := cntL_succ n l
  unfold cntL cntS at ih ⊢
  by_cases h1 : s.tm < (n : Int)
  ·rw [List.filter_cons_of_pos (by simp; omega),List.filter_cons_of_pos (by simp; omega),List.filter_cons_of_neg (by simp; omega)]
   simp only [List.length_cons]
   omega
  ·by_cases h2 : s.tm = (n : Int)
   ·rw [List.filter_cons_of_pos (by simp; omega),List.filter_cons_of_neg (by simp; omega),List.filter_cons_of_pos (by simp; omega)]
    simp only [List.length_cons]
    omega
   ·rw [List.filter_cons_of_neg (by simp; omega),List.filter_cons_of_neg (by simp; omega),List.filter_cons_of_neg (by simp; omega)]
    exact ih
theorem cntL_le (n : Nat) (l : List Stp) : cntL n l <= l.length := List.length_filter_le ..
structure Two (h : Heap) (c : Col) (kb β cp : Nat) (ps : List Nat) (b : BS) (kr ρ : Nat) (qs : List Nat) (r : RB) : Prop where
 I : BusI h c kb β cp ps b
 J : RefB h c kr ρ qs r
 R : BR b r
 w : b.wf
 wr : r.wf (r.log.length + cntL r.log.length r.steps)
 cl : b.cell.length <= b.log.length + 1
 pk : ∀ s ∈ r.steps,s.picks.length <= 140737488351232
 n60 : r.steps.length <= 60
theorem two_fin {kb kr : Nat} {h H h3 HY h5 HF : Heap} {c c0 C3 C4 C5 : Col} (kp : Keeps h H) (e0 : ∀ j,j < h.next -> c0 j = c j) (fr3 : Fr (busK kb) c0 H h3) (hC3 : ∀ j,j < H.next -> C3 j = c0 j) (kY : Keeps h3 HY) (e4 : ∀ j,j < h3.next -> C4 j = C3 j) (fr5 : Fr (refK kr) C4 HY h5) (hC5 : ∀ j,j < HY.next -> C5 j = C4 j) (kF : Keeps h5 HF) : Fr (allK kb kr) c h HF /\ ∀ j,j < h.next -> pnt C5 h5.next 0 j = c j := by
 have n1 := kp.1
 have n2 := fr3.le
 have n3 := kY.1
 have n4 := fr5.le
 have n5 := kF.1
 have ee : ∀ j,j < h.next -> C4 j = c j := fun j hj => (e4 j (by omega)).trans ((hC3 j (by omega)).trans (e0 j hj))
 refine ⟨⟨by omega,fun j hj hq => ?_⟩,fun j hj => (pnt_lt (by omega)).trans ((hC5 j (by omega)).trans (ee j hj))⟩
 rw [kF.2 j (by omega),fr5.get j (by omega) (by rw [ee j hj]; exact fun q => hq (.inr q)),kY.2 j (by omega),fr3.get j (by omega) (by rw [e0 j hj]; exact fun q => hq (.inl q)),kp.2 j hj]
theorem Two.lgB {h : Heap} {c : Col} {kb β cp : Nat} {ps : List Nat} {b : BS} {kr ρ : Nat} {qs : List Nat} {r : RB} (T : Two h c kb β cp ps b kr ρ qs r) : b.lgB 3000 := fun S hS => by
 obtain ⟨i,hi⟩ := List.mem_iff_getElem?.1 hS
 obtain ⟨R,hR⟩ : ∃ R,r.ms[i]? = some R := ⟨_,List.getElem?_eq_getElem (by rw [<- T.R.ml]; exact (List.getElem?_eq_some_iff.1 hi).1)⟩
 have := (T.wr.ms R (List.mem_of_getElem? hR)).sz
 have := T.wr.N
 rw [(T.R.ms i S R hi hR).lg]
 omega
theorem busK0 {kb : Nat} (h : 10 <= kb) : ¬ busK kb 0 := fun x => by unfold busK at x; omega
theorem bus_ref {kb kr : Nat} (h : 10 <= kb) (h2 : kb + 100 <= kr) : ∀ n,refK kr n -> ¬ busK kb n := fun n x y => by unfold refK at x; unfold busK at y; omega
theorem Two.go {h5 HF : Heap} {C5 : Col} {kb β cp : Nat} {ps : List Nat} {b b' : BS} {kr ρ : Nat} {qs : List Nat} {r r' : RB} {u : Ent} {h : Heap} {c : Col} (T : Two h c kb β cp ps b kr ρ qs r) (kF : Keeps h5 HF) (I : BusI h5 C5 kb β cp ps b') (J : RefB h5 C5 kr ρ qs r') (R : BR b' r') (w : b'.wf) (wr : r'.wf (r.log.length + cntL r.log.length r.steps + cntS r.log.length r.steps + 1)) (cl : b'.cell.length <= b.cell.length + 1) (hl : r'.log = r.log ++ [u]) (hs : r'.steps = r.steps) : Two HF (pnt C5 h5.next 0) kb β cp ps b' kr ρ qs r' := by
 have hll : r'.log.length = r.log.length + 1 := by rw [hl]; simp
 have e1 := T.R.ll
 have e2 := R.ll
 have e3 := T.cl
 refine ⟨I.keeps w.msl kF pnt_o,J.fr (K := fun _ => False) wr.msl (.of kF) id (fun _ _ => id) pnt_o,R,w, ?_,by omega,by rw [hs]; exact T.pk,by rw [hs]; exact T.n60⟩
 rw [hll,hs,cntL_succ]
 have : r.log.length + 1 + (cntL r.log.length r.steps + cntS r.log.length r.steps) = r.log.length + cntL r.log.length r.steps + cntS r.log.length r.steps + 1 := by omega
 rw [this]
 exact wr
theorem RefB.putOff {h : Heap} {c : Col} {kr ρ : Nat} {ps : List Nat} {b : RB} {A X stv lgv : AV} {off : Bool} (hr : 10 <= kr) (I : RefB h c kr ρ ps b) (g : h.get ρ = some (.cells [A,X,stv, .bool off,lgv] 0 false)) : RefB (h.put ρ (some (.cells [A,X,stv, .bool false,lgv] 0 false))) c kr ρ ps { b with off := false } /\ Fr (· = kr) c h (h.put ρ (some (.cells [A,X,stv, .bool false,lgv] 0 false))) := by
 obtain ⟨Ms,cx,stv,lgv,l1,c1,l2,c2,g1,g2,pl,mm,ce,st,lg⟩ := I
 rw [g] at g1
 cases g1
 have fr1 : Fr (· = kr) c h (h.put ρ (some (.cells [.eslice Ms 0 0 b.ms.length, .ptr cx 0,stv, .bool false,lgv] 0 false))) := ⟨by simp (disch := omega) only [TH.down,uA,uB]; omega,fun j hj hq => by
  have : j ≠ ρ := fun e => hq (by rw [e,c1])
  simp (disch := omega) only [TH.down,uA,uB]⟩
 refine ⟨⟨Ms,cx,stv,lgv,by simp (disch := omega) only [TH.down,uA,uB]; omega,c1,by simp (disch := omega) only [TH.down,uA,uB]; omega,c2,by simp (disch := omega) only [TH.down,uA,uB],(fr1.get Ms l2 (by omega)).trans g2,pl,fun q p R hp hR => (mm q p R hp hR).fr fr1 (by omega) (by omega) fun _ _ => rfl,ce.fr fr1 (by omega) fun _ _ => rfl,st.fr fr1 (by omega) fun _ _ => rfl, ?_⟩,fr1⟩
 rcases lg with y | ⟨L,y0,rfl,y1,y2,y3⟩
 ·exact .inl y
 ·refine .inr ⟨L,y0,rfl,by simp (disch := omega) only [TH.down,uA,uB]; omega,y2, ?_⟩
  have : L ≠ ρ := by
   rintro rfl
   rw [g] at y3
   have := congrArg (fun z => match z with | some (Blk.cells _ e _) => e | _ => 0) y3
   simp at this
  simp (disch := omega) only [TH.down,uA,uB]
  exact y3
theorem Two.power {h h3 HF : Heap} {c c' : Col} {kb β cp : Nat} {ps : List Nat} {b : BS} {kr ρ : Nat} {qs : List Nat} {r : RB} (T : Two h c kb β cp ps b kr ρ qs r) (I : BusI HF c' kb β cp ps { b with off := false }) (J : RefB HF c' kr ρ qs { r with off := false }) : Two HF c' kb β cp ps { b with off := false } kr ρ qs { r with off := false } :=
 ⟨I,J,T.R.power,⟨T.w.ms,T.w.msl,T.w.ms0,T.w.cell,T.w.celll,T.w.cell0,T.w.stl,T.w.st,T.w.logl,T.w.log⟩,⟨T.wr.ms,T.wr.msl,T.wr.N,T.wr.cell,T.wr.cellm,T.wr.stl,T.wr.st,T.wr.logl,T.wr.log⟩,T.cl,T.pk,T.n60⟩
theorem RB.io_log {r : RB} (t : Ent) (act : RB -> Int × List Nat × RB) (h : (act r.ahead).2.2.steps = r.steps) : (r.ioR t act).2.log = r.log ++ [(r.ioR t act).1] /\ (r.ioR t act).2.steps = r.steps := by
 unfold RB.ioR
 refine ⟨rfl, ?_⟩
 show (if r.ahead.off = true then (13,t.x,r.ahead) else act r.ahead).2.2.steps = r.steps
 split
 ·exact r.ahead_cell.2.1
 ·exact h
theorem atActR_steps (t : Ent) (am : RS -> Int × List Nat × RS) (r : RB) : (atActR t am r).2.2.steps = r.steps := by
 unfold atActR
 split
 ·rfl
 ·split <;> rfl
theorem BS.read_x {b : BS} (w : b.wf) (m i : Int) : (b.read m i).1.x.length = 64 := ioR_x w ⟨1,m,i,zz,0⟩ rfl _ (atAct_ok (BS.ahead_wf w) ⟨1,m,i,zz,0⟩ rfl (amRead ⟨1,m,i,zz,0⟩) (amRead_ok _)).2.2
theorem BS.io_cell {b : BS} (t : Ent) (act : BS -> Int × List Nat × BS) (h : (act b.ahead).2.2.cell.length <= b.cell.length + 1) : (b.ioR t act).2.cell.length <= b.cell.length + 1 := by
 unfold BS.ioR
 show (if b.ahead.off = true then (13,t.x,b.ahead) else act b.ahead).2.2.cell.length <= _
 split
 ·have : b.ahead.cell = b.cell := (aheadL_steps _ _ _).2.2.1
  show b.ahead.cell.length <= _
  rw [this]; omega
 ·exact h
theorem atAct_cell (t : Ent) (am : MS -> Int × List Nat × MS) (b : BS) : (atAct t am b).2.2.cell = b.cell := by
 unfold atAct
 split
 ·rfl
 ·split <;> rfl
theorem ahead_cellS (b : BS) : b.ahead.cell = b.cell := (aheadL_steps _ _ _).2.2.1
theorem eq70c (n : Nat) (t : List Nat) (ht : t.length = 32) : eqlE Try.prog 70 (.agg (cC n t)) (.agg (cC n t)) = some true := by
 have key : scsEqK (Kd.i :: List.replicate 32 Kd.i) (cC n t) (cC n t) some = some true := by
  have h1 := scs_B 32 t t ht ht
  rw [decide_eq_true rfl] at h1
  have h2 : kEq Kd.i (AV.int IntKind.u64 (n : Int)) (AV.int IntKind.u64 (n : Int)) = some true := by
   show (if IntKind.u64 = IntKind.u64 then some (ieq (n : Int) (n : Int)) else none) = _
   rw [if_pos rfl,ieq_eq]
   simp
  unfold cC
  rw [scsEqK,h2]
  exact h1
 have hk : plainKs Try.prog 30 70 = some (Kd.i :: List.replicate 32 Kd.i) := by kernel_rfl
 have hg : Try.prog.eqGuardType Try.prog.depth 70 = false := by kernel_rfl
 simp only [eqlE,eqlK,unK_E,Try.underlying70,th_some]
 rw [hg,hk]
 exact key
theorem RB.read_log (r : RB) (m i : Int) : (r.read m i).2.log = r.log ++ [(r.read m i).1] /\ (r.read m i).2.steps = r.steps := RB.io_log _ _ ((atActR_steps _ _ _).trans r.ahead_cell.2.1)
theorem RB.write_log (r : RB) (m i : Int) (s : List Nat) : (r.write m i s).2.log = r.log ++ [(r.write m i s).1] /\ (r.write m i s).2.steps = r.steps := RB.io_log _ _ ((atActR_steps _ _ _).trans r.ahead_cell.2.1)
theorem RB.flush_log (r : RB) (m : Int) : (r.flush m).2.log = r.log ++ [(r.flush m).1] /\ (r.flush m).2.steps = r.steps := RB.io_log _ _ ((atActR_steps _ _ _).trans r.ahead_cell.2.1)
theorem RB.cell_log (r : RB) : r.cellR.2.log = r.log ++ [r.cellR.1] /\ r.cellR.2.steps = r.steps := RB.io_log _ _ r.ahead_cell.2.1
theorem RB.adv_log (r : RB) (lb : List Nat) : (r.advR lb).2.log = r.log ++ [(r.advR lb).1] /\ (r.advR lb).2.steps = r.steps := RB.io_log _ _ (by
 unfold advActR
 split <;> exact r.ahead_cell.2.1)
theorem BS.read_cl (b : BS) (m i : Int) : (b.read m i).2.cell.length <= b.cell.length + 1 := BS.io_cell _ _ (by rw [atAct_cell,ahead_cellS]; omega)
theorem BS.write_cl (b : BS) (m i : Int) (s : List Nat) : (b.write m i s).2.cell.length <= b.cell.length + 1 := BS.io_cell _ _ (by rw [atAct_cell,ahead_cellS]; omega)
theorem BS.flush_cl (b : BS) (m : Int) : (b.flush m).2.cell.length <= b.cell.length + 1 := BS.io_cell _ _ (by rw [atAct_cell,ahead_cellS]; omega)
theorem BS.cell_cl (b : BS) : b.cellR.2.cell.length <= b.cell.length + 1 := BS.io_cell _ _ (by show b.ahead.cell.length <= _; rw [ahead_cellS]; omega)
theorem BS.adv_cl (b : BS) (lb : List Nat) : (b.advR lb).2.cell.length <= b.cell.length + 1 := BS.io_cell _ _ (by show (b.ahead.cell ++ [_]).length <= _; rw [ahead_cellS,List.length_append]; simp)
theorem BS.advF_cl (b : BS) (lb : List Nat) : (b.advF lb).2.cell.length <= b.cell.length + 1 := BS.io_cell _ _ (by show b.ahead.cell.length <= _; rw [ahead_cellS]; omega)
theorem BS.cell_wf {b : BS} (w : b.wf) (hl : b.log.length < 3989) : b.cellR.2.wf := ioR_wf w tCell zz_len _ (pad_len (BS.last_len (BS.ahead_wf w))) (BS.ahead_wf w) hl
theorem BS.adv_wf' {b : BS} (w : b.wf) (hl : b.log.length < 3989) (hcl : b.cell.length < 3999) {lb : List Nat} (hlb : lb.length = 32) : (b.advR lb).2.wf := ioR_wf w (tAdv lb) (pad_len hlb) _ (pad_len hlb) (adv_wf (BS.ahead_wf w) (by rw [ahead_cellS]; exact hcl) hlb) hl
theorem BS.advF_wf {b : BS} (w : b.wf) (hl : b.log.length < 3989) {lb : List Nat} (hlb : lb.length = 32) : (b.advF lb).2.wf := ioR_wf w (tAdv lb) (pad_len hlb) _ (pad_len hlb) (BS.ahead_wf w) hl
set_option maxHeartbeats 1000000 in
theorem do_ok (d : Nat) (h : Heap) (c : Col) (kb β cp : Nat) (ps : List Nat) (b : BS) (kr ρ : Nat) (qs : List Nat) (r : RB) (T : Two h c kb β cp ps b kr ρ qs r) (kb10 : 10 <= kb) (hkr : kb + 100 <= kr) (a : Act) (h1 : a.x.length = 64) (h2 : a.lb.length = 32) (hln : r.log.length < 100) :
  G (callD env (d + 12) 44 [.ptr β 0, .ptr ρ 0, .agg a.C] h) fun v h' => v = .bool true /\ ∃ C' b' r',Two h' C' kb β cp ps b' kr ρ qs r' /\ r'.log.length <= r.log.length + 1 /\ Fr (allK kb kr) c h h' /\ ∀ j,j < h.next -> C' j = c j := by
 refine G.gen fun Q hX => ?_
 have al := a.C_len h1 h2
 have ac := a.cut h1 h2
 have ao := a.ov h1 h2
 have ad := a.dat h1 h2
 have alb := a.lab h1 h2
 have azl : actZ.length = 99 := rfl
 have hz := zz_len
 have czl : czz.length = 32 := rfl
 have hr : a.r < 8 := by unfold Act.r; omega
 have e7 := fun u => bin_and7 (P := Try.prog) (u := u) a.k
 rw [show (a.k % 8).toNat = a.r from rfl] at e7
 have w := T.w
 have wr := T.wr
 have R := T.R
 have kr10 : 10 <= kr := by omega
 have hcl := cntL_le r.log.length r.steps
 have hcs : cntS r.log.length r.steps <= r.steps.length := List.length_filter_le ..
 have h60 := T.n60
 have hN : r.log.length + cntL r.log.length r.steps + cntS r.log.length r.steps < 2990 := by omega
 have hln' : b.log.length < 3989 := by rw [R.ll]; omega
 have hlg := T.lgB
 have hst : ∀ k,StepOk (d + k + 1) b kb β cp ps := fun k => step_all (d + k) b kb β cp ps kb10 w.st
 have kp : Keeps h (h.new (Blk.cells a.C 0 false)) := ⟨by simp (disch := omega) only [TH.down,uA,uB]; omega,fun j hj => by simp (disch := omega) only [TH.down,uA,uB]⟩
 have gh : (h.new (Blk.cells a.C 0 false)).get h.next = some (.cells a.C 0 false) := by simp (disch := omega) only [TH.down,uA,uB]
 have nh : (h.new (Blk.cells a.C 0 false)).next = h.next + 1 := by simp (disch := omega) only [TH.down,uA,uB]
 have I1 := T.I.keeps (c' := pnt c h.next 0) w.msl kp pnt_o
 have J1 := T.J.fr (K := fun _ => False) (c' := pnt c h.next 0) wr.msl (.of kp) id (fun _ _ => id) pnt_o
 have nb0 := busK0 kb10
 have nbr := bus_ref kb10 hkr
 match hR : a.r,hr with
 | 0,_ =>
  rw [hR] at e7
  rw [callD_run (E := env) [] (by kernel_rfl) Try.func44 rfl (by rw [Try.ntmps44]; simp) (by kernel_rfl)]; simp (disch := first | omega | (simp only [SD.down,uA,uL] <;> omega) | fail) only [Try.ntmps44,Try.results44,env_P,env_L,al,ac,ao,ad,alb,azl,actZ_fold,a.at0,a.at1,a.at2,e7,TQ.down,resE,oneV, ↓reduceIte,reduceCtorEq,uB,uE,uL,uA,uM,uS,vL,vK,vE,vA,vS]
  have w' := BS.read_wf w a.m a.i hln'
  have hxr := BS.read_x w a.m a.i
  have rel := R.read a.m a.i
  refine G.call (bus_read d _ (pnt c h.next 0) kb β cp ps b a.m a.i kb10 I1 w (hst 0)) ?_
  rintro v h3 ⟨C3,rfl,I3,fr3,hC3⟩
  have l3 := fr3.le
  have ga3 := (fr3.get h.next (by omega) (by rw [pnt_ge (Nat.le_refl _)]; exact nb0)).trans gh
  have J3 := J1.fr wr.msl fr3 nb0 nbr hC3
  simp (disch := first | omega | (simp only [SD.down,uA,uL] <;> omega) | fail) only [ga3,hxr,hz,zz_fold,cutB_all,over_B,al,ac,ad,alb,a.at0,a.at1,a.at2,TQ.down,resE,oneV, ↓reduceIte,reduceCtorEq,uB,uE,uL,uA,uM,uS,vL,vK,vE,vA,vS]
  have kY : Keeps h3 ((h3.new (Blk.cells (B zz) 0 false)).put h3.next (some (Blk.cells (B (b.read a.m a.i).1.x) 0 false))) := ⟨by simp (implicitDefEqProofs := false) (disch := first | omega | (simp only [SD.down,uA,uL] <;> omega) | fail) only [TQ.down,resE,oneV, ↓reduceIte,reduceCtorEq,uB,uE,uL,uA,uM,uS,uN,uX,uO,vR,vD,vL,vK,vE,vA,vM,vT,vS]; try omega,fun j hj => by simp (implicitDefEqProofs := false) (disch := first | omega | (simp only [SD.down,uA,uL] <;> omega) | fail) only [TQ.down,resE,oneV, ↓reduceIte,reduceCtorEq,uB,uE,uL,uA,uM,uS,uN,uX,uO,vR,vD,vL,vK,vE,vA,vM,vT,vS]⟩
  have gY : ((h3.new (Blk.cells (B zz) 0 false)).put h3.next (some (Blk.cells (B (b.read a.m a.i).1.x) 0 false))).get h.next = some (.cells a.C 0 false) := by simp (maxSteps := 2000000) (implicitDefEqProofs := false) (disch := first | omega | (simp only [SD.down,uA,uL] <;> omega) | fail) only [TQ.down,resE,oneV, ↓reduceIte,reduceCtorEq,uB,uE,uL,uA,uM,uS,uN,uX,uO,vR,vD,vL,vK,vE,vA,vM,vT,vS]; exact ga3
  have gS : ((h3.new (Blk.cells (B zz) 0 false)).put h3.next (some (Blk.cells (B (b.read a.m a.i).1.x) 0 false))).get h3.next = some (Blk.cells (B (b.read a.m a.i).1.x) 0 false) := by simp (maxSteps := 2000000) (implicitDefEqProofs := false) (disch := first | omega | (simp only [SD.down,uA,uL] <;> omega) | fail) only [TQ.down,resE,oneV, ↓reduceIte,reduceCtorEq,uB,uE,uL,uA,uM,uS,uN,uX,uO,vR,vD,vL,vK,vE,vA,vM,vT,vS]
  have nY : ((h3.new (Blk.cells (B zz) 0 false)).put h3.next (some (Blk.cells (B (b.read a.m a.i).1.x) 0 false))).next = h3.next + 1 := by simp (maxSteps := 2000000) (implicitDefEqProofs := false) (disch := first | omega | (simp only [SD.down,uA,uL] <;> omega) | fail) only [TQ.down,resE,oneV, ↓reduceIte,reduceCtorEq,uB,uE,uL,uA,uM,uS,uN,uX,uO,vR,vD,vL,vK,vE,vA,vM,vT,vS]
  generalize ((h3.new (Blk.cells (B zz) 0 false)).put h3.next (some (Blk.cells (B (b.read a.m a.i).1.x) 0 false))) = HY at kY gY gS nY ⊢
  have J4 := J3.fr (K := fun _ => False) (c' := pnt C3 h3.next 0) wr.msl (.of kY) id (fun _ _ => id) pnt_o
  have I4 := I3.keeps (c' := pnt C3 h3.next 0) w'.msl kY pnt_o
  refine G.call (rb_read (d + 3) HY (pnt C3 h3.next 0) kr ρ qs r (r.log.length + cntL r.log.length r.steps) kr10 J4 wr hN T.pk (by omega) a.m a.i) ?_
  rintro v h5 ⟨rfl,C5,J5,w5,hx5,fr5,hC5⟩
  have l5 := fr5.le
  have I5 := I4.keep (c' := C5) w'.msl l5 (fun j hj k1 k2 => fr5.get j hj fun q => by have := q.1; omega) hC5
  have n4 := kY.1
  have gS5 := (fr5.get h3.next (by omega) (by rw [pnt_ge (Nat.le_refl _)]; exact refK0 kr10)).trans gS
  have de : decide ((b.read a.m a.i).1.e = (r.read a.m a.i).1.e) = true := decide_eq_true rel.1.e
  have dx := eq25 (b.read a.m a.i).1.x (r.read a.m a.i).1.x hxr hx5
  rw [decide_eq_true rel.1.x] at dx
  simp (disch := first | omega | (simp only [SD.down,uA,uL] <;> omega) | fail) only [gS5,hx5,hxr,dx,de,bin_eql_agg,hz,zz_fold,cutB_all,over_B,TQ.down,resE,oneV, ↓reduceIte,reduceCtorEq,uB,uE,uL,uA,uM,uS,vL,vK,vE,vA,vS]
  subst hX
  have kF : Keeps h5 ((h5.new (Blk.cells (B zz) 0 false)).put h5.next (some (Blk.cells (B (r.read a.m a.i).1.x) 0 false))) := ⟨by simp (disch := omega) only [TQ.down,resE,oneV, ↓reduceIte,reduceCtorEq,uB,uE,uL,uA,uM,vE]; try omega,fun j hj => by simp (disch := omega) only [TQ.down,resE,oneV, ↓reduceIte,reduceCtorEq,uB,uE,uL,uA,uM,vE]⟩
  obtain ⟨q1,q2⟩ := two_fin kp pnt_o fr3 hC3 kY pnt_o fr5 hC5 kF
  have lg := r.read_log a.m a.i
  refine G.ok ⟨rfl,_,_,_,T.go kF I5 J5 rel.2 w' w5 (b.read_cl a.m a.i) lg.1 lg.2, ?_,q1,q2⟩
  rw [lg.1]; simp
 | 7,_ =>
  rw [hR] at e7
  rw [callD_run (E := env) [] (by kernel_rfl) Try.func44 rfl (by rw [Try.ntmps44]; simp) (by kernel_rfl)]; simp (disch := first | omega | (simp only [SD.down,uA,uL] <;> omega) | fail) only [Try.ntmps44,Try.results44,env_P,env_L,al,ac,ao,ad,alb,azl,actZ_fold,a.at0,a.at1,a.at2,e7,TQ.down,resE,oneV, ↓reduceIte,reduceCtorEq,uB,uE,uL,uA,uM,uS,vL,vK,vE,vA,vS]
  have w' := BS.read_wf w a.m a.i hln'
  have hxr := BS.read_x w a.m a.i
  have rel := R.read a.m a.i
  refine G.call (bus_read d _ (pnt c h.next 0) kb β cp ps b a.m a.i kb10 I1 w (hst 0)) ?_
  rintro v h3 ⟨C3,rfl,I3,fr3,hC3⟩
  have l3 := fr3.le
  have ga3 := (fr3.get h.next (by omega) (by rw [pnt_ge (Nat.le_refl _)]; exact nb0)).trans gh
  have J3 := J1.fr wr.msl fr3 nb0 nbr hC3
  simp (disch := first | omega | (simp only [SD.down,uA,uL] <;> omega) | fail) only [ga3,hxr,hz,zz_fold,cutB_all,over_B,al,ac,ad,alb,a.at0,a.at1,a.at2,TQ.down,resE,oneV, ↓reduceIte,reduceCtorEq,uB,uE,uL,uA,uM,uS,vL,vK,vE,vA,vS]
  have kY : Keeps h3 ((h3.new (Blk.cells (B zz) 0 false)).put h3.next (some (Blk.cells (B (b.read a.m a.i).1.x) 0 false))) := ⟨by simp (implicitDefEqProofs := false) (disch := first | omega | (simp only [SD.down,uA,uL] <;> omega) | fail) only [TQ.down,resE,oneV, ↓reduceIte,reduceCtorEq,uB,uE,uL,uA,uM,uS,uN,uX,uO,vR,vD,vL,vK,vE,vA,vM,vT,vS]; try omega,fun j hj => by simp (implicitDefEqProofs := false) (disch := first | omega | (simp only [SD.down,uA,uL] <;> omega) | fail) only [TQ.down,resE,oneV, ↓reduceIte,reduceCtorEq,uB,uE,uL,uA,uM,uS,uN,uX,uO,vR,vD,vL,vK,vE,vA,vM,vT,vS]⟩
  have gY : ((h3.new (Blk.cells (B zz) 0 false)).put h3.next (some (Blk.cells (B (b.read a.m a.i).1.x) 0 false))).get h.next = some (.cells a.C 0 false) := by simp (maxSteps := 2000000) (implicitDefEqProofs := false) (disch := first | omega | (simp only [SD.down,uA,uL] <;> omega) | fail) only [TQ.down,resE,oneV, ↓reduceIte,reduceCtorEq,uB,uE,uL,uA,uM,uS,uN,uX,uO,vR,vD,vL,vK,vE,vA,vM,vT,vS]; exact ga3
  have gS : ((h3.new (Blk.cells (B zz) 0 false)).put h3.next (some (Blk.cells (B (b.read a.m a.i).1.x) 0 false))).get h3.next = some (Blk.cells (B (b.read a.m a.i).1.x) 0 false) := by simp (maxSteps := 2000000) (implicitDefEqProofs := false) (disch := first | omega | (simp only [SD.down,uA,uL] <;> omega) | fail) only [TQ.down,resE,oneV, ↓reduceIte,reduceCtorEq,uB,uE,uL,uA,uM,uS,uN,uX,uO,vR,vD,vL,vK,vE,vA,vM,vT,vS]
  have nY : ((h3.new (Blk.cells (B zz) 0 false)).put h3.next (some (Blk.cells (B (b.read a.m a.i).1.x) 0 false))).next = h3.next + 1 := by simp (maxSteps := 2000000) (implicitDefEqProofs := false) (disch := first | omega | (simp only [SD.down,uA,uL] <;> omega) | fail) only [TQ.down,resE,oneV, ↓reduceIte,reduceCtorEq,uB,uE,uL,uA,uM,uS,uN,uX,uO,vR,vD,vL,vK,vE,vA,vM,vT,vS]
  generalize ((h3.new (Blk.cells (B zz) 0 false)).put h3.next (some (Blk.cells (B (b.read a.m a.i).1.x) 0 false))) = HY at kY gY gS nY ⊢
  have J4 := J3.fr (K := fun _ => False) (c' := pnt C3 h3.next 0) wr.msl (.of kY) id (fun _ _ => id) pnt_o
  have I4 := I3.keeps (c' := pnt C3 h3.next 0) w'.msl kY pnt_o
  refine G.call (rb_read (d + 3) HY (pnt C3 h3.next 0) kr ρ qs r (r.log.length + cntL r.log.length r.steps) kr10 J4 wr hN T.pk (by omega) a.m a.i) ?_
  rintro v h5 ⟨rfl,C5,J5,w5,hx5,fr5,hC5⟩
  have l5 := fr5.le
  have I5 := I4.keep (c' := C5) w'.msl l5 (fun j hj k1 k2 => fr5.get j hj fun q => by have := q.1; omega) hC5
  have n4 := kY.1
  have gS5 := (fr5.get h3.next (by omega) (by rw [pnt_ge (Nat.le_refl _)]; exact refK0 kr10)).trans gS
  have de : decide ((b.read a.m a.i).1.e = (r.read a.m a.i).1.e) = true := decide_eq_true rel.1.e
  have dx := eq25 (b.read a.m a.i).1.x (r.read a.m a.i).1.x hxr hx5
  rw [decide_eq_true rel.1.x] at dx
  simp (disch := first | omega | (simp only [SD.down,uA,uL] <;> omega) | fail) only [gS5,hx5,hxr,dx,de,bin_eql_agg,hz,zz_fold,cutB_all,over_B,TQ.down,resE,oneV, ↓reduceIte,reduceCtorEq,uB,uE,uL,uA,uM,uS,vL,vK,vE,vA,vS]
  subst hX
  have kF : Keeps h5 ((h5.new (Blk.cells (B zz) 0 false)).put h5.next (some (Blk.cells (B (r.read a.m a.i).1.x) 0 false))) := ⟨by simp (disch := omega) only [TQ.down,resE,oneV, ↓reduceIte,reduceCtorEq,uB,uE,uL,uA,uM,vE]; try omega,fun j hj => by simp (disch := omega) only [TQ.down,resE,oneV, ↓reduceIte,reduceCtorEq,uB,uE,uL,uA,uM,vE]⟩
  obtain ⟨q1,q2⟩ := two_fin kp pnt_o fr3 hC3 kY pnt_o fr5 hC5 kF
  have lg := r.read_log a.m a.i
  refine G.ok ⟨rfl,_,_,_,T.go kF I5 J5 rel.2 w' w5 (b.read_cl a.m a.i) lg.1 lg.2, ?_,q1,q2⟩
  rw [lg.1]; simp
 | 1,_ =>
  rw [hR] at e7
  rw [callD_run (E := env) [] (by kernel_rfl) Try.func44 rfl (by rw [Try.ntmps44]; simp) (by kernel_rfl)]; simp (disch := first | omega | (simp only [SD.down,uA,uL] <;> omega) | fail) only [Try.ntmps44,Try.results44,env_P,env_L,al,ac,ao,ad,alb,azl,actZ_fold,a.at0,a.at1,a.at2,e7,TQ.down,resE,oneV, ↓reduceIte,reduceCtorEq,uB,uE,uL,uA,uM,uS,vL,vK,vE,vA,vS]
  have w' := BS.write_wf w a.m a.i a.x h1 hln' hlg (by omega)
  have rel := R.write a.m a.i a.x
  refine G.call (bus_write d _ (pnt c h.next 0) kb β cp ps b a.m a.i a.x h1 kb10 I1 w hlg (by omega) (hst 0)) ?_
  rintro v h3 ⟨C3,rfl,I3,fr3,hC3⟩
  have l3 := fr3.le
  have ga3 := (fr3.get h.next (by omega) (by rw [pnt_ge (Nat.le_refl _)]; exact nb0)).trans gh
  have J3 := J1.fr wr.msl fr3 nb0 nbr hC3
  simp (disch := omega) only [ga3,hz,zz_fold,cutB_all,over_B,al,ac,ad,alb,a.at0,a.at1,a.at2,h1,TQ.down,resE,oneV, ↓reduceIte,reduceCtorEq,uB,uE,uL,uA,uM,vE]
  have kY : Keeps h3 h3 := .refl h3
  have J4 := J3.fr (K := fun _ => False) (c' := pnt C3 h3.next 0) wr.msl (.of kY) id (fun _ _ => id) pnt_o
  have I4 := I3.keeps (c' := pnt C3 h3.next 0) w'.msl kY pnt_o
  refine G.call (rb_write (d + 3) h3 (pnt C3 h3.next 0) kr ρ qs r (r.log.length + cntL r.log.length r.steps) kr10 J4 wr hN T.pk (by omega) a.m a.i a.x h1) ?_
  rintro v h5 ⟨rfl,C5,J5,w5,hx5,fr5,hC5⟩
  have l5 := fr5.le
  have I5 := I4.keep (c' := C5) w'.msl l5 (fun j hj k1 k2 => fr5.get j hj fun q => by have := q.1; omega) hC5
  have n4 := kY.1
  have de : decide ((b.write a.m a.i a.x).1.e = (r.write a.m a.i a.x).1.e) = true := decide_eq_true rel.1.e
  simp (disch := omega) only [de,TQ.down,resE,oneV, ↓reduceIte,reduceCtorEq,uB,uE,uL,uA,uM,vE]
  subst hX
  have kF : Keeps h5 h5 := .refl h5
  obtain ⟨q1,q2⟩ := two_fin kp pnt_o fr3 hC3 kY pnt_o fr5 hC5 kF
  have lg := r.write_log a.m a.i a.x
  refine G.ok ⟨rfl,_,_,_,T.go kF I5 J5 rel.2 w' w5 (b.write_cl a.m a.i a.x) lg.1 lg.2, ?_,q1,q2⟩
  rw [lg.1]; simp
 | 2,_ =>
  rw [hR] at e7
  rw [callD_run (E := env) [] (by kernel_rfl) Try.func44 rfl (by rw [Try.ntmps44]; simp) (by kernel_rfl)]; simp (disch := first | omega | (simp only [SD.down,uA,uL] <;> omega) | fail) only [Try.ntmps44,Try.results44,env_P,env_L,al,ac,ao,ad,alb,azl,actZ_fold,a.at0,a.at1,a.at2,e7,TQ.down,resE,oneV, ↓reduceIte,reduceCtorEq,uB,uE,uL,uA,uM,uS,vL,vK,vE,vA,vS]
  have w' := BS.write_wf w a.m a.i a.x h1 hln' hlg (by omega)
  have rel := R.write a.m a.i a.x
  refine G.call (bus_write d _ (pnt c h.next 0) kb β cp ps b a.m a.i a.x h1 kb10 I1 w hlg (by omega) (hst 0)) ?_
  rintro v h3 ⟨C3,rfl,I3,fr3,hC3⟩
  have l3 := fr3.le
  have ga3 := (fr3.get h.next (by omega) (by rw [pnt_ge (Nat.le_refl _)]; exact nb0)).trans gh
  have J3 := J1.fr wr.msl fr3 nb0 nbr hC3
  simp (disch := omega) only [ga3,hz,zz_fold,cutB_all,over_B,al,ac,ad,alb,a.at0,a.at1,a.at2,h1,TQ.down,resE,oneV, ↓reduceIte,reduceCtorEq,uB,uE,uL,uA,uM,vE]
  have kY : Keeps h3 h3 := .refl h3
  have J4 := J3.fr (K := fun _ => False) (c' := pnt C3 h3.next 0) wr.msl (.of kY) id (fun _ _ => id) pnt_o
  have I4 := I3.keeps (c' := pnt C3 h3.next 0) w'.msl kY pnt_o
  refine G.call (rb_write (d + 3) h3 (pnt C3 h3.next 0) kr ρ qs r (r.log.length + cntL r.log.length r.steps) kr10 J4 wr hN T.pk (by omega) a.m a.i a.x h1) ?_
  rintro v h5 ⟨rfl,C5,J5,w5,hx5,fr5,hC5⟩
  have l5 := fr5.le
  have I5 := I4.keep (c' := C5) w'.msl l5 (fun j hj k1 k2 => fr5.get j hj fun q => by have := q.1; omega) hC5
  have n4 := kY.1
  have de : decide ((b.write a.m a.i a.x).1.e = (r.write a.m a.i a.x).1.e) = true := decide_eq_true rel.1.e
  simp (disch := omega) only [de,TQ.down,resE,oneV, ↓reduceIte,reduceCtorEq,uB,uE,uL,uA,uM,vE]
  subst hX
  have kF : Keeps h5 h5 := .refl h5
  obtain ⟨q1,q2⟩ := two_fin kp pnt_o fr3 hC3 kY pnt_o fr5 hC5 kF
  have lg := r.write_log a.m a.i a.x
  refine G.ok ⟨rfl,_,_,_,T.go kF I5 J5 rel.2 w' w5 (b.write_cl a.m a.i a.x) lg.1 lg.2, ?_,q1,q2⟩
  rw [lg.1]; simp
 | 3,_ =>
  rw [hR] at e7
  rw [callD_run (E := env) [] (by kernel_rfl) Try.func44 rfl (by rw [Try.ntmps44]; simp) (by kernel_rfl)]; simp (disch := first | omega | (simp only [SD.down,uA,uL] <;> omega) | fail) only [Try.ntmps44,Try.results44,env_P,env_L,al,ac,ao,ad,alb,azl,actZ_fold,a.at0,a.at1,a.at2,e7,TQ.down,resE,oneV, ↓reduceIte,reduceCtorEq,uB,uE,uL,uA,uM,uS,vL,vK,vE,vA,vS]
  have w' := BS.flush_wf w a.m hln'
  have rel := R.flush a.m
  refine G.call (bus_flush d _ (pnt c h.next 0) kb β cp ps b a.m kb10 I1 w (hst 0)) ?_
  rintro v h3 ⟨C3,rfl,I3,fr3,hC3⟩
  have l3 := fr3.le
  have ga3 := (fr3.get h.next (by omega) (by rw [pnt_ge (Nat.le_refl _)]; exact nb0)).trans gh
  have J3 := J1.fr wr.msl fr3 nb0 nbr hC3
  simp (disch := omega) only [ga3,hz,zz_fold,cutB_all,over_B,al,ac,ad,alb,a.at0,a.at1,a.at2,h1,TQ.down,resE,oneV, ↓reduceIte,reduceCtorEq,uB,uE,uL,uA,uM,vE]
  have kY : Keeps h3 h3 := .refl h3
  have J4 := J3.fr (K := fun _ => False) (c' := pnt C3 h3.next 0) wr.msl (.of kY) id (fun _ _ => id) pnt_o
  have I4 := I3.keeps (c' := pnt C3 h3.next 0) w'.msl kY pnt_o
  refine G.call (rb_flush (d + 3) h3 (pnt C3 h3.next 0) kr ρ qs r (r.log.length + cntL r.log.length r.steps) kr10 J4 wr hN T.pk (by omega) a.m) ?_
  rintro v h5 ⟨rfl,C5,J5,w5,hx5,fr5,hC5⟩
  have l5 := fr5.le
  have I5 := I4.keep (c' := C5) w'.msl l5 (fun j hj k1 k2 => fr5.get j hj fun q => by have := q.1; omega) hC5
  have n4 := kY.1
  have de : decide ((b.flush a.m).1.e = (r.flush a.m).1.e) = true := decide_eq_true rel.1.e
  simp (disch := omega) only [de,TQ.down,resE,oneV, ↓reduceIte,reduceCtorEq,uB,uE,uL,uA,uM,vE]
  subst hX
  have kF : Keeps h5 h5 := .refl h5
  obtain ⟨q1,q2⟩ := two_fin kp pnt_o fr3 hC3 kY pnt_o fr5 hC5 kF
  have lg := r.flush_log a.m
  refine G.ok ⟨rfl,_,_,_,T.go kF I5 J5 rel.2 w' w5 (b.flush_cl a.m) lg.1 lg.2, ?_,q1,q2⟩
  rw [lg.1]; simp
 | 4,_ =>
  rw [hR] at e7
  rw [callD_run (E := env) [] (by kernel_rfl) Try.func44 rfl (by rw [Try.ntmps44]; simp) (by kernel_rfl)]; simp (disch := first | omega | (simp only [SD.down,uA,uL] <;> omega) | fail) only [Try.ntmps44,Try.results44,env_P,env_L,al,ac,ao,ad,alb,azl,actZ_fold,a.at0,a.at1,a.at2,e7,TQ.down,resE,oneV, ↓reduceIte,reduceCtorEq,uB,uE,uL,uA,uM,uS,vL,vK,vE,vA,vS]
  have w' := BS.cell_wf w hln'
  have rel := R.cell'
  have hvl : b.cellV.2.length = 32 := by
   unfold BS.cellV
   split
   ·rfl
   ·exact BS.last_len (BS.ahead_wf w)
  have hvc := cC_len b.cellV.1 b.cellV.2 hvl
  have hvo := cC_over b.cellV.1 0 b.cellV.2 czz hvl czl
  have hvcut := cC_cut b.cellV.1 b.cellV.2 hvl
  have hzc := cC_len 0 czz czl
  refine G.call (bus_cell d _ (pnt c h.next 0) kb β cp ps b kb10 I1 w (hst 1)) ?_
  rintro v h3 ⟨C3,rfl,I3,fr3,hC3⟩
  have l3 := fr3.le
  have ga3 := (fr3.get h.next (by omega) (by rw [pnt_ge (Nat.le_refl _)]; exact nb0)).trans gh
  have J3 := J1.fr wr.msl fr3 nb0 nbr hC3
  simp (disch := first | omega | (simp only [SD.down,uA,uL] <;> omega) | fail) only [ga3,hvc,hvo,hzc,c33_fold,cz_fold,al,ac,ad,alb,a.at0,a.at1,a.at2,h1,TQ.down,resE,oneV, ↓reduceIte,reduceCtorEq,uB,uE,uL,uA,uM,uS,vL,vK,vE,vA,vS]
  have ev := R.cellV
  have kY : Keeps h3 ((h3.new (Blk.cells (cC 0 czz) 0 false)).put h3.next (some (Blk.cells (cC b.cellV.1 b.cellV.2) 0 false))) := ⟨by simp (implicitDefEqProofs := false) (disch := first | omega | (simp only [SD.down,uA,uL] <;> omega) | fail) only [TQ.down,resE,oneV, ↓reduceIte,reduceCtorEq,uB,uE,uL,uA,uM,uS,uN,uX,uO,vR,vD,vL,vK,vE,vA,vM,vT,vS]; try omega,fun j hj => by simp (implicitDefEqProofs := false) (disch := first | omega | (simp only [SD.down,uA,uL] <;> omega) | fail) only [TQ.down,resE,oneV, ↓reduceIte,reduceCtorEq,uB,uE,uL,uA,uM,uS,uN,uX,uO,vR,vD,vL,vK,vE,vA,vM,vT,vS]⟩
  have gY : ((h3.new (Blk.cells (cC 0 czz) 0 false)).put h3.next (some (Blk.cells (cC b.cellV.1 b.cellV.2) 0 false))).get h.next = some (.cells a.C 0 false) := by simp (maxSteps := 2000000) (implicitDefEqProofs := false) (disch := first | omega | (simp only [SD.down,uA,uL] <;> omega) | fail) only [TQ.down,resE,oneV, ↓reduceIte,reduceCtorEq,uB,uE,uL,uA,uM,uS,uN,uX,uO,vR,vD,vL,vK,vE,vA,vM,vT,vS]; exact ga3
  have gS : ((h3.new (Blk.cells (cC 0 czz) 0 false)).put h3.next (some (Blk.cells (cC b.cellV.1 b.cellV.2) 0 false))).get h3.next = some (Blk.cells (cC b.cellV.1 b.cellV.2) 0 false) := by simp (maxSteps := 2000000) (implicitDefEqProofs := false) (disch := first | omega | (simp only [SD.down,uA,uL] <;> omega) | fail) only [TQ.down,resE,oneV, ↓reduceIte,reduceCtorEq,uB,uE,uL,uA,uM,uS,uN,uX,uO,vR,vD,vL,vK,vE,vA,vM,vT,vS]
  have nY : ((h3.new (Blk.cells (cC 0 czz) 0 false)).put h3.next (some (Blk.cells (cC b.cellV.1 b.cellV.2) 0 false))).next = h3.next + 1 := by simp (maxSteps := 2000000) (implicitDefEqProofs := false) (disch := first | omega | (simp only [SD.down,uA,uL] <;> omega) | fail) only [TQ.down,resE,oneV, ↓reduceIte,reduceCtorEq,uB,uE,uL,uA,uM,uS,uN,uX,uO,vR,vD,vL,vK,vE,vA,vM,vT,vS]
  generalize ((h3.new (Blk.cells (cC 0 czz) 0 false)).put h3.next (some (Blk.cells (cC b.cellV.1 b.cellV.2) 0 false))) = HY at kY gY gS nY ⊢
  have J4 := J3.fr (K := fun _ => False) (c' := pnt C3 h3.next 0) wr.msl (.of kY) id (fun _ _ => id) pnt_o
  have I4 := I3.keeps (c' := pnt C3 h3.next 0) w'.msl kY pnt_o
  refine G.call (rb_cell (d + 3) HY (pnt C3 h3.next 0) kr ρ qs r (r.log.length + cntL r.log.length r.steps) kr10 J4 wr hN T.pk (by omega)) ?_
  rintro v h5 ⟨rfl,C5,J5,w5,hx5,fr5,hC5⟩
  have l5 := fr5.le
  have I5 := I4.keep (c' := C5) w'.msl l5 (fun j hj k1 k2 => fr5.get j hj fun q => by have := q.1; omega) hC5
  have n4 := kY.1
  have gS5 := (fr5.get h3.next (by omega) (by rw [pnt_ge (Nat.le_refl _)]; exact refK0 kr10)).trans gS
  have de : decide (b.cellR.1.e = r.cellR.1.e) = true := decide_eq_true rel.1.e
  have dx := eq70c b.cellV.1 b.cellV.2 hvl
  rw [<- ev]
  simp (disch := first | omega | (simp only [SD.down,uA,uL] <;> omega) | fail) only [gS5,hvc,hvo,hzc,hvcut,dx,de,bin_eql_agg,c33_fold,cz_fold,TQ.down,resE,oneV, ↓reduceIte,reduceCtorEq,uB,uE,uL,uA,uM,uS,vL,vK,vE,vA,vS]
  subst hX
  have kF : Keeps h5 ((h5.new (Blk.cells (cC 0 czz) 0 false)).put h5.next (some (Blk.cells (cC b.cellV.1 b.cellV.2) 0 false))) := ⟨by simp (disch := omega) only [TQ.down,resE,oneV, ↓reduceIte,reduceCtorEq,uB,uE,uL,uA,uM,vE]; try omega,fun j hj => by simp (disch := omega) only [TQ.down,resE,oneV, ↓reduceIte,reduceCtorEq,uB,uE,uL,uA,uM,vE]⟩
  obtain ⟨q1,q2⟩ := two_fin kp pnt_o fr3 hC3 kY pnt_o fr5 hC5 kF
  have lg := r.cell_log
  refine G.ok ⟨rfl,_,_,_,T.go kF I5 J5 rel.2 w' w5 (b.cell_cl) lg.1 lg.2, ?_,q1,q2⟩
  rw [lg.1]; simp
 | 5,_ =>
  rw [hR] at e7
  rw [callD_run (E := env) [] (by kernel_rfl) Try.func44 rfl (by rw [Try.ntmps44]; simp) (by kernel_rfl)]; simp (disch := first | omega | (simp only [SD.down,uA,uL] <;> omega) | fail) only [Try.ntmps44,Try.results44,env_P,env_L,al,ac,ao,ad,alb,azl,actZ_fold,a.at0,a.at1,a.at2,e7,TQ.down,resE,oneV, ↓reduceIte,reduceCtorEq,uB,uE,uL,uA,uM,uS,vL,vK,vE,vA,vS]
  have hcl' : b.cell.length < 3999 := by have := T.cl; omega
  have ec : b.last.1 <= 4611686018427387904 := by rw [R.cell]; exact wr.cellm
  by_cases hm : b.last.1 = 4611686018427387904
  ·have w' := BS.advF_wf w hln' h2
   have rel := R.advF a.lb hm
   have ev := rel.2.2
   refine G.call (bus_advF d _ (pnt c h.next 0) kb β cp ps b a.lb h2 kb10 I1 w hm (hst 1)) ?_
   rintro v h3 ⟨C3,rfl,I3,fr3,hC3⟩
   have l3 := fr3.le
   have ga3 := (fr3.get h.next (by omega) (by rw [pnt_ge (Nat.le_refl _)]; exact nb0)).trans gh
   have J3 := J1.fr wr.msl fr3 nb0 nbr hC3
   simp (disch := omega) only [ga3,al,ac,ad,alb,a.at0,a.at1,a.at2,h1,h2,cutB_all,over_B,TQ.down,resE,oneV, ↓reduceIte,reduceCtorEq,uB,uE,uL,uA,uM,vE]
   have kY : Keeps h3 h3 := .refl h3
   have J4 := J3.fr (K := fun _ => False) (c' := pnt C3 h3.next 0) wr.msl (.of kY) id (fun _ _ => id) pnt_o
   have I4 := I3.keeps (c' := pnt C3 h3.next 0) w'.msl kY pnt_o
   refine G.call (rb_adv (d + 3) h3 (pnt C3 h3.next 0) kr ρ qs r (r.log.length + cntL r.log.length r.steps) kr10 J4 wr hN T.pk (by omega) a.lb h2) ?_
   rintro v h5 ⟨rfl,C5,J5,w5,hx5,fr5,hC5⟩
   have l5 := fr5.le
   have I5 := I4.keep (c' := C5) w'.msl l5 (fun j hj k1 k2 => fr5.get j hj fun q => by have := q.1; omega) hC5
   have n4 := kY.1
   have de : decide ((b.advF a.lb).1.e = (r.advR a.lb).1.e) = true := decide_eq_true rel.1.e
   rw [ev]
   simp (disch := omega) only [de,TQ.down,resE,oneV, ↓reduceIte,reduceCtorEq,uB,uE,uL,uA,uM,vE]
   subst hX
   have kF : Keeps h5 h5 := .refl h5
   obtain ⟨q1,q2⟩ := two_fin kp pnt_o fr3 hC3 kY pnt_o fr5 hC5 kF
   have lg := r.adv_log a.lb
   refine G.ok ⟨rfl,_,_,_,T.go kF I5 J5 rel.2.1 w' w5 (b.advF_cl a.lb) lg.1 lg.2, ?_,q1,q2⟩
   rw [lg.1]; simp
  ·have w' := BS.adv_wf' w hln' hcl' h2
   have rel := R.adv a.lb hm
   have ev := rel.2.2
   refine G.call (bus_adv d _ (pnt c h.next 0) kb β cp ps b a.lb h2 kb10 I1 w (by omega) hcl' (hst 1)) ?_
   rintro v h3 ⟨C3,rfl,I3,fr3,hC3⟩
   have l3 := fr3.le
   have ga3 := (fr3.get h.next (by omega) (by rw [pnt_ge (Nat.le_refl _)]; exact nb0)).trans gh
   have J3 := J1.fr wr.msl fr3 nb0 nbr hC3
   simp (disch := omega) only [ga3,al,ac,ad,alb,a.at0,a.at1,a.at2,h1,h2,cutB_all,over_B,TQ.down,resE,oneV, ↓reduceIte,reduceCtorEq,uB,uE,uL,uA,uM,vE]
   have kY : Keeps h3 h3 := .refl h3
   have J4 := J3.fr (K := fun _ => False) (c' := pnt C3 h3.next 0) wr.msl (.of kY) id (fun _ _ => id) pnt_o
   have I4 := I3.keeps (c' := pnt C3 h3.next 0) w'.msl kY pnt_o
   refine G.call (rb_adv (d + 3) h3 (pnt C3 h3.next 0) kr ρ qs r (r.log.length + cntL r.log.length r.steps) kr10 J4 wr hN T.pk (by omega) a.lb h2) ?_
   rintro v h5 ⟨rfl,C5,J5,w5,hx5,fr5,hC5⟩
   have l5 := fr5.le
   have I5 := I4.keep (c' := C5) w'.msl l5 (fun j hj k1 k2 => fr5.get j hj fun q => by have := q.1; omega) hC5
   have n4 := kY.1
   have de : decide ((b.advR a.lb).1.e = (r.advR a.lb).1.e) = true := decide_eq_true rel.1.e
   have dv : decide (((r.advV : Nat) : Int) = (r.advV : Nat)) = true := decide_eq_true rfl
   rw [ev]
   simp (disch := omega) only [de,dv,TQ.down,resE,oneV, ↓reduceIte,reduceCtorEq,uB,uE,uL,uA,uM,vE]
   subst hX
   have kF : Keeps h5 h5 := .refl h5
   obtain ⟨q1,q2⟩ := two_fin kp pnt_o fr3 hC3 kY pnt_o fr5 hC5 kF
   have lg := r.adv_log a.lb
   refine G.ok ⟨rfl,_,_,_,T.go kF I5 J5 rel.2.1 w' w5 (b.adv_cl a.lb) lg.1 lg.2, ?_,q1,q2⟩
   rw [lg.1]; simp
 | 6,_ =>
  rw [hR] at e7
  rw [callD_run (E := env) [] (by kernel_rfl) Try.func44 rfl (by rw [Try.ntmps44]; simp) (by kernel_rfl)]; simp (disch := first | omega | (simp only [SD.down,uA,uL] <;> omega) | fail) only [Try.ntmps44,Try.results44,env_P,env_L,al,ac,ao,ad,alb,azl,actZ_fold,a.at0,a.at1,a.at2,e7,TQ.down,resE,oneV, ↓reduceIte,reduceCtorEq,uB,uE,uL,uA,uM,uS,vL,vK,vE,vA,vS]
  refine G.call (bus_power (d + 8) _ (pnt c h.next 0) kb β cp ps b I1 w kb10) ?_
  rintro v h3 ⟨rfl,I3,fr3⟩
  have J3 := J1.fr wr.msl fr3 nb0 nbr (fun _ _ => rfl)
  obtain ⟨Ms,cx,stv,lgv,l1,c1,l2,c2,g1,g2,pl,mm,ce,st,lg⟩ := id J3
  simp (disch := omega) only [g1,TQ.down,resE,oneV, ↓reduceIte,reduceCtorEq,uB,uE,uL,uA,uM,vE]
  subst hX
  obtain ⟨JP,frP⟩ := RefB.putOff kr10 J3 g1
  have IP := I3.keep (c' := pnt c h.next 0) w.msl frP.le (fun j hj k1 k2 => frP.get j hj (by omega)) (fun _ _ => rfl)
  obtain ⟨q1,q2⟩ := two_fin (kr := kr) kp pnt_o fr3 (fun _ _ => rfl) (.refl h3) (fun _ _ => rfl) (frP.mono fun n hn => ⟨by omega,by omega⟩) (fun _ _ => rfl) (.refl _)
  exact G.ok ⟨rfl,_,_,_,T.power (h3 := h3) IP JP,by show r.log.length <= _; omega,q1,fun j hj => pnt_lt hj⟩
 | n + 8,h8 => omega
theorem bus_sec (d : Nat) (h : Heap) (c : Col) (kb β cp : Nat) (ps : List Nat) (b : BS) (I : BusI h c kb β cp ps b) (w : b.wf) (i : Nat) (S : MS) (hS : b.ms[i]? = some S) : callD env (d + 4) 41 [.ptr β 0, .int .i64 (i : Int)] h = some (.int .i64 (S.n : Int),h) := by
 obtain ⟨Ms,stv,lgv,l1,c1,l2,c2,n1,g1,g2,pl,mm,ce,st,lg⟩ := I
 have hil := (List.getElem?_eq_some_iff.1 hS).1
 obtain ⟨p,hp⟩ : ∃ p,ps[i]? = some p := ⟨_,List.getElem?_eq_getElem (by omega)⟩
 have hpm := ptrs_get hp
 have hq := fun d => m_len d h c (kb + 2 + i) p S (mm i p S hp hS) (w.ms S (List.mem_of_getElem? hS))
 have d0 : decide ((i : Int) < 0) = false := decide_eq_false (by omega)
 have d1 : decide ((b.ms.length : Int) <= (i : Int)) = false := decide_eq_false (by omega)
 have ml := w.msl
 rw [callD_run (E := env) [] (by kernel_rfl) Try.func41 rfl (by rw [Try.ntmps41]; simp) (by kernel_rfl)]; simp (disch := first | omega | (simp only [SD.down,uA,uL] <;> omega) | fail) only [Try.ntmps41,Try.results41,env_P,env_L,in56,Try.f56,g1,g2,hpm,hq,d0,d1,hil,TQ.down,resE,oneV, ↓reduceIte,reduceCtorEq,uB,uE,uL,uA,uM,uS,vL,vK,vE,vA,vS]
theorem bus_sec_out (d : Nat) (h : Heap) (c : Col) (kb β cp : Nat) (ps : List Nat) (b : BS) (I : BusI h c kb β cp ps b) (w : b.wf) (i : Int) (hi : i < 0 \/ (b.ms.length : Int) <= i) : callD env (d + 4) 41 [.ptr β 0, .int .i64 i] h = some (.int .i64 0,h) := by
 obtain ⟨Ms,stv,lgv,l1,c1,l2,c2,n1,g1,g2,pl,mm,ce,st,lg⟩ := I
 have ml := w.msl
 by_cases h0 : i < 0
 ·have d0 : decide (i < 0) = true := decide_eq_true h0
  rw [callD_run (E := env) [] (by kernel_rfl) Try.func41 rfl (by rw [Try.ntmps41]; simp) (by kernel_rfl)]; simp (disch := first | omega | (simp only [SD.down,uA,uL] <;> omega) | fail) only [Try.ntmps41,Try.results41,env_P,env_L,in56,Try.f56,g1,d0,TQ.down,resE,oneV, ↓reduceIte,reduceCtorEq,uB,uE,uL,uA,uM,uS,vL,vK,vE,vA,vS]
 ·have d0 : decide (i < 0) = false := decide_eq_false h0
  have d1 : decide ((b.ms.length : Int) <= i) = true := decide_eq_true (by omega)
  rw [callD_run (E := env) [] (by kernel_rfl) Try.func41 rfl (by rw [Try.ntmps41]; simp) (by kernel_rfl)]; simp (disch := first | omega | (simp only [SD.down,uA,uL] <;> omega) | fail) only [Try.ntmps41,Try.results41,env_P,env_L,in56,Try.f56,g1,d0,d1,TQ.down,resE,oneV, ↓reduceIte,reduceCtorEq,uB,uE,uL,uA,uM,uS,vL,vK,vE,vA,vS]
theorem neq_bool (x : Bool) : binE Try.prog .neq 4 (.bool x) (.bool x) = some (.bool false) := by cases x <;> kernel_rfl
theorem same_cC (n : Nat) (t : List Nat) : AV.same (.agg (cC n t)) (.agg (cC n t)) = true := by
 have h2 := same_B t
 show scsSame (AV.int IntKind.u64 (n : Int) :: B t) (AV.int IntKind.u64 (n : Int) :: B t) = true
 have h2 : scsSame (B t) (B t) = true := h2
 have h1 : scSame (AV.int IntKind.u64 (n : Int)) (AV.int IntKind.u64 (n : Int)) = true := by
  show (IntKind.u64 == IntKind.u64 && ieq (n : Int) (n : Int)) = true
  simp [ieq_eq]
 show (match scSame (AV.int IntKind.u64 (n : Int)) (AV.int IntKind.u64 (n : Int)) with | true => scsSame (B t) (B t) | false => false) = true
 rw [h1]
 exact h2
theorem lncL {dd : Option Tmp} {t : TypeId} {p : String} {a : Array Edge} {g : Option (Nat × Bool)} (x : Operand) : cls Try.prog ⟨dd, .call ⟨.builtin .len,#[x],#[50]⟩,t,p,a,g⟩ = .p := cls_len1 Try.underlying50 x
theorem lnoL {call : CallK} {ρ : Operand -> AV} {h : Heap} {dd : Option Tmp} {t : TypeId} {p : String} {a : Array Edge} {g : Option (Nat × Bool)} (x : Operand) : opE Try.prog call ρ ⟨dd, .call ⟨.builtin .len,#[x],#[50]⟩,t,p,a,g⟩ h = th (okv (ρ x)) fun v => th (lenE Try.prog 50 v) fun v => some (v,h) := opE_len1 Try.underlying50 x
theorem lneL (k o l c : Nat) : lenE Try.prog 50 (.eslice k o l c) = some (.int .i64 (c : Int)) := len_eslice Try.underlying50 k o l c
theorem alike_ok (d : Nat) (h : Heap) (c : Col) (kb β cp : Nat) (ps : List Nat) (b : BS) (kr ρ : Nat) (qs : List Nat) (r : RB) (T : Two h c kb β cp ps b kr ρ qs r) (kb10 : 10 <= kb) (hkr : kb + 100 <= kr) (Lb : Nat) (hLn : Lb < h.next) (hL : h.get Lb = some (.cells (ps.map (AV.ptr · 0)) 1 false)) :
  G (callD env (d + 8) 45 [.ptr β 0, .eslice Lb 0 0 ps.length, .ptr cp 0, .ptr ρ 0] h) fun v h' => v = .bool true /\ Keeps h h' := by
 refine G.gen fun Q hX => ?_
 have w := T.w
 have wr := T.wr
 have R := T.R
 obtain ⟨Ms,stv,lgv,l1,c1,l2,c2,n1,g1,g2,pl,mm,ce,st,lg⟩ := id T.I
 obtain ⟨hv,K,cl,ccp,gc,hh,cK,cKn⟩ := ce
 have hlast := BS.last_some w
 have czl : czz.length = 32 := rfl
 have ct := BS.last_len w
 have hvc := cC_len b.last.1 b.last.2 ct
 have hvo := cC_over b.last.1 0 b.last.2 czz ct czl
 have hvcut := cC_cut b.last.1 b.last.2 ct
 have hzc := cC_len 0 czz czl
 rw [callD_run (E := env) [(2, .fl [(5,0,1),(14,1,2),(23,2,3),(28,3,4)]),(8, .fl [(6,0,1),(17,1,2),(29,2,3)])] (by kernel_rfl) Try.func45 rfl (by rw [Try.ntmps45]; simp) (by kernel_rfl)]; simp (disch := first | omega | (simp only [SD.down,uA,uL] <;> omega) | fail) only [Try.ntmps45,Try.results45,env_P,env_L,c33_fold,cz_fold,TQ.down,resE,oneV, ↓reduceIte,reduceCtorEq,uB,uE,uL,uA,uM,uS,vL,vK,vE,vA,vS]
 refine G.call (cell_read (d + 5) h cp K hv b.cell b.last gc hh w.cell hlast cl w.celll) ?_
 rintro v h1 ⟨rfl,k1⟩
 have I1 := T.I.keeps (c' := c) w.msl k1 (fun _ _ => rfl)
 have J1 := T.J.fr (K := fun _ => False) (c' := c) wr.msl (.of k1) id (fun _ _ => id) (fun _ _ => rfl)
 simp (disch := first | omega | (simp only [SD.down,uA,uL] <;> omega) | fail) only [hvc,hvo,hvcut,hzc,c33_fold,cz_fold,TQ.down,resE,oneV, ↓reduceIte,reduceCtorEq,uB,uE,uL,uA,uM,uS,vL,vK,vE,vA,vS]
 have kA : Keeps h ((h1.new (Blk.cells (cC 0 czz) 0 false)).put h1.next (some (Blk.cells (cC b.last.fst b.last.snd) 0 false))) := k1.trans ⟨by simp (implicitDefEqProofs := false) (disch := first | omega | (simp only [SD.down,uA,uL] <;> omega) | fail) only [TQ.down,resE,oneV, ↓reduceIte,reduceCtorEq,uB,uE,uL,uA,uM,uS,uN,uX,uO,vR,vD,vL,vK,vE,vA,vM,vT,vS]; omega,fun j hj => by simp (implicitDefEqProofs := false) (disch := first | omega | (simp only [SD.down,uA,uL] <;> omega) | fail) only [TQ.down,resE,oneV, ↓reduceIte,reduceCtorEq,uB,uE,uL,uA,uM,uS,uN,uX,uO,vR,vD,vL,vK,vE,vA,vM,vT,vS]⟩
 have gA : ((h1.new (Blk.cells (cC 0 czz) 0 false)).put h1.next (some (Blk.cells (cC b.last.fst b.last.snd) 0 false))).get h1.next = some (Blk.cells (cC b.last.fst b.last.snd) 0 false) := by simp (implicitDefEqProofs := false) (disch := first | omega | (simp only [SD.down,uA,uL] <;> omega) | fail) only [TQ.down,resE,oneV, ↓reduceIte,reduceCtorEq,uB,uE,uL,uA,uM,uS,uN,uX,uO,vR,vD,vL,vK,vE,vA,vM,vT,vS]
 have nA : ((h1.new (Blk.cells (cC 0 czz) 0 false)).put h1.next (some (Blk.cells (cC b.last.fst b.last.snd) 0 false))).next = h1.next + 1 := by simp (maxSteps := 2000000) (implicitDefEqProofs := false) (disch := first | omega | (simp only [SD.down,uA,uL] <;> omega) | fail) only [TQ.down,resE,oneV, ↓reduceIte,reduceCtorEq,uB,uE,uL,uA,uM,uS,uN,uX,uO,vR,vD,vL,vK,vE,vA,vM,vT,vS]
 generalize ((h1.new (Blk.cells (cC 0 czz) 0 false)).put h1.next (some (Blk.cells (cC b.last.fst b.last.snd) 0 false))) = HA at kA gA nA ⊢
 have TI : ∀ {hh : Heap},Keeps h hh -> BusI hh c kb β cp ps b := fun k => T.I.keeps w.msl k (fun _ _ => rfl)
 have TJ : ∀ {hh : Heap},Keeps h hh -> RefB hh c kr ρ qs r := fun k => T.J.fr (K := fun _ => False) wr.msl (.of k) id (fun _ _ => id) (fun _ _ => rfl)
 have e1 := bus_count (d + 4) HA c kb β cp ps b (TI kA) w
 have e2 := bus_off (d + 4) HA c kb β cp ps b (TI kA)
 have e3 := bus_members (d + 4) HA c kb β cp ps b (TI kA) w
 obtain ⟨Mr,cx,stv2,lgv2,u1,v1,u2,v2,G1,G2,pl2,mm2,ce2,st2,lg2⟩ := TJ kA
 obtain ⟨lok,lsm,llen⟩ := lg2.ok
 have d1 : decide ((b.log.length : Int) = (r.log.length : Int)) = true := decide_eq_true (by rw [R.ll])
 have d2 : decide ((b.ms.length : Int) = (r.ms.length : Int)) = true := decide_eq_true (by rw [R.ml])
 obtain ⟨lv,K2,l2',m1,cm,gcx,hh2,cK2,hll2,hl2,h02⟩ := ce2
 have ro := R.off
 simp (maxSteps := 2000000) (implicitDefEqProofs := false) (disch := first | omega | (simp only [SD.down,uA,uL] <;> omega) | fail) only [e1,e2,e3,G1,lok,lsm,llen,lnc13e,lno13e,lncP,lnoP,lneP,d1,d2,ro,neq_bool,gA,hvcut,TQ.down,resE,oneV, ↓reduceIte,reduceCtorEq,uB,uE,uL,uA,uM,uS,uN,uX,uO,vR,vD,vL,vK,vE,vA,vM,vT,vS]
 refine G.callC (cc_read (d + 6) HA cx r.cell.1 r.cell.2 lv gcx wr.cell m1) ?_
 rintro v HB ⟨rfl,kB0⟩
 have kB := kA.trans kB0
 have dc := eq70c b.last.1 b.last.2 ct
 rw [<- R.cell]
 have gB := (kB0.2 ρ u1).trans G1
 have gAB := (kB0.2 h1.next (by omega)).trans gA
 simp (disch := omega) only [same_cC,dc,G1,gB,gAB,lok,lsm,neq_bool,bin_neq_agg,bin_eql_agg,gA,hvcut,TQ.down,resE,oneV, ↓reduceIte,reduceCtorEq,uB,uE,uL,uA,uM,vE]
 rw [run_loop]
 have ml := w.msl
 refine loop_ind (fun j σ hh => ∃ i,i + j = ps.length /\ σ 0 = .ptr β 0 /\ σ 1 = .eslice Lb 0 0 ps.length /\ σ 3 = .ptr ρ 0 /\ σ 11 = .int .i64 (i : Int) /\ Keeps h hh) ?_ ?_ ps.length _ _ _ (by simp; omega) ?_
 ·rintro mm σ hh ⟨i,hi,s0,s1,s3,s11,kh⟩
  have di : decide ((i : Int) < (ps.length : Int)) = false := decide_eq_false (by omega)
  simp (disch := first | omega | (simp only [SD.down,uA,uL] <;> omega) | fail) only [run_it,s0,s1,s3,s11,lncL,lnoL,lneL,di,env_P,env_L,TQ.down,resE,oneV, ↓reduceIte,reduceCtorEq,uB,uE,uL,uA,uM,uS,vL,vK,vE,vA,vS]
  subst hX
  exact G.ok ⟨rfl,kh⟩
 ·rintro j mm σ hh ⟨i,hi,s0,s1,s3,s11,kh⟩ ih
  have di : decide ((i : Int) < (ps.length : Int)) = true := decide_eq_true (by omega)
  by_cases h8 : 8 <= i
  ·have d8 : decide ((i : Int) < 8) = false := decide_eq_false (by omega)
   simp (disch := first | omega | (simp only [SD.down,uA,uL] <;> omega) | fail) only [run_it,s0,s1,s3,s11,lncL,lnoL,lneL,di,d8,env_P,env_L,TQ.down,resE,oneV, ↓reduceIte,reduceCtorEq,uB,uE,uL,uA,uM,uS,vL,vK,vE,vA,vS]
   subst hX
   exact G.ok ⟨rfl,kh⟩
  have d8 : decide ((i : Int) < 8) = true := decide_eq_true (by omega)
  obtain ⟨p,hp⟩ : ∃ p,ps[i]? = some p := ⟨_,List.getElem?_eq_getElem (by omega)⟩
  obtain ⟨S,hS⟩ : ∃ S,b.ms[i]? = some S := ⟨_,List.getElem?_eq_getElem (by omega)⟩
  have hir : i < r.ms.length := by have := R.ml; omega
  obtain ⟨X,hX2⟩ : ∃ X,r.ms[i]? = some X := ⟨_,List.getElem?_eq_getElem hir⟩
  obtain ⟨q,hq⟩ : ∃ q,qs[i]? = some q := ⟨_,List.getElem?_eq_getElem (by omega)⟩
  have hpm := ptrs_get hp
  have hqm := ptrs_get hq
  have MRi := R.ms i S X hS hX2
  have wS := w.ms S (List.mem_of_getElem? hS)
  have wX := wr.ms X (List.mem_of_getElem? hX2)
  have gL := (kh.2 Lb hLn).trans hL
  have hil : i < ps.length := by omega
  obtain ⟨Mr',cx',stv2',lgv2',u1',v1',u2',v2',G1',G2',pl2',mm2',ce2',st2',lg2'⟩ := TJ kh
  obtain ⟨_,_,_,_,_,_,_,_,_,_,_,mmI,_⟩ := TI kh
  have MI := mmI i p S hp hS
  obtain ⟨dv,lv',mv,w1,w2,gq,x1,x2,x3⟩ := id (mm2' i q X hq hX2)
  have gq0 := gq
  unfold refG at gq
  have e1 := bus_sec (d + 3) hh c kb β cp ps b (TI kh) w i S hS
  have e2 := m_touched (d + 4) hh c (kb + 2 + i) p S MI wS
  have e3 := m_unfl (d + 4) hh c (kb + 2 + i) p S MI wS
  have t1 : decide ((S.n : Int) = (X.n : Int)) = true := decide_eq_true (by rw [MRi.n])
  have t2 := MRi.hurt
  have t3 : decide ((S.lg.length : Int) = (X.lg.length : Int)) = true := decide_eq_true (by rw [MRi.lg])
  have len2 := x2.rw.len
  have ok2 := x2.rw.ok
  simp (disch := first | omega | (simp only [SD.down,uA,uL] <;> omega) | fail) only [run_it,s0,s1,s3,s11,lncL,lnoL,lneL,di,d8,G1',G2',gL,gq,hpm,hqm,hil,hir,e1,e2,e3,t1,t2,t3,neq_bool,len2,ok2.1,ok2.2,lncR,lnoR,lncP,lnoP,lneP,env_P,env_L,TQ.down,resE,oneV, ↓reduceIte,reduceCtorEq,uB,uE,uL,uA,uM,uS,vL,vK,vE,vA,vS]
  rw [run_loop]
  refine loop_ind (fun jj τ h2 => ∃ jq,jq + jj = 6 /\ τ 0 = .ptr β 0 /\ τ 1 = .eslice Lb 0 0 ps.length /\ τ 3 = .ptr ρ 0 /\ τ 11 = .int .i64 (i : Int) /\ τ 12 = .ptr q 0 /\ τ 13 = .int .i64 (jq : Int) /\ Keeps h h2) ?_ ?_ 6 _ _ _ (by simp) ?_
  ·rintro mm2 τ h2 ⟨jq,hj,t0,t1,t3,t11,t12,t13,k2⟩
   obtain rfl : jq = 6 := by omega
   obtain ⟨_,_,_,_,_,_,_,_,_,_,_,mm3,_⟩ := TJ k2
   obtain ⟨dv3,lv3,mv3,w31,w32,gq3,_⟩ := id (mm3 i q X hq hX2)
   unfold refG at gq3
   by_cases h6 : (6 : Int) < (X.n : Int)
   ·have d6 : decide ((6 : Int) < (X.n : Int)) = true := decide_eq_true h6
    simp (disch := first | omega | (simp only [SD.down,uA,uL] <;> omega) | fail) only [run_it,t0,t1,t3,t11,t12,t13,gq3,d6,env_P,env_L,TQ.down,resE,oneV, ↓reduceIte,reduceCtorEq,uB,uE,uL,uA,uM,uS,vL,vK,vE,vA,vS]
    exact ih _ _ ⟨i + 1,by omega,by simp (disch := omega) only [t0,TH.down,uA,uB],by simp (disch := omega) only [t1,TH.down,uA,uB],by simp (disch := omega) only [t3,TH.down,uA,uB],by simp (disch := omega) only [TH.down,uA,uB],k2⟩
   ·have d6 : decide ((6 : Int) < (X.n : Int)) = false := decide_eq_false h6
    simp (disch := first | omega | (simp only [SD.down,uA,uL] <;> omega) | fail) only [run_it,t0,t1,t3,t11,t12,t13,gq3,d6,env_P,env_L,TQ.down,resE,oneV, ↓reduceIte,reduceCtorEq,uB,uE,uL,uA,uM,uS,vL,vK,vE,vA,vS]
    exact ih _ _ ⟨i + 1,by omega,by simp (disch := omega) only [t0,TH.down,uA,uB],by simp (disch := omega) only [t1,TH.down,uA,uB],by simp (disch := omega) only [t3,TH.down,uA,uB],by simp (disch := omega) only [TH.down,uA,uB],k2⟩
  ·rintro jj mm2 τ h2 ⟨jq,hj,t0,t1,t3,t11,t12,t13,k2⟩ ih2
   obtain ⟨_,_,_,_,_,_,_,_,_,_,_,mm3,_⟩ := TJ k2
   have RX := mm3 i q X hq hX2
   obtain ⟨dv3,lv3,mv3,w31,w32,gq3,x31,_⟩ := id RX
   have gq30 := gq3
   unfold refG at gq3
   obtain ⟨_,_,_,_,_,_,_,_,_,_,_,mmI3,_⟩ := TI k2
   have MI3 := mmI3 i p S hp hS
   have d6 : decide ((jq : Int) < 6) = true := decide_eq_true (by omega)
   have gL2 := (k2.2 Lb hLn).trans hL
   by_cases hn : X.n <= jq
   ·have dn : decide ((jq : Int) < (X.n : Int)) = false := decide_eq_false (by omega)
    simp (disch := first | omega | (simp only [SD.down,uA,uL] <;> omega) | fail) only [run_it,t0,t1,t3,t11,t12,t13,gq3,d6,dn,env_P,env_L,TQ.down,resE,oneV, ↓reduceIte,reduceCtorEq,uB,uE,uL,uA,uM,uS,vL,vK,vE,vA,vS]
    exact ih _ _ ⟨i + 1,by omega,by simp (disch := omega) only [t0,TH.down,uA,uB],by simp (disch := omega) only [t1,TH.down,uA,uB],by simp (disch := omega) only [t3,TH.down,uA,uB],by simp (disch := omega) only [TH.down,uA,uB],k2⟩
   have dn : decide ((jq : Int) < (X.n : Int)) = true := decide_eq_true (by omega)
   simp (disch := first | omega | (simp only [SD.down,uA,uL] <;> omega) | fail) only [run_it,t0,t1,t3,t11,t12,t13,gq3,d6,dn,gL2,hpm,hil,env_P,env_L,TQ.down,resE,oneV, ↓reduceIte,reduceCtorEq,uB,uE,uL,uA,uM,uS,vL,vK,vE,vA,vS]
   refine G.call (m_look (d + 2) h2 c (kb + 2 + i) p S MI3 wS (jq : Int) (by omega) (by rw [MRi.n]; omega)) ?_
   rintro v h3 ⟨rfl,k3⟩
   have n3 := k3.1
   have n2 := k2.1
   have yl := mGet_len wS.dur (jq : Int)
   have yx := find_len (jq : Int) wX.dur
   have hsz := wX.sz
   have hNN := wr.N
   have dx := eq25 (mGet S.dur (jq : Int) zz) ((rFind X.dur (jq : Int)).getD zz) yl yx
   rw [decide_eq_true (show M (mGet S.dur (jq : Int) zz) = M ((rFind X.dur (jq : Int)).getD zz) from MRi.look (jq : Int))] at dx
   have hz := zz_len
   generalize mGet S.dur (jq : Int) zz = ys at yl dx ⊢
   simp (disch := first | omega | (simp only [SD.down,uA,uL] <;> omega) | fail) only [yl,hz,zz_fold,cutB_all,over_B,env_P,env_L,t0,t1,t3,t11,t12,t13,TQ.down,resE,oneV, ↓reduceIte,reduceCtorEq,uB,uE,uL,uA,uM,uS,vL,vK,vE,vA,vS]
   have kL : Keeps h3 ((h3.new (Blk.cells (B zz) 0 false)).put h3.next (some (Blk.cells (B ys) 0 false))) := ⟨by simp (disch := omega) only [TH.down,uA,uB]; omega,fun j hj => by simp (disch := omega) only [TH.down,uA,uB]⟩
   have gS : ((h3.new (Blk.cells (B zz) 0 false)).put h3.next (some (Blk.cells (B ys) 0 false))).get h3.next = some (Blk.cells (B ys) 0 false) := by simp (disch := omega) only [TH.down,uA,uB]
   have nL : ((h3.new (Blk.cells (B zz) 0 false)).put h3.next (some (Blk.cells (B ys) 0 false))).next = h3.next + 1 := by simp (disch := omega) only [TH.down,uA,uB]
   generalize ((h3.new (Blk.cells (B zz) 0 false)).put h3.next (some (Blk.cells (B ys) 0 false))) = HL at kL gS nL ⊢
   have k23 := k3.trans kL
   refine G.call (r_look (d + 3) HL q X.n dv3 lv3 mv3 X.fails X.hurt X.dur (jq : Int) ((k23.2 q w31).trans gq30) wX.dur (by omega) ((x31.rw).keep k23) (by omega)) ?_
   rintro v h5 ⟨rfl,k5⟩
   rw [if_neg (by omega)]
   have n5 := k5.1
   have gS5 := (k5.2 h3.next (by omega)).trans gS
   generalize (rFind X.dur (jq : Int)).getD zz = xs at yx dx ⊢
   simp (disch := first | omega | (simp only [SD.down,uA,uL] <;> omega) | fail) only [yl,yx,gS5,dx,bin_neq_agg,bin_eql_agg,hz,zz_fold,cutB_all,over_B,env_P,env_L,t0,t1,t3,t11,t12,t13,TQ.down,resE,oneV, ↓reduceIte,reduceCtorEq,uB,uE,uL,uA,uM,uS,vL,vK,vE,vA,vS]
   have kfin : Keeps h ((h5.new (Blk.cells (B zz) 0 false)).put h5.next (some (Blk.cells (B xs) 0 false))) := (k2.trans (k23.trans k5)).trans ⟨by simp (disch := omega) only [TH.down,uA,uB]; omega,fun j hj => by simp (disch := omega) only [TH.down,uA,uB]⟩
   exact ih2 _ _ ⟨jq + 1,by omega,by simp (disch := omega) only [t0,TH.down,uA,uB],by simp (disch := omega) only [t1,TH.down,uA,uB],by simp (disch := omega) only [t3,TH.down,uA,uB],by simp (disch := omega) only [t11,TH.down,uA,uB],by simp (disch := omega) only [t12,TH.down,uA,uB],by simp (disch := omega) only [TH.down,uA,uB],kfin⟩
  ·exact ⟨0,by omega,by simp (disch := omega) only [s0,TH.down,uA,uB],by simp (disch := omega) only [s1,TH.down,uA,uB],by simp (disch := omega) only [s3,TQ.down,resE,oneV, ↓reduceIte,reduceCtorEq,uB,uE,uL,uA,uM,vE],by simp (disch := omega) only [s11,TQ.down,resE,oneV, ↓reduceIte,reduceCtorEq,uB,uE,uL,uA,uM,vE],by simp (disch := omega) only [TQ.down,resE,oneV, ↓reduceIte,reduceCtorEq,uB,uE,uL,uA,uM,vE],by simp (disch := omega) only [TQ.down,resE,oneV, ↓reduceIte,reduceCtorEq,uB,uE,uL,uA,uM,vE],kh⟩
 ·exact ⟨0,by omega,by simp (disch := omega) only [TQ.down,resE,oneV, ↓reduceIte,reduceCtorEq,uB,uE,uL,uA,uM,vE],by simp (disch := omega) only [TQ.down,resE,oneV, ↓reduceIte,reduceCtorEq,uB,uE,uL,uA,uM,vE],by simp (disch := omega) only [TQ.down,resE,oneV, ↓reduceIte,reduceCtorEq,uB,uE,uL,uA,uM,vE],by simp (disch := omega) only [TQ.down,resE,oneV, ↓reduceIte,reduceCtorEq,uB,uE,uL,uA,uM,vE],kB⟩
end Go.Proofs.Ytfjcfjfgamajkaa
