/- Of this program, for all inputs: contracts. No condition but those in the theorems. -/
import Derived.Test.YtlnepbkeiianmaaGB
namespace Go.Proofs.Ytlnepbkeiianmaa
open Go Go.Ai Go.Aw Go.Proofs
open Nat renaming reduceBEq -> uB,reduceEqDiff -> uE,reduceLT -> uL,reduceAdd -> uA,reduceMul -> uM,reduceSub -> uS,reduceAnd -> uN,reduceXor -> uX,reduceOr -> uO
open Int renaming reduceMod -> vR,reduceDiv -> vD,reduceLT -> vL,reduceLE -> vK,reduceEq -> vE,reduceAdd -> vA,reduceMul -> vM,reduceToNat -> vT,reduceSub -> vS
set_option linter.unusedSimpArgs false
set_option linter.unusedVariables false
set_option maxRecDepth 10000
theorem ioR_steps (b : BS) (t : Ent) (act : BS -> Int × List Nat × BS) (h : (act b.ahead).2.2.steps = b.steps) : (b.ioR t act).2.steps = b.steps := by
 have ha : b.ahead.steps = b.steps := (aheadL_steps _ _ _).1
 unfold BS.ioR
 simp only
 split
 ·exact ha
 ·exact h
theorem atAct_steps (t : Ent) (am : MS -> Int × List Nat × MS) (b : BS) : (atAct t am b).2.2.steps = b.steps := by
 unfold atAct
 split
 ·rfl
 ·split <;> rfl
theorem ahead_steps (b : BS) : b.ahead.steps = b.steps := (aheadL_steps _ _ _).1
theorem BS.write_steps (b : BS) (m i : Int) (s : List Nat) : (b.write m i s).2.steps = b.steps := ioR_steps _ _ _ ((atAct_steps _ _ _).trans (ahead_steps b))
theorem BS.flush_steps (b : BS) (m : Int) : (b.flush m).2.steps = b.steps := ioR_steps _ _ _ ((atAct_steps _ _ _).trans (ahead_steps b))
theorem BS.read_steps (b : BS) (m i : Int) : (b.read m i).2.steps = b.steps := ioR_steps _ _ _ ((atAct_steps _ _ _).trans (ahead_steps b))
theorem ioR_ms (b : BS) (t : Ent) (act : BS -> Int × List Nat × BS) (h : (act b.ahead).2.2.ms.length = b.ms.length) : (b.ioR t act).2.ms.length = b.ms.length := by
 have ha : b.ahead.ms.length = b.ms.length := (aheadL_steps _ _ _).2.2.2
 unfold BS.ioR
 simp only
 split
 ·exact ha
 ·exact h
theorem atAct_ms (t : Ent) (am : MS -> Int × List Nat × MS) (b : BS) : (atAct t am b).2.2.ms.length = b.ms.length := by
 unfold atAct
 split
 ·rfl
 ·split <;> simp
theorem ahead_ms (b : BS) : b.ahead.ms.length = b.ms.length := (aheadL_steps _ _ _).2.2.2
theorem BS.write_ms (b : BS) (m i : Int) (s : List Nat) : (b.write m i s).2.ms.length = b.ms.length := ioR_ms _ _ _ ((atAct_ms _ _ _).trans (ahead_ms b))
theorem BS.flush_ms (b : BS) (m : Int) : (b.flush m).2.ms.length = b.ms.length := ioR_ms _ _ _ ((atAct_ms _ _ _).trans (ahead_ms b))
theorem BS.read_ms (b : BS) (m i : Int) : (b.read m i).2.ms.length = b.ms.length := ioR_ms _ _ _ ((atAct_ms _ _ _).trans (ahead_ms b))
def jW (m : Int) (at_ : Nat -> Int) : Nat -> List (List Nat) -> BS -> Int × BS
 | _,[],b => (0,b)
 | i,s :: r,b => if (b.write m (at_ i) s).1.e = 0 then jW m at_ (i + 1) r (b.write m (at_ i) s).2 else ((b.write m (at_ i) s).1.e,(b.write m (at_ i) s).2)
def jPut1 (m : Int) (at_ : Nat -> Int) (L : List (List Nat)) (b : BS) : Int × BS := if (jW m at_ 0 L b).1 = 0 then (((jW m at_ 0 L b).2.flush m).1.e,((jW m at_ 0 L b).2.flush m).2) else jW m at_ 0 L b
def SecI (h : Heap) (c : Col) (v : AV) (L : List (List Nat)) : Prop := (L = [] /\ v = .nilslice) \/ ∃ K,v = .eslice K 0 0 L.length /\ K < h.next /\ c K = 0 /\ h.get K = some (.cells (flB L) 64 false)
theorem SecI.ok {h : Heap} {c : Col} {v : AV} {L : List (List Nat)} (x : SecI h c v L) : okv v = some v /\ AV.same v v = true /\ lenE Try.prog 90 v = some (.int .i64 (L.length : Int)) := by
 rcases x with ⟨rfl,rfl⟩ | ⟨K,rfl,_⟩
 ·exact ⟨rfl,rfl,len_nilslice Try.underlying90⟩
 ·exact ⟨rfl,same_eslice ..,len_eslice Try.underlying90 ..⟩
abbrev SAll (d kb β cp : Nat) (ps : List Nat) (st : List Stp) : Prop := ∀ b : BS,b.steps = st -> StepOk d b kb β cp ps
theorem busK_0 {kb : Nat} (h : 10 <= kb) : ¬ busK kb 0 := by unfold busK; omega
set_option maxHeartbeats 4000000 in
theorem put1_ok (d : Nat) (h : Heap) (c : Col) (kb β cp : Nat) (ps : List Nat) (b : BS) (m r hf mem : Int) (lv : AV) (L : List (List Nat)) (kb10 : 10 <= kb) (I : BusI h c kb β cp ps b) (w : BOk b) (hg : gOk m r = true) (h0 : 0 <= hf) (h1 : hf <= 1) (hL : SecI h c lv L) (hl : ∀ s ∈ L,s.length = 64) (hlen : L.length <= gHalf m r) (hlog : b.log.length + L.length < 3980) (hst : SAll (d + 1) kb β cp ps b.steps) :
  G (callD env (d + 12) 27 [.agg (plC β m r hf), .int .i64 mem,lv] h) fun v h' => ∃ C',v = .int .i64 (jPut1 mem (jPos m r hf) L b).1 /\ BusI h' C' kb β cp ps (jPut1 mem (jPos m r hf) L b).2 /\ Fr (busK kb) c h h' /\ ∀ j,j < h.next -> C' j = c j := by
 refine G.gen fun Q hX => ?_
 have hH := gHalf_le m r
 have k0 := busK_0 kb10
 obtain ⟨lo,ls,ll⟩ := hL.ok
 unfold plC
 rw [callD_run (E := env) [(4, .fl [(1,0,1),(6,0,1)])] (by kernel_rfl) Try.func27 rfl (by rw [Try.ntmps27]; simp) (by kernel_rfl)]; simp (maxSteps := 2000000) (implicitDefEqProofs := false) (disch := first | omega | (simp only [SD.down,uA,uL] <;> omega) | fail) only [Try.ntmps27,Try.results27,env_P,env_L,lo,ls,ll,TQ.down,resE,oneV, ↓reduceIte,reduceCtorEq,uB,uE,uL,uA,uM,uS,uN,uX,uO,vR,vD,vL,vK,vE,vA,vM,vT,vS]
 rw [run_loop]
 refine loop_ind (fun j σ hh => ∃ (q : Nat) (bb : BS) (C : Col),q + j = L.length /\ σ 1 = .int .i64 mem /\ σ 3 = .ptr h.next 0 /\ σ 10 = lv /\ σ 11 = .int .i64 (L.length : Int) /\ σ 12 = .int .i64 (q : Int) /\ BusI hh C kb β cp ps bb /\ BOk bb /\ bb.steps = b.steps /\ bb.log.length = b.log.length + q /\ jW mem (jPos m r hf) 0 L b = jW mem (jPos m r hf) q (L.drop q) bb /\ hh.get h.next = some (.cells [.ptr β 0, .int .i64 m, .int .i64 r, .int .i64 hf] 0 false) /\ h.next < hh.next /\ C h.next = 0 /\ Fr (busK kb) c h hh /\ ∀ j,j < h.next -> C j = c j) ?_ ?_ L.length _ _ _ (by simp; omega) ?_
 ·rintro mm σ hh ⟨q,bb,C,hq,s1,s3,s10,s11,s12,I1,w1,e1,e2,e3,g0,gn,c0,fr,hC⟩
  obtain rfl : q = L.length := by omega
  simp (maxSteps := 2000000) (implicitDefEqProofs := false) (disch := first | omega | (simp only [SD.down,uA,uL] <;> omega) | fail) only [run_it,s1,s3,s10,s11,s12,g0,env_P,env_L,TQ.down,resE,oneV, ↓reduceIte,reduceCtorEq,uB,uE,uL,uA,uM,uS,uN,uX,uO,vR,vD,vL,vK,vE,vA,vM,vT,vS]
  first | refine G.call (bus_flush d hh C kb β cp ps bb mem kb10 I1 w1.w (hst bb e1)) ?_ | refine G.callC (bus_flush d hh C kb β cp ps bb mem kb10 I1 w1.w (hst bb e1)) ?_ | refine G.callL (bus_flush d hh C kb β cp ps bb mem kb10 I1 w1.w (hst bb e1)) ?_
  rintro v h2 ⟨C2,rfl,I2,fr2,hC2⟩
  have eW : jW mem (jPos m r hf) 0 L b = (0,bb) := by rw [e3,List.drop_of_length_le (Nat.le_refl _)]; rfl
  have eP : jPut1 mem (jPos m r hf) L b = ((bb.flush mem).1.e,(bb.flush mem).2) := by unfold jPut1; rw [eW]; rfl
  rw [eP] at hX
  simp (maxSteps := 2000000) (implicitDefEqProofs := false) (disch := first | omega | (simp only [SD.down,uA,uL] <;> omega) | fail) only [s1,s3,s10,s11,s12,env_P,env_L,TQ.down,resE,oneV, ↓reduceIte,reduceCtorEq,uB,uE,uL,uA,uM,uS,uN,uX,uO,vR,vD,vL,vK,vE,vA,vM,vT,vS]
  subst hX
  exact G.ok ⟨C2,rfl,I2,fr.trans fr2 hC,fun j hj => (hC2 j (by have := fr.le; omega)).trans (hC j hj)⟩
 ·rintro j mm σ hh ⟨q,bb,C,hq,s1,s3,s10,s11,s12,I1,w1,e1,e2,e3,g0,gn,c0,fr,hC⟩ ih
  have hql : q < L.length := by omega
  have hle := fr.le
  rcases hL with ⟨x0,_⟩ | ⟨K,rfl,K1,K2,gK⟩
  ·rw [x0] at hql; simp at hql
  obtain ⟨s,hs⟩ : ∃ s,L[q]? = some s := ⟨L[q]'hql,List.getElem?_eq_getElem hql⟩
  have hsl := hl s (List.mem_of_getElem? hs)
  have gL : hh.get K = some (.cells (flB L) 64 false) := (fr.get K K1 (by rw [K2]; exact k0)).trans gK
  have cL : cutE (q * 64) 64 (flB L) = some (B s) := flat_cut B 64 L q s (fun x hx => by rw [B_len,hl x hx]) hs
  have hzz := zz_len
  have hdr : L.drop q = s :: L.drop (q + 1) := drop_get hs
  have hsc := same_agg (B s)
  simp (maxSteps := 2000000) (implicitDefEqProofs := false) (disch := first | omega | (simp only [SD.down,uA,uL] <;> omega) | fail) only [run_it,s1,s3,s10,s11,s12,g0,gL,cL,hql,zz_fold,hsl,hzz,cutB_all,over_B,env_P,env_L,TQ.down,resE,oneV, ↓reduceIte,reduceCtorEq,uB,uE,uL,uA,uM,uS,uN,uX,uO,vR,vD,vL,vK,vE,vA,vM,vT,vS]
  first | refine G.call (at_ok (d + 1) _ β m r hf hg h0 h1 q (by omega)) ?_ | refine G.callC (at_ok (d + 1) _ β m r hf hg h0 h1 q (by omega)) ?_ | refine G.callL (at_ok (d + 1) _ β m r hf hg h0 h1 q (by omega)) ?_
  rintro v h2 ⟨rfl,k1⟩
  have kp1 : Keeps hh h2 := k1.pre (by simp (maxSteps := 2000000) (implicitDefEqProofs := false) (disch := first | omega | (simp only [SD.down,uA,uL] <;> omega) | fail) only [TQ.down,resE,oneV, ↓reduceIte,reduceCtorEq,uB,uE,uL,uA,uM,uS,uN,uX,uO,vR,vD,vL,vK,vE,vA,vM,vT,vS] <;> omega) (fun j hj => by simp (maxSteps := 2000000) (implicitDefEqProofs := false) (disch := first | omega | (simp only [SD.down,uA,uL] <;> omega) | fail) only [TQ.down,resE,oneV, ↓reduceIte,reduceCtorEq,uB,uE,uL,uA,uM,uS,uN,uX,uO,vR,vD,vL,vK,vE,vA,vM,vT,vS])
  have n1 := k1.1
  simp (maxSteps := 2000000) (implicitDefEqProofs := false) (disch := first | omega | (simp only [SD.down,uA,uL] <;> omega) | fail) only [TQ.down,resE,oneV, ↓reduceIte,reduceCtorEq,uB,uE,uL,uA,uM,uS,uN,uX,uO,vR,vD,vL,vK,vE,vA,vM,vT,vS] at n1
  have g0' := kp1.at gn g0
  have g8 : h2.get hh.next = some (.cells (B s) 0 false) := by rw [k1.2 _ (by simp (maxSteps := 2000000) (implicitDefEqProofs := false) (disch := first | omega | (simp only [SD.down,uA,uL] <;> omega) | fail) only [TQ.down,resE,oneV, ↓reduceIte,reduceCtorEq,uB,uE,uL,uA,uM,uS,uN,uX,uO,vR,vD,vL,vK,vE,vA,vM,vT,vS] <;> omega)]; simp (maxSteps := 2000000) (implicitDefEqProofs := false) (disch := first | omega | (simp only [SD.down,uA,uL] <;> omega) | fail) only [TQ.down,resE,oneV, ↓reduceIte,reduceCtorEq,uB,uE,uL,uA,uM,uS,uN,uX,uO,vR,vD,vL,vK,vE,vA,vM,vT,vS]
  have g0x : ((hh.new (Blk.cells (B zz) 0 false)).put hh.next (some (Blk.cells (B s) 0 false))).get h.next = some (.cells [.ptr β 0, .int .i64 m, .int .i64 r, .int .i64 hf] 0 false) := by simp (maxSteps := 2000000) (implicitDefEqProofs := false) (disch := first | omega | (simp only [SD.down,uA,uL] <;> omega) | fail) only [TQ.down,resE,oneV, ↓reduceIte,reduceCtorEq,uB,uE,uL,uA,uM,uS,uN,uX,uO,vR,vD,vL,vK,vE,vA,vM,vT,vS]; exact g0
  have g8x : ((hh.new (Blk.cells (B zz) 0 false)).put hh.next (some (Blk.cells (B s) 0 false))).get hh.next = some (.cells (B s) 0 false) := by simp (maxSteps := 2000000) (implicitDefEqProofs := false) (disch := first | omega | (simp only [SD.down,uA,uL] <;> omega) | fail) only [TQ.down,resE,oneV, ↓reduceIte,reduceCtorEq,uB,uE,uL,uA,uM,uS,uN,uX,uO,vR,vD,vL,vK,vE,vA,vM,vT,vS]
  have sB := same_B s
  simp (maxSteps := 2000000) (implicitDefEqProofs := false) (disch := first | omega | (simp only [SD.down,uA,uL] <;> omega) | fail) only [s1,s3,s10,s11,s12,g0',g8,hsl,cutB_all,env_P,env_L,TQ.down,resE,oneV, ↓reduceIte,reduceCtorEq,uB,uE,uL,uA,uM,uS,uN,uX,uO,vR,vD,vL,vK,vE,vA,vM,vT,vS]
  have ce1 : ∀ j,j < hh.next -> pnt C hh.next 0 j = C j := fun j hj => pnt_lt hj
  first | refine G.call (bus_write d h2 (pnt C hh.next 0) kb β cp ps bb mem (jPos m r hf q) s hsl kb10 (I1.keeps w1.w.msl kp1 ce1) w1.w w1.lg (by omega) (hst bb e1)) ?_ | refine G.callC (bus_write d h2 (pnt C hh.next 0) kb β cp ps bb mem (jPos m r hf q) s hsl kb10 (I1.keeps w1.w.msl kp1 ce1) w1.w w1.lg (by omega) (hst bb e1)) ?_ | refine G.callL (bus_write d h2 (pnt C hh.next 0) kb β cp ps bb mem (jPos m r hf q) s hsl kb10 (I1.keeps w1.w.msl kp1 ce1) w1.w w1.lg (by omega) (hst bb e1)) ?_
  rintro v h3 ⟨C3,rfl,I3,fr3,hC3⟩
  have fr13 : Fr (busK kb) C hh h3 := (Fr.of (K := busK kb) (c := C) kp1).trans fr3 ce1
  have n3 := fr13.le
  have hC' : ∀ j,j < hh.next -> C3 j = C j := fun j hj => (hC3 j (by omega)).trans (ce1 j hj)
  have g03 := (fr13.get _ gn (by rw [c0]; exact k0)).trans g0
  obtain ⟨w3,l3⟩ := w1.write (by omega) mem (jPos m r hf q) s hsl
  have e13 := (BS.write_steps bb mem (jPos m r hf q) s).trans e1
  have eW : jW mem (jPos m r hf) q (L.drop q) bb = if (bb.write mem (jPos m r hf q) s).1.e = 0 then jW mem (jPos m r hf) (q + 1) (L.drop (q + 1)) (bb.write mem (jPos m r hf q) s).2 else ((bb.write mem (jPos m r hf q) s).1.e,(bb.write mem (jPos m r hf q) s).2) := by rw [hdr]; rfl
  rw [eW] at e3
  generalize (bb.write mem (jPos m r hf q) s).1.e = E at *
  generalize (bb.write mem (jPos m r hf q) s).2 = b3 at *
  by_cases hE : E = 0
  ·subst hE
   rw [if_pos rfl] at e3
   simp (maxSteps := 2000000) (implicitDefEqProofs := false) (disch := first | omega | (simp only [SD.down,uA,uL] <;> omega) | fail) only [run_it,s1,s3,s10,s11,s12,g0x,g8x,g0',g8,hsl,cutB_all,sB,sg88,env_P,env_L,TQ.down,resE,oneV, ↓reduceIte,reduceCtorEq,uB,uE,uL,uA,uM,uS,uN,uX,uO,vR,vD,vL,vK,vE,vA,vM,vT,vS]
   exact ih _ _ ⟨q + 1,b3,C3,by omega,by simp (maxSteps := 2000000) (implicitDefEqProofs := false) (disch := first | omega | (simp only [SD.down,uA,uL] <;> omega) | fail) only [s1,TQ.down,resE,oneV, ↓reduceIte,reduceCtorEq,uB,uE,uL,uA,uM,uS,uN,uX,uO,vR,vD,vL,vK,vE,vA,vM,vT,vS],by simp (maxSteps := 2000000) (implicitDefEqProofs := false) (disch := first | omega | (simp only [SD.down,uA,uL] <;> omega) | fail) only [s3,TQ.down,resE,oneV, ↓reduceIte,reduceCtorEq,uB,uE,uL,uA,uM,uS,uN,uX,uO,vR,vD,vL,vK,vE,vA,vM,vT,vS],by simp (maxSteps := 2000000) (implicitDefEqProofs := false) (disch := first | omega | (simp only [SD.down,uA,uL] <;> omega) | fail) only [s10,TQ.down,resE,oneV, ↓reduceIte,reduceCtorEq,uB,uE,uL,uA,uM,uS,uN,uX,uO,vR,vD,vL,vK,vE,vA,vM,vT,vS],by simp (maxSteps := 2000000) (implicitDefEqProofs := false) (disch := first | omega | (simp only [SD.down,uA,uL] <;> omega) | fail) only [s11,TQ.down,resE,oneV, ↓reduceIte,reduceCtorEq,uB,uE,uL,uA,uM,uS,uN,uX,uO,vR,vD,vL,vK,vE,vA,vM,vT,vS],by simp (maxSteps := 2000000) (implicitDefEqProofs := false) (disch := first | omega | (simp only [SD.down,uA,uL] <;> omega) | fail) only [TQ.down,resE,oneV, ↓reduceIte,reduceCtorEq,uB,uE,uL,uA,uM,uS,uN,uX,uO,vR,vD,vL,vK,vE,vA,vM,vT,vS],I3,w3,e13,by omega,e3,g03,by omega,(hC' _ gn).trans c0,fr.trans fr13 hC,fun j hj => (hC' j (by omega)).trans (hC j hj)⟩
  ·rw [if_neg hE] at e3
   have eP : jPut1 mem (jPos m r hf) L b = (E,b3) := by unfold jPut1; rw [e3]; exact if_neg hE
   rw [eP] at hX
   simp (maxSteps := 2000000) (implicitDefEqProofs := false) (disch := first | omega | (simp only [SD.down,uA,uL] <;> omega) | fail) only [run_it,s1,s3,s10,s11,s12,g0x,g8x,g0',g8,hsl,cutB_all,sB,sg88,env_P,env_L,TQ.down,resE,oneV, ↓reduceIte,reduceCtorEq,uB,uE,uL,uA,uM,uS,uN,uX,uO,vR,vD,vL,vK,vE,vA,vM,vT,vS]
   subst hX
   exact G.ok ⟨C3,rfl,I3,fr.trans fr13 hC,fun j hj => (hC' j (by omega)).trans (hC j hj)⟩
 ·exact ⟨0,b,pnt c h.next 0,by omega,by simp (maxSteps := 2000000) (implicitDefEqProofs := false) (disch := first | omega | (simp only [SD.down,uA,uL] <;> omega) | fail) only [TQ.down,resE,oneV, ↓reduceIte,reduceCtorEq,uB,uE,uL,uA,uM,uS,uN,uX,uO,vR,vD,vL,vK,vE,vA,vM,vT,vS],by simp (maxSteps := 2000000) (implicitDefEqProofs := false) (disch := first | omega | (simp only [SD.down,uA,uL] <;> omega) | fail) only [TQ.down,resE,oneV, ↓reduceIte,reduceCtorEq,uB,uE,uL,uA,uM,uS,uN,uX,uO,vR,vD,vL,vK,vE,vA,vM,vT,vS],by simp (maxSteps := 2000000) (implicitDefEqProofs := false) (disch := first | omega | (simp only [SD.down,uA,uL] <;> omega) | fail) only [TQ.down,resE,oneV, ↓reduceIte,reduceCtorEq,uB,uE,uL,uA,uM,uS,uN,uX,uO,vR,vD,vL,vK,vE,vA,vM,vT,vS],by simp (maxSteps := 2000000) (implicitDefEqProofs := false) (disch := first | omega | (simp only [SD.down,uA,uL] <;> omega) | fail) only [TQ.down,resE,oneV, ↓reduceIte,reduceCtorEq,uB,uE,uL,uA,uM,uS,uN,uX,uO,vR,vD,vL,vK,vE,vA,vM,vT,vS],by simp (maxSteps := 2000000) (implicitDefEqProofs := false) (disch := first | omega | (simp only [SD.down,uA,uL] <;> omega) | fail) only [TQ.down,resE,oneV, ↓reduceIte,reduceCtorEq,uB,uE,uL,uA,uM,uS,uN,uX,uO,vR,vD,vL,vK,vE,vA,vM,vT,vS],I.keeps w.w.msl ((Keeps.refl h).post (by simp (maxSteps := 2000000) (implicitDefEqProofs := false) (disch := first | omega | (simp only [SD.down,uA,uL] <;> omega) | fail) only [TQ.down,resE,oneV, ↓reduceIte,reduceCtorEq,uB,uE,uL,uA,uM,uS,uN,uX,uO,vR,vD,vL,vK,vE,vA,vM,vT,vS] <;> omega) (fun j hj => by simp (maxSteps := 2000000) (implicitDefEqProofs := false) (disch := first | omega | (simp only [SD.down,uA,uL] <;> omega) | fail) only [TQ.down,resE,oneV, ↓reduceIte,reduceCtorEq,uB,uE,uL,uA,uM,uS,uN,uX,uO,vR,vD,vL,vK,vE,vA,vM,vT,vS])) (fun j hj => pnt_lt hj),w,rfl,rfl,rfl,by simp (maxSteps := 2000000) (implicitDefEqProofs := false) (disch := first | omega | (simp only [SD.down,uA,uL] <;> omega) | fail) only [TQ.down,resE,oneV, ↓reduceIte,reduceCtorEq,uB,uE,uL,uA,uM,uS,uN,uX,uO,vR,vD,vL,vK,vE,vA,vM,vT,vS],by simp (maxSteps := 2000000) (implicitDefEqProofs := false) (disch := first | omega | (simp only [SD.down,uA,uL] <;> omega) | fail) only [TQ.down,resE,oneV, ↓reduceIte,reduceCtorEq,uB,uE,uL,uA,uM,uS,uN,uX,uO,vR,vD,vL,vK,vE,vA,vM,vT,vS] <;> omega,pnt_ge (Nat.le_refl _), .of ((Keeps.refl h).post (by simp (maxSteps := 2000000) (implicitDefEqProofs := false) (disch := first | omega | (simp only [SD.down,uA,uL] <;> omega) | fail) only [TQ.down,resE,oneV, ↓reduceIte,reduceCtorEq,uB,uE,uL,uA,uM,uS,uN,uX,uO,vR,vD,vL,vK,vE,vA,vM,vT,vS] <;> omega) (fun j hj => by simp (maxSteps := 2000000) (implicitDefEqProofs := false) (disch := first | omega | (simp only [SD.down,uA,uL] <;> omega) | fail) only [TQ.down,resE,oneV, ↓reduceIte,reduceCtorEq,uB,uE,uL,uA,uM,uS,uN,uX,uO,vR,vD,vL,vK,vE,vA,vM,vT,vS])),fun j hj => pnt_lt hj⟩
end Go.Proofs.Ytlnepbkeiianmaa
namespace Go.Aw
open Go Go.Ai
set_option linter.unusedSimpArgs false
set_option linter.unusedVariables false
variable {P : Program} {h : Heap}
theorem app_e0 {T e s k n : Nat} {ie : TypeInfo} {zv : Value} (E : Elem P T e s ie zv) {old junk : List AV} (hk : h.get k = some (.cells (old ++ junk) (s + 1) false)) (ho : old.length = n * (s + 1)) (hn : n < 4096) :
  appE P T (.eslice k 0 0 n) .nilslice h = some (.eslice h.next 0 0 n,(h.put k none).new (.cells old (s + 1) false)) := by
 have hsm := small_ok E.small hn
 have hco : cutE 0 (n * (s + 1)) (old ++ junk) = some old := by
  rw [cutE_of (by rw [List.length_append,ho]; omega),List.drop_zero,<- ho,List.take_left]
 simp only [appE,appendK,unK_E,E.sl,th_some,E.info,E.zero,E.zsz,E.size,lenA,fN_eq,Nat.add_zero,hsm,firstK,hgetK_eq,hk,lcut_th,hco,llen_eq,List.length_nil,Nat.zero_add,Nat.zero_mul,Nat.beq_refl,lsc,Bool.and_self,growK,lapp_eq,List.append_nil,dropK_E,newK_E,p2]
 rfl
theorem Own.mono {s n0 n1 n : Nat} {v : AV} {cs : List AV} (x : Own s n0 h v cs n) (hn : n1 <= n0) : Own s n1 h v cs n := by
 rcases x with x | ⟨K,rfl,h1,h2⟩
 ·exact .inl x
 ·exact .inr ⟨K,rfl,Nat.le_trans hn h1,h2⟩
theorem Own.cat {T e s n0 n1 n k : Nat} {ie : TypeInfo} {zv : Value} (E : Elem P T e s ie zv) {v u : AV} {cs ds : List AV} (x : Own (s + 1) n0 h v cs (n + 1)) (y : Own (s + 1) n1 h u ds k) (h0 : n0 <= h.next) (hn : n + 1 + k < 4095) (hs : allSc ds = true) :
  ∃ h',appE P T v u h = some (.eslice h.next 0 0 (n + 1 + k),h') /\ Own (s + 1) n0 h' (.eslice h.next 0 0 (n + 1 + k)) (cs ++ ds) (n + 1 + k) /\ h'.next = h.next + 1 /\ ∀ j,j < h.next -> blkE v ≠ some j -> h'.get j = h.get j := by
 rcases y with ⟨rfl,rfl,rfl⟩ | ⟨K,rfl,y1,y2,y3,y4,y5⟩
 ·rcases x with ⟨x0,_⟩ | ⟨K,rfl,h1,h2,h3,h4,h5⟩
  ·omega
  ·have h3' : h.get K = some (.cells (cs ++ []) (s + 1) false) := by rw [List.append_nil]; exact h3
   refine ⟨_,app_e0 E h3' h4 (by omega), .inr ⟨_,rfl,h0, ?_, ?_, ?_,by omega⟩, ?_,fun j hj hb => ?_⟩
   ·rw [next_new,next_put]; omega
   ·have : h.next = (h.put K none).next := by rw [next_put]
    rw [this,get_new_same,List.append_nil]
   ·rw [List.append_nil,h4]
   ·rw [next_new,next_put]
   ·have hjK : j ≠ K := fun e => hb (by rw [e]; rfl)
    rw [get_new_ne (by rw [next_put]; omega),get_put_ne hjK]
 ·obtain ⟨m,rfl⟩ : ∃ m,k = m + 1 := ⟨k - 1,by omega⟩
  exact x.app2 E h0 (small_ok E.small (by omega)) y3 (cut_all (by rw [y4]; exact beq_self_eq_true _)) y4 hs
end Go.Aw
namespace Go.Proofs.Ytlnepbkeiianmaa
open Go Go.Ai Go.Aw Go.Proofs
open Nat renaming reduceBEq -> uB,reduceEqDiff -> uE,reduceLT -> uL,reduceAdd -> uA,reduceMul -> uM,reduceSub -> uS,reduceAnd -> uN,reduceXor -> uX,reduceOr -> uO
open Int renaming reduceMod -> vR,reduceDiv -> vD,reduceLT -> vL,reduceLE -> vK,reduceEq -> vE,reduceAdd -> vA,reduceMul -> vM,reduceToNat -> vT,reduceSub -> vS
set_option linter.unusedSimpArgs false
set_option linter.unusedVariables false
set_option maxRecDepth 10000
def jPutM (at_ : Nat -> Int) (L : List (List Nat)) : Nat -> Nat -> List Nat -> BS -> List Nat × Int × BS
 | 0,_,took,b => (took,0,b)
 | n + 1,mem,took,b => if (jPut1 mem at_ L b).1 = 0 then jPutM at_ L n (mem + 1) (took ++ [mem]) (jPut1 mem at_ L b).2 else if (jPut1 mem at_ L b).1 = 13 then ([],13,(jPut1 mem at_ L b).2) else jPutM at_ L n (mem + 1) took (jPut1 mem at_ L b).2
def jSecs (root body : List Nat) : List (List Nat) := secs root 2 ++ secs body (nsec body.length)
def jPut (b : BS) (m r hf : Int) (root body : List Nat) : List Nat × Int × BS :=
 if jOk b.ms.length m r hf = false then ([],2,b) else if root.length ≠ 128 then ([],2,b) else if (gHalf m r - 2) * 64 < body.length then ([],3,b) else jPutM (jPos m r hf) (jSecs root body) b.ms.length 0 [] b
theorem jW_keep (mem : Int) (at_ : Nat -> Int) : ∀ (L : List (List Nat)) (i : Nat) (b : BS),(∀ s ∈ L,s.length = 64) -> BOk b -> b.log.length + L.length < 3980 -> BOk (jW mem at_ i L b).2 /\ (jW mem at_ i L b).2.steps = b.steps /\ (jW mem at_ i L b).2.ms.length = b.ms.length /\ (jW mem at_ i L b).2.log.length <= b.log.length + L.length
 | [],i,b,_,w,_ => ⟨w,rfl,rfl,by simp [jW]⟩
 | s :: r,i,b,hl,w,hn => by
  obtain ⟨w1,l1⟩ := w.write (by simp at hn; omega) mem (at_ i) s (hl s (by simp))
  have e1 := BS.write_steps b mem (at_ i) s
  have e2 := BS.write_ms b mem (at_ i) s
  rw [jW]
  split
  ·obtain ⟨a1,a2,a3,a4⟩ := jW_keep mem at_ r (i + 1) (b.write mem (at_ i) s).2 (fun x hx => hl x (List.mem_cons_of_mem _ hx)) w1 (by simp at hn; omega)
   exact ⟨a1,a2.trans e1,a3.trans e2,by simp; omega⟩
  ·exact ⟨w1,e1,e2,by simp; omega⟩
theorem jPut1_keep (mem : Int) (at_ : Nat -> Int) (L : List (List Nat)) (b : BS) (hl : ∀ s ∈ L,s.length = 64) (w : BOk b) (hn : b.log.length + L.length < 3980) : BOk (jPut1 mem at_ L b).2 /\ (jPut1 mem at_ L b).2.steps = b.steps /\ (jPut1 mem at_ L b).2.ms.length = b.ms.length /\ (jPut1 mem at_ L b).2.log.length <= b.log.length + L.length + 1 := by
 obtain ⟨a1,a2,a3,a4⟩ := jW_keep mem at_ L 0 b hl w hn
 unfold jPut1
 split
 ·obtain ⟨w1,l1⟩ := a1.flush (by omega) mem
  exact ⟨w1,(BS.flush_steps _ _).trans a2,(BS.flush_ms _ _).trans a3,by simp only; omega⟩
 ·exact ⟨a1,a2,a3,by omega⟩
theorem secs_len (l : List Nat) (n : Nat) : (secs l n).length = n := by simp [secs]
theorem secs_64 {l : List Nat} {n : Nat} : ∀ s ∈ secs l n,s.length = 64 := by
 intro s hs
 obtain ⟨i,_,rfl⟩ := List.mem_map.1 hs
 exact pad64_len _
theorem flB_sc (L : List (List Nat)) : allSc (flB L) = true := allSc_flat B allSc_B L
theorem bsI (n : Nat) (h : Heap) : bsE Try.prog 34 1 [(0, .int .i64 (n : Int))] h = some (.slice h.next 0 1 1,h.new (.cells [.int .i64 (n : Int)] 0 false)) := bsE_of (fun K => rfl) h
theorem bldA (x : AV) (m r : Int) : ovN 2 1 [AV.int .i64 m,AV.int .i64 r] (x :: List.replicate 3 (AV.int .i64 0)) = some [x, .int .i64 m, .int .i64 r, .int .i64 0] := rfl
theorem bldB (x : AV) (m r hf : Int) : overE 3 [AV.int .i64 hf] [x, .int .i64 m, .int .i64 r, .int .i64 0] = some [x, .int .i64 m, .int .i64 r, .int .i64 hf] := rfl
set_option maxHeartbeats 4000000 in
theorem jput_ok (d : Nat) (h : Heap) (c : Col) (kb β cp : Nat) (ps : List Nat) (b : BS) (m r hf : Int) (rv bv : AV) (root body : List Nat) (kb10 : 10 <= kb) (I : BusI h c kb β cp ps b) (w : BOk b) (hr : ByR h rv root) (hb : ByR h bv body) (hrl : root.length <= 60000) (hbl : body.length <= 60000) (hlog : b.log.length + b.ms.length * (nsec body.length + 3) < 3980) (hst : SAll (d + 1) kb β cp ps b.steps) :
  G (callD env (d + 13) 8 [.ptr β 0,gA m r, .int .i64 hf,rv,bv] h) fun v h' => ∃ C' tv,v = .tup [tv, .int .i64 (jPut b m r hf root body).2.1] /\ Own 1 h.next h' tv (iA (jPut b m r hf root body).1) (jPut b m r hf root body).1.length /\ (∀ K,blkE tv = some K -> C' K = 0) /\ BusI h' C' kb β cp ps (jPut b m r hf root body).2.2 /\ Fr (busK kb) c h h' /\ ∀ j,j < h.next -> C' j = c j := by
 refine G.gen fun Q hX => ?_
 have hH := gHalf_le m r
 have k0 := busK_0 kb10
 obtain ⟨ro,rs,rl⟩ := hr.ok
 obtain ⟨bo,bs,bl⟩ := hb.ok
 have o4 : ∀ cs : List AV,cs.length = 4 -> True := fun _ _ => trivial
 unfold gA
 rw [callD_run (E := env) [] (by kernel_rfl) Try.func8 rfl (by rw [Try.ntmps8]; simp) (by kernel_rfl)]; simp (maxSteps := 2000000) (implicitDefEqProofs := false) (disch := first | omega | (simp only [SD.down,uA,uL] <;> omega) | fail) only [Try.ntmps8,Try.results8,env_P,env_L,ro,rs,bo,bs,bldA,bldB,TQ.down,resE,oneV, ↓reduceIte,reduceCtorEq,uB,uE,uL,uA,uM,uS,uN,uX,uO,vR,vD,vL,vK,vE,vA,vM,vT,vS]
 have kp0 : Keeps h (((h.new (Blk.cells [AV.int IntKind.i64 m,AV.int IntKind.i64 r] 0 false)).new (Blk.cells (AV.nilptr :: List.replicate 3 (AV.int IntKind.i64 0)) 0 false)).put (h.next + 1) (some (Blk.cells [AV.ptr β 0,AV.int IntKind.i64 m,AV.int IntKind.i64 r,AV.int IntKind.i64 hf] 0 false))) := (Keeps.refl h).post (by simp (maxSteps := 2000000) (implicitDefEqProofs := false) (disch := first | omega | (simp only [SD.down,uA,uL] <;> omega) | fail) only [TQ.down,resE,oneV, ↓reduceIte,reduceCtorEq,uB,uE,uL,uA,uM,uS,uN,uX,uO,vR,vD,vL,vK,vE,vA,vM,vT,vS] <;> omega) (fun j hj => by simp (maxSteps := 2000000) (implicitDefEqProofs := false) (disch := first | omega | (simp only [SD.down,uA,uL] <;> omega) | fail) only [TQ.down,resE,oneV, ↓reduceIte,reduceCtorEq,uB,uE,uL,uA,uM,uS,uN,uX,uO,vR,vD,vL,vK,vE,vA,vM,vT,vS])
 have ce : ∀ j,j < h.next -> pnt c h.next 0 j = c j := fun j hj => pnt_lt hj
 first | refine G.call (check_ok (d + 8) _ (pnt c h.next 0) kb β cp ps b (I.keeps w.w.msl kp0 ce) w.w m r hf) ?_ | refine G.callC (check_ok (d + 8) _ (pnt c h.next 0) kb β cp ps b (I.keeps w.w.msl kp0 ce) w.w m r hf) ?_ | refine G.callL (check_ok (d + 8) _ (pnt c h.next 0) kb β cp ps b (I.keeps w.w.msl kp0 ce) w.w m r hf) ?_
 rintro v h1 ⟨rfl,k1⟩
 have n1 := k1.1
 simp (maxSteps := 2000000) (implicitDefEqProofs := false) (disch := first | omega | (simp only [SD.down,uA,uL] <;> omega) | fail) only [TQ.down,resE,oneV, ↓reduceIte,reduceCtorEq,uB,uE,uL,uA,uM,uS,uN,uX,uO,vR,vD,vL,vK,vE,vA,vM,vT,vS] at n1
 have g6 : h1.get h.next = some (.cells [.int .i64 m, .int .i64 r] 0 false) := by rw [k1.2 _ (by simp (maxSteps := 2000000) (implicitDefEqProofs := false) (disch := first | omega | (simp only [SD.down,uA,uL] <;> omega) | fail) only [TQ.down,resE,oneV, ↓reduceIte,reduceCtorEq,uB,uE,uL,uA,uM,uS,uN,uX,uO,vR,vD,vL,vK,vE,vA,vM,vT,vS] <;> omega)]; simp (maxSteps := 2000000) (implicitDefEqProofs := false) (disch := first | omega | (simp only [SD.down,uA,uL] <;> omega) | fail) only [TQ.down,resE,oneV, ↓reduceIte,reduceCtorEq,uB,uE,uL,uA,uM,uS,uN,uX,uO,vR,vD,vL,vK,vE,vA,vM,vT,vS]
 have g12 : h1.get (h.next + 1) = some (.cells [.ptr β 0, .int .i64 m, .int .i64 r, .int .i64 hf] 0 false) := by rw [k1.2 _ (by simp (maxSteps := 2000000) (implicitDefEqProofs := false) (disch := first | omega | (simp only [SD.down,uA,uL] <;> omega) | fail) only [TQ.down,resE,oneV, ↓reduceIte,reduceCtorEq,uB,uE,uL,uA,uM,uS,uN,uX,uO,vR,vD,vL,vK,vE,vA,vM,vT,vS] <;> omega)]; simp (maxSteps := 2000000) (implicitDefEqProofs := false) (disch := first | omega | (simp only [SD.down,uA,uL] <;> omega) | fail) only [TQ.down,resE,oneV, ↓reduceIte,reduceCtorEq,uB,uE,uL,uA,uM,uS,uN,uX,uO,vR,vD,vL,vK,vE,vA,vM,vT,vS]
 have kp1 := kp0.trans k1
 have fin : ∀ (e : Int) (H : Heap),Keeps h H -> jPut b m r hf root body = ([],e,b) -> G (some (AV.tup [.nilslice, .int .i64 e],H)) Q := by
  intro e H k eq
  rw [eq] at hX
  subst hX
  exact G.ok ⟨pnt c h.next 0, .nilslice,rfl, .inl ⟨rfl,rfl,rfl⟩,(fun _ x => by cases x),I.keeps w.w.msl k ce, .of k,ce⟩
 cases hj : jOk b.ms.length m r hf with
 | false =>
  simp (maxSteps := 2000000) (implicitDefEqProofs := false) (disch := first | omega | (simp only [SD.down,uA,uL] <;> omega) | fail) only [cond_false,TQ.down,resE,oneV, ↓reduceIte,reduceCtorEq,uB,uE,uL,uA,uM,uS,uN,uX,uO,vR,vD,vL,vK,vE,vA,vM,vT,vS]
  exact fin 2 h1 kp1 (if_pos hj)
 | true =>
 obtain ⟨hg,hm,hf0,hf1⟩ := of_decide_eq_true hj
 have hj' : ¬ jOk b.ms.length m r hf = false := by rw [hj]; simp
 have h2' := gHalf_ge hg
 by_cases hr128 : root.length ≠ 128
 ·simp (maxSteps := 2000000) (implicitDefEqProofs := false) (disch := first | omega | (simp only [SD.down,uA,uL] <;> omega) | fail) only [cond_true,ro,rs,rl,bo,bs,bl,env_P,env_L,TQ.down,resE,oneV, ↓reduceIte,reduceCtorEq,uB,uE,uL,uA,uM,uS,uN,uX,uO,vR,vD,vL,vK,vE,vA,vM,vT,vS]
  exact fin 2 h1 kp1 (by unfold jPut; rw [if_neg hj',if_pos hr128])
 have r128 : root.length = 128 := by omega
 simp (maxSteps := 2000000) (implicitDefEqProofs := false) (disch := first | omega | (simp only [SD.down,uA,uL] <;> omega) | fail) only [cond_true,ro,rs,rl,bo,bs,bl,g6,g12,env_P,env_L,TQ.down,resE,oneV, ↓reduceIte,reduceCtorEq,uB,uE,uL,uA,uM,uS,uN,uX,uO,vR,vD,vL,vK,vE,vA,vM,vT,vS]
 first | refine G.call (half_ok (d + 5) _ m r) ?_ | refine G.callC (half_ok (d + 5) _ m r) ?_ | refine G.callL (half_ok (d + 5) _ m r) ?_
 rintro v h2 ⟨rfl,k2⟩
 have n2 := k2.1
 have kp2 := kp1.trans k2
 by_cases hlong : (gHalf m r - 2) * 64 < body.length
 ·simp (maxSteps := 2000000) (implicitDefEqProofs := false) (disch := first | omega | (simp only [SD.down,uA,uL] <;> omega) | fail) only [cond_true,ro,rs,rl,bo,bs,bl,g6,g12,env_P,env_L,TQ.down,resE,oneV, ↓reduceIte,reduceCtorEq,uB,uE,uL,uA,uM,uS,uN,uX,uO,vR,vD,vL,vK,vE,vA,vM,vT,vS]
  exact fin 3 h2 kp2 (by unfold jPut; rw [if_neg hj',if_neg hr128,if_pos hlong])
 have eJ : jPut b m r hf root body = jPutM (jPos m r hf) (jSecs root body) b.ms.length 0 [] b := by unfold jPut; rw [if_neg hj',if_neg hr128,if_neg hlong]
 rw [eJ] at hX
 simp (maxSteps := 2000000) (implicitDefEqProofs := false) (disch := first | omega | (simp only [SD.down,uA,uL] <;> omega) | fail) only [cond_true,ro,rs,rl,bo,bs,bl,g6,g12,env_P,env_L,TQ.down,resE,oneV, ↓reduceIte,reduceCtorEq,uB,uE,uL,uA,uM,uS,uN,uX,uO,vR,vD,vL,vK,vE,vA,vM,vT,vS]
 first | refine G.call (cut_ok (d + 11) h2 rv root (hr.keep kp2.1 fun j hj _ => kp2.2 j hj) hrl) ?_ | refine G.callC (cut_ok (d + 11) h2 rv root (hr.keep kp2.1 fun j hj _ => kp2.2 j hj) hrl) ?_ | refine G.callL (cut_ok (d + 11) h2 rv root (hr.keep kp2.1 fun j hj _ => kp2.2 j hj) hrl) ?_
 rintro u1 h3 ⟨ow1,k3⟩
 have n3 := k3.1
 have kp3 := kp2.trans k3
 simp (maxSteps := 2000000) (implicitDefEqProofs := false) (disch := first | omega | (simp only [SD.down,uA,uL] <;> omega) | fail) only [cond_true,ro,rs,rl,bo,bs,bl,g6,g12,ow1.ok,env_P,env_L,TQ.down,resE,oneV, ↓reduceIte,reduceCtorEq,uB,uE,uL,uA,uM,uS,uN,uX,uO,vR,vD,vL,vK,vE,vA,vM,vT,vS]
 first | refine G.call (cut_ok (d + 11) h3 bv body (hb.keep kp3.1 fun j hj _ => kp3.2 j hj) hbl) ?_ | refine G.callC (cut_ok (d + 11) h3 bv body (hb.keep kp3.1 fun j hj _ => kp3.2 j hj) hbl) ?_ | refine G.callL (cut_ok (d + 11) h3 bv body (hb.keep kp3.1 fun j hj _ => kp3.2 j hj) hbl) ?_
 rintro u2 h4 ⟨ow2,k4⟩
 have n4 := k4.1
 have kp4 := kp3.trans k4
 have e2 : nsec root.length = 1 + 1 := by unfold nsec; omega
 rw [e2] at ow1
 have hnb : nsec body.length <= 940 := by unfold nsec; omega
 obtain ⟨h5,ea,ow3,n5,fr5⟩ := (ow1.keep n4 fun j hj => k4.2 j (ow1.ge hj).2).cat elS ow2 (by omega) (by omega) (flB_sc _)
 have kp5 : Keeps h h5 := ⟨by have := kp4.1; omega,fun j hj => (fr5 j (by have := kp4.1; omega) fun e => by have := (ow1.ge e).1; have := kp2.1; omega).trans (kp4.2 j hj)⟩
 have g65 : h5.get h.next = some (.cells [.int .i64 m, .int .i64 r] 0 false) := (fr5 _ (by omega) fun e => by have := (ow1.ge e).1; omega).trans (k4.at (by omega) (k3.at (by omega) (k2.at (by omega) g6)))
 have g125 : h5.get (h.next + 1) = some (.cells [.ptr β 0, .int .i64 m, .int .i64 r, .int .i64 hf] 0 false) := (fr5 _ (by omega) fun e => by have := (ow1.ge e).1; omega).trans (k4.at (by omega) (k3.at (by omega) (k2.at (by omega) g12)))
 have eF : flB (secs root 2) ++ flB (secs body (nsec body.length)) = flB (jSecs root body) := (flB_app _ _).symm
 have eN : 1 + 1 + nsec body.length = (jSecs root body).length := by simp [jSecs,secs_len]
 have hS64 : ∀ s ∈ jSecs root body,s.length = 64 := fun s hs => by
  rcases List.mem_append.1 hs with x | x
  ·exact secs_64 s x
  ·exact secs_64 s x
 rw [eF,eN] at ow3
 rw [eN] at ea
 obtain ⟨wo,ws⟩ : okv (AV.eslice h4.next 0 0 (jSecs root body).length) = some (AV.eslice h4.next 0 0 (jSecs root body).length) /\ True := ⟨rfl,trivial⟩
 simp (maxSteps := 2000000) (implicitDefEqProofs := false) (disch := first | omega | (simp only [SD.down,uA,uL] <;> omega) | fail) only [ow1.ok,ow2.ok,apS,cls_append,ea,g65,g125,env_P,env_L,TQ.down,resE,oneV, ↓reduceIte,reduceCtorEq,uB,uE,uL,uA,uM,uS,uN,uX,uO,vR,vD,vL,vK,vE,vA,vM,vT,vS]
 have hLn : (jSecs root body).length = 2 + nsec body.length := by simp [jSecs,secs_len]
 have hLg : (jSecs root body).length <= gHalf m r := by rw [hLn]; unfold nsec; omega
 have m64 := w.w.msl
 have ow3g := (ow3.ge (j := h4.next) rfl)
 have g4 : h5.get h4.next = some (.cells (flB (jSecs root body)) 64 false) := by
  rcases ow3 with ⟨z,_⟩ | ⟨K,z1,z2,z3,z4,z5,z6⟩
  ·omega
  ·cases z1; exact z4
 generalize jSecs root body = L at *
 have ce5 : ∀ j,j < h.next -> pnt c h.next 0 j = c j := ce
 rw [run_loop]
 refine loop_ind (fun j σ hh => ∃ (q : Nat) (bb : BS) (C : Col) (tl : List Nat),q + j = b.ms.length /\ σ 11 = .int .i64 0 /\ σ 12 = .ptr (h.next + 1) 0 /\ σ 14 = .eslice h4.next 0 0 L.length /\ σ 41 = .int .i64 (b.ms.length : Int) /\ σ 42 = .int .i64 (q : Int) /\ Own 1 h5.next hh (σ 10) (iA tl) tl.length /\ tl.length <= q /\ (∀ K,blkE (σ 10) = some K -> C K = 0) /\ BusI hh C kb β cp ps bb /\ BOk bb /\ bb.steps = b.steps /\ bb.ms.length = b.ms.length /\ bb.log.length <= b.log.length + q * (L.length + 1) /\ jPutM (jPos m r hf) L b.ms.length 0 [] b = jPutM (jPos m r hf) L j q tl bb /\ hh.get (h.next + 1) = some (.cells [.ptr β 0, .int .i64 m, .int .i64 r, .int .i64 hf] 0 false) /\ hh.get h4.next = some (.cells (flB L) 64 false) /\ h4.next < hh.next /\ C (h.next + 1) = 0 /\ C h4.next = 0 /\ Fr (busK kb) c h hh /\ ∀ j,j < h.next -> C j = c j) ?_ ?_ b.ms.length _ _ _ (by simp; omega) ?_
 ·rintro mm σ hh ⟨q,bb,C,tl,hq,s11,s12,s14,s41,s42,ow,htl,oc,I1,w1,e1,e1m,e1l,eJM,gp,gl,gn,c12,c4,fr,hC⟩
  obtain rfl : q = b.ms.length := by omega
  simp (maxSteps := 2000000) (implicitDefEqProofs := false) (disch := first | omega | (simp only [SD.down,uA,uL] <;> omega) | fail) only [run_it,s11,s12,s14,s41,s42,ow.ok,env_P,env_L,TQ.down,resE,oneV, ↓reduceIte,reduceCtorEq,uB,uE,uL,uA,uM,uS,uN,uX,uO,vR,vD,vL,vK,vE,vA,vM,vT,vS]
  rw [eJM] at hX
  subst hX
  exact G.ok ⟨C,_,rfl,ow.mono kp5.1,oc,I1,fr,hC⟩
 ·rintro j mm σ hh ⟨q,bb,C,tl,hq,s11,s12,s14,s41,s42,ow,htl,oc,I1,w1,e1,e1m,e1l,eJM,gp,gl,gn,c12,c4,fr,hC⟩ ih
  have hle := fr.le
  have hmul : q * (L.length + 1) + (L.length + 1) <= b.ms.length * (nsec body.length + 3) := by
   rw [<- Nat.succ_mul]
   exact Nat.le_trans (Nat.mul_le_mul_right (L.length + 1) (show q + 1 <= b.ms.length by omega)) (by rw [hLn]; exact Nat.mul_le_mul_left _ (by omega))
  simp (maxSteps := 2000000) (implicitDefEqProofs := false) (disch := first | omega | (simp only [SD.down,uA,uL] <;> omega) | fail) only [run_it,s11,s12,s14,s41,s42,gp,ow.ok,env_P,env_L,TQ.down,resE,oneV, ↓reduceIte,reduceCtorEq,uB,uE,uL,uA,uM,uS,uN,uX,uO,vR,vD,vL,vK,vE,vA,vM,vT,vS]
  first | refine G.call (put1_ok d hh C kb β cp ps bb m r hf q (.eslice h4.next 0 0 L.length) L kb10 I1 w1 hg hf0 hf1 (.inr ⟨_,rfl,gn,c4,gl⟩) hS64 hLg (by omega) (by rw [e1]; exact hst)) ?_ | refine G.callC (put1_ok d hh C kb β cp ps bb m r hf q (.eslice h4.next 0 0 L.length) L kb10 I1 w1 hg hf0 hf1 (.inr ⟨_,rfl,gn,c4,gl⟩) hS64 hLg (by omega) (by rw [e1]; exact hst)) ?_ | refine G.callL (put1_ok d hh C kb β cp ps bb m r hf q (.eslice h4.next 0 0 L.length) L kb10 I1 w1 hg hf0 hf1 (.inr ⟨_,rfl,gn,c4,gl⟩) hS64 hLg (by omega) (by rw [e1]; exact hst)) ?_
  rintro v h6 ⟨C6,rfl,I6,fr6,hC6⟩
  obtain ⟨w6,e6,e6m,e6l⟩ := jPut1_keep q (jPos m r hf) L bb hS64 w1 (by omega)
  have n6 := fr6.le
  have gp6 := (fr6.get _ (by omega) (by rw [c12]; exact k0)).trans gp
  have gl6 := (fr6.get _ gn (by rw [c4]; exact k0)).trans gl
  have ow6 := ow.keep n6 fun j hj => fr6.get j (ow.ge hj).2 (by rw [oc j hj]; exact k0)
  have hC6' : ∀ j,j < h.next -> C6 j = c j := fun j hj => (hC6 j (by omega)).trans (hC j hj)
  have fr6' := fr.trans fr6 hC
  rw [jPutM] at eJM
  generalize (jPut1 q (jPos m r hf) L bb).1 = E at *
  generalize (jPut1 q (jPos m r hf) L bb).2 = b6 at *
  by_cases hE : E = 0
  ·subst hE
   rw [if_pos rfl] at eJM
   have owx : Own 1 h5.next (h6.new (Blk.cells [AV.int .i64 (q : Int)] 0 false)) (σ 10) (iA tl) tl.length := ow6.keep (by simp (maxSteps := 2000000) (implicitDefEqProofs := false) (disch := first | omega | (simp only [SD.down,uA,uL] <;> omega) | fail) only [TQ.down,resE,oneV, ↓reduceIte,reduceCtorEq,uB,uE,uL,uA,uM,uS,uN,uX,uO,vR,vD,vL,vK,vE,vA,vM,vT,vS] <;> omega) fun j hj => by have := (ow.ge hj).2; simp (maxSteps := 2000000) (implicitDefEqProofs := false) (disch := first | omega | (simp only [SD.down,uA,uL] <;> omega) | fail) only [TQ.down,resE,oneV, ↓reduceIte,reduceCtorEq,uB,uE,uL,uA,uM,uS,uN,uX,uO,vR,vD,vL,vK,vE,vA,vM,vT,vS]
   have gq : (h6.new (Blk.cells [AV.int .i64 (q : Int)] 0 false)).get h6.next = some (.cells [.int .i64 (q : Int)] 0 false) := by simp (maxSteps := 2000000) (implicitDefEqProofs := false) (disch := first | omega | (simp only [SD.down,uA,uL] <;> omega) | fail) only [TQ.down,resE,oneV, ↓reduceIte,reduceCtorEq,uB,uE,uL,uA,uM,uS,uN,uX,uO,vR,vD,vL,vK,vE,vA,vM,vT,vS]
   obtain ⟨h7,ea7,ow7,n7,fr7⟩ := owx.app (m := 0) (c := 1) elI (by simp (maxSteps := 2000000) (implicitDefEqProofs := false) (disch := first | omega | (simp only [SD.down,uA,uL] <;> omega) | fail) only [TQ.down,resE,oneV, ↓reduceIte,reduceCtorEq,uB,uE,uL,uA,uM,uS,uN,uX,uO,vR,vD,vL,vK,vE,vA,vM,vT,vS] <;> omega) (small_ok elI.small (by omega)) gq (cut_all rfl) rfl rfl
   simp (maxSteps := 2000000) (implicitDefEqProofs := false) (disch := first | omega | (simp only [SD.down,uA,uL] <;> omega) | fail) only [TQ.down,resE,oneV, ↓reduceIte,reduceCtorEq,uB,uE,uL,uA,uM,uS,uN,uX,uO,vR,vD,vL,vK,vE,vA,vM,vT,vS] at n7 fr7
   have bsq := bsI q
   simp (maxSteps := 2000000) (implicitDefEqProofs := false) (disch := first | omega | (simp only [SD.down,uA,uL] <;> omega) | fail) only [run_it,s11,s12,s14,s41,s42,ow.ok,bsq,apI,cls_append,ea7,env_P,env_L,TQ.down,resE,oneV, ↓reduceIte,reduceCtorEq,uB,uE,uL,uA,uM,uS,uN,uX,uO,vR,vD,vL,vK,vE,vA,vM,vT,vS]
   have hl1 : bb.log.length + (L.length + 1) <= b.log.length + (q + 1) * (L.length + 1) := by rw [Nat.succ_mul]; omega
   refine ih _ _ ⟨q + 1,b6,pnt C6 h6.next 0,tl ++ [q],by omega,by simp (maxSteps := 2000000) (implicitDefEqProofs := false) (disch := first | omega | (simp only [SD.down,uA,uL] <;> omega) | fail) only [s11,TQ.down,resE,oneV, ↓reduceIte,reduceCtorEq,uB,uE,uL,uA,uM,uS,uN,uX,uO,vR,vD,vL,vK,vE,vA,vM,vT,vS],by simp (maxSteps := 2000000) (implicitDefEqProofs := false) (disch := first | omega | (simp only [SD.down,uA,uL] <;> omega) | fail) only [s12,TQ.down,resE,oneV, ↓reduceIte,reduceCtorEq,uB,uE,uL,uA,uM,uS,uN,uX,uO,vR,vD,vL,vK,vE,vA,vM,vT,vS],by simp (maxSteps := 2000000) (implicitDefEqProofs := false) (disch := first | omega | (simp only [SD.down,uA,uL] <;> omega) | fail) only [s14,TQ.down,resE,oneV, ↓reduceIte,reduceCtorEq,uB,uE,uL,uA,uM,uS,uN,uX,uO,vR,vD,vL,vK,vE,vA,vM,vT,vS],by simp (maxSteps := 2000000) (implicitDefEqProofs := false) (disch := first | omega | (simp only [SD.down,uA,uL] <;> omega) | fail) only [s41,TQ.down,resE,oneV, ↓reduceIte,reduceCtorEq,uB,uE,uL,uA,uM,uS,uN,uX,uO,vR,vD,vL,vK,vE,vA,vM,vT,vS],by simp (maxSteps := 2000000) (implicitDefEqProofs := false) (disch := first | omega | (simp only [SD.down,uA,uL] <;> omega) | fail) only [TQ.down,resE,oneV, ↓reduceIte,reduceCtorEq,uB,uE,uL,uA,uM,uS,uN,uX,uO,vR,vD,vL,vK,vE,vA,vM,vT,vS],by simp (maxSteps := 2000000) (implicitDefEqProofs := false) (disch := first | omega | (simp only [SD.down,uA,uL] <;> omega) | fail) only [TQ.down,resE,oneV, ↓reduceIte,reduceCtorEq,uB,uE,uL,uA,uM,uS,uN,uX,uO,vR,vD,vL,vK,vE,vA,vM,vT,vS]; simpa [iA] using ow7,by simp; omega,fun K hK => ?_,(I6.keep w6.w.msl (h' := h7) (by omega) (fun j hj k1 k2 => ?_) fun j hj => pnt_lt hj),w6,e6.trans e1,e6m.trans e1m,by omega,eJM,(fr7 _ (by omega) fun e => by have := ow.ge e; omega).trans (by simp (maxSteps := 2000000) (implicitDefEqProofs := false) (disch := first | omega | (simp only [SD.down,uA,uL] <;> omega) | fail) only [TQ.down,resE,oneV, ↓reduceIte,reduceCtorEq,uB,uE,uL,uA,uM,uS,uN,uX,uO,vR,vD,vL,vK,vE,vA,vM,vT,vS]; exact gp6),(fr7 _ (by omega) fun e => by have := ow.ge e; omega).trans (by simp (maxSteps := 2000000) (implicitDefEqProofs := false) (disch := first | omega | (simp only [SD.down,uA,uL] <;> omega) | fail) only [TQ.down,resE,oneV, ↓reduceIte,reduceCtorEq,uB,uE,uL,uA,uM,uS,uN,uX,uO,vR,vD,vL,vK,vE,vA,vM,vT,vS]; exact gl6),by omega,(pnt_lt (by omega)).trans ((hC6 _ (by omega)).trans c12),(pnt_lt (by omega)).trans ((hC6 _ (by omega)).trans c4),⟨by omega,fun j hj hk => ?_⟩,fun j hj => (pnt_lt (by omega)).trans (hC6' j hj)⟩
   ·simp (maxSteps := 2000000) (implicitDefEqProofs := false) (disch := first | omega | (simp only [SD.down,uA,uL] <;> omega) | fail) only [TQ.down,resE,oneV, ↓reduceIte,reduceCtorEq,uB,uE,uL,uA,uM,uS,uN,uX,uO,vR,vD,vL,vK,vE,vA,vM,vT,vS] at hK
    cases hK
    exact pnt_ge (by omega)
   ·have jn : blkE (σ 10) ≠ some j := fun e => by have := oc j e; have := (hC6 j (ow.ge e).2); omega
    exact (fr7 j (by omega) jn).trans (by simp (maxSteps := 2000000) (implicitDefEqProofs := false) (disch := first | omega | (simp only [SD.down,uA,uL] <;> omega) | fail) only [TQ.down,resE,oneV, ↓reduceIte,reduceCtorEq,uB,uE,uL,uA,uM,uS,uN,uX,uO,vR,vD,vL,vK,vE,vA,vM,vT,vS])
   ·have jn : blkE (σ 10) ≠ some j := fun e => by have := ow.ge e; have := kp5.1; omega
    exact (fr7 j (by omega) jn).trans (by simp (maxSteps := 2000000) (implicitDefEqProofs := false) (disch := first | omega | (simp only [SD.down,uA,uL] <;> omega) | fail) only [TQ.down,resE,oneV, ↓reduceIte,reduceCtorEq,uB,uE,uL,uA,uM,uS,uN,uX,uO,vR,vD,vL,vK,vE,vA,vM,vT,vS]; exact fr6'.get j hj hk)
  ·rw [if_neg hE] at eJM
   by_cases h13 : E = 13
   ·subst h13
    rw [if_pos rfl] at eJM
    simp (maxSteps := 2000000) (implicitDefEqProofs := false) (disch := first | omega | (simp only [SD.down,uA,uL] <;> omega) | fail) only [run_it,s11,s12,s14,s41,s42,ow.ok,env_P,env_L,TQ.down,resE,oneV, ↓reduceIte,reduceCtorEq,uB,uE,uL,uA,uM,uS,uN,uX,uO,vR,vD,vL,vK,vE,vA,vM,vT,vS]
    rw [eJM] at hX
    subst hX
    exact G.ok ⟨C6,_,rfl, .inl ⟨rfl,rfl,rfl⟩,(fun _ x => by cases x),I6,fr6',hC6'⟩
   ·rw [if_neg h13] at eJM
    have hl1 : bb.log.length + (L.length + 1) <= b.log.length + (q + 1) * (L.length + 1) := by rw [Nat.succ_mul]; omega
    simp (maxSteps := 2000000) (implicitDefEqProofs := false) (disch := first | omega | (simp only [SD.down,uA,uL] <;> omega) | fail) only [run_it,s11,s12,s14,s41,s42,ow.ok,env_P,env_L,TQ.down,resE,oneV, ↓reduceIte,reduceCtorEq,uB,uE,uL,uA,uM,uS,uN,uX,uO,vR,vD,vL,vK,vE,vA,vM,vT,vS]
    exact ih _ _ ⟨q + 1,b6,C6,tl,by omega,by simp (maxSteps := 2000000) (implicitDefEqProofs := false) (disch := first | omega | (simp only [SD.down,uA,uL] <;> omega) | fail) only [s11,TQ.down,resE,oneV, ↓reduceIte,reduceCtorEq,uB,uE,uL,uA,uM,uS,uN,uX,uO,vR,vD,vL,vK,vE,vA,vM,vT,vS],by simp (maxSteps := 2000000) (implicitDefEqProofs := false) (disch := first | omega | (simp only [SD.down,uA,uL] <;> omega) | fail) only [s12,TQ.down,resE,oneV, ↓reduceIte,reduceCtorEq,uB,uE,uL,uA,uM,uS,uN,uX,uO,vR,vD,vL,vK,vE,vA,vM,vT,vS],by simp (maxSteps := 2000000) (implicitDefEqProofs := false) (disch := first | omega | (simp only [SD.down,uA,uL] <;> omega) | fail) only [s14,TQ.down,resE,oneV, ↓reduceIte,reduceCtorEq,uB,uE,uL,uA,uM,uS,uN,uX,uO,vR,vD,vL,vK,vE,vA,vM,vT,vS],by simp (maxSteps := 2000000) (implicitDefEqProofs := false) (disch := first | omega | (simp only [SD.down,uA,uL] <;> omega) | fail) only [s41,TQ.down,resE,oneV, ↓reduceIte,reduceCtorEq,uB,uE,uL,uA,uM,uS,uN,uX,uO,vR,vD,vL,vK,vE,vA,vM,vT,vS],by simp (maxSteps := 2000000) (implicitDefEqProofs := false) (disch := first | omega | (simp only [SD.down,uA,uL] <;> omega) | fail) only [TQ.down,resE,oneV, ↓reduceIte,reduceCtorEq,uB,uE,uL,uA,uM,uS,uN,uX,uO,vR,vD,vL,vK,vE,vA,vM,vT,vS],by simp (maxSteps := 2000000) (implicitDefEqProofs := false) (disch := first | omega | (simp only [SD.down,uA,uL] <;> omega) | fail) only [TQ.down,resE,oneV, ↓reduceIte,reduceCtorEq,uB,uE,uL,uA,uM,uS,uN,uX,uO,vR,vD,vL,vK,vE,vA,vM,vT,vS]; exact ow6,by omega,(fun K hK => (hC6 K (ow.ge hK).2).trans (oc K hK)),I6,w6,e6.trans e1,e6m.trans e1m,by omega,eJM,gp6,gl6,by omega,(hC6 _ (by omega)).trans c12,(hC6 _ (by omega)).trans c4,fr6',hC6'⟩
 ·exact ⟨0,b,pnt c h.next 0,[],by omega,by simp (maxSteps := 2000000) (implicitDefEqProofs := false) (disch := first | omega | (simp only [SD.down,uA,uL] <;> omega) | fail) only [TQ.down,resE,oneV, ↓reduceIte,reduceCtorEq,uB,uE,uL,uA,uM,uS,uN,uX,uO,vR,vD,vL,vK,vE,vA,vM,vT,vS],by simp (maxSteps := 2000000) (implicitDefEqProofs := false) (disch := first | omega | (simp only [SD.down,uA,uL] <;> omega) | fail) only [TQ.down,resE,oneV, ↓reduceIte,reduceCtorEq,uB,uE,uL,uA,uM,uS,uN,uX,uO,vR,vD,vL,vK,vE,vA,vM,vT,vS],by simp (maxSteps := 2000000) (implicitDefEqProofs := false) (disch := first | omega | (simp only [SD.down,uA,uL] <;> omega) | fail) only [TQ.down,resE,oneV, ↓reduceIte,reduceCtorEq,uB,uE,uL,uA,uM,uS,uN,uX,uO,vR,vD,vL,vK,vE,vA,vM,vT,vS],by simp (maxSteps := 2000000) (implicitDefEqProofs := false) (disch := first | omega | (simp only [SD.down,uA,uL] <;> omega) | fail) only [hm,TQ.down,resE,oneV, ↓reduceIte,reduceCtorEq,uB,uE,uL,uA,uM,uS,uN,uX,uO,vR,vD,vL,vK,vE,vA,vM,vT,vS],by simp (maxSteps := 2000000) (implicitDefEqProofs := false) (disch := first | omega | (simp only [SD.down,uA,uL] <;> omega) | fail) only [TQ.down,resE,oneV, ↓reduceIte,reduceCtorEq,uB,uE,uL,uA,uM,uS,uN,uX,uO,vR,vD,vL,vK,vE,vA,vM,vT,vS],by simp (maxSteps := 2000000) (implicitDefEqProofs := false) (disch := first | omega | (simp only [SD.down,uA,uL] <;> omega) | fail) only [TQ.down,resE,oneV, ↓reduceIte,reduceCtorEq,uB,uE,uL,uA,uM,uS,uN,uX,uO,vR,vD,vL,vK,vE,vA,vM,vT,vS]; exact .inl ⟨rfl,rfl,rfl⟩,by simp,(by simp (maxSteps := 2000000) (implicitDefEqProofs := false) (disch := first | omega | (simp only [SD.down,uA,uL] <;> omega) | fail) only [TQ.down,resE,oneV, ↓reduceIte,reduceCtorEq,uB,uE,uL,uA,uM,uS,uN,uX,uO,vR,vD,vL,vK,vE,vA,vM,vT,vS]; intro K x; cases x),I.keeps w.w.msl kp5 ce,w,rfl,rfl,by omega,rfl,g125,g4,by omega,pnt_ge (by omega),pnt_ge (by omega), .of kp5,ce⟩
end Go.Proofs.Ytlnepbkeiianmaa
