/- Of this program, for all inputs: contracts. No condition but those in the theorems. -/
import Derived.Test.YtlnepbkeiianmaaGC
namespace Go.Proofs.Ytlnepbkeiianmaa
open Go Go.Ai Go.Aw Go.Proofs
open Nat renaming reduceBEq -> uB,reduceEqDiff -> uE,reduceLT -> uL,reduceAdd -> uA,reduceMul -> uM,reduceSub -> uS,reduceAnd -> uN,reduceXor -> uX,reduceOr -> uO
open Int renaming reduceMod -> vR,reduceDiv -> vD,reduceLT -> vL,reduceLE -> vK,reduceEq -> vE,reduceAdd -> vA,reduceMul -> vM,reduceToNat -> vT,reduceSub -> vS
set_option linter.unusedSimpArgs false
set_option linter.unusedVariables false
set_option maxRecDepth 10000
theorem BS.read_x {b : BS} (w : b.wf) (m i : Int) : (b.read m i).1.x.length = 64 := ioR_x w ⟨1,m,i,zz,0⟩ rfl _ (atAct_ok (BS.ahead_wf w) ⟨1,m,i,zz,0⟩ rfl (amRead ⟨1,m,i,zz,0⟩) (amRead_ok ⟨1,m,i,zz,0⟩)).2.2
def jR (mem : Int) (at_ : Nat -> Int) : Nat -> Nat -> List Nat -> BS -> List Nat × Int × BS
 | 0,_,acc,b => (acc,0,b)
 | n + 1,i,acc,b => if (b.read mem (at_ i)).1.e = 0 then jR mem at_ n (i + 1) (acc ++ (b.read mem (at_ i)).1.x) (b.read mem (at_ i)).2 else ([],(b.read mem (at_ i)).1.e,(b.read mem (at_ i)).2)
set_option maxHeartbeats 4000000 in
theorem jread_ok (d : Nat) (h : Heap) (c : Col) (kb β cp : Nat) (ps : List Nat) (b : BS) (m r hf mem : Int) (i n : Nat) (kb10 : 10 <= kb) (I : BusI h c kb β cp ps b) (w : BOk b) (hg : gOk m r = true) (h0 : 0 <= hf) (h1 : hf <= 1) (hlen : i + n <= gHalf m r) (hlog : b.log.length + n < 3980) (hst : SAll (d + 1) kb β cp ps b.steps) :
  G (callD env (d + 12) 29 [.agg (plC β m r hf), .int .i64 mem, .int .i64 (i : Int), .int .i64 (n : Int)] h) fun v h' => ∃ C' tv,v = .tup [tv, .int .i64 (jR mem (jPos m r hf) n i [] b).2.1] /\ Own 1 h.next h' tv (B (jR mem (jPos m r hf) n i [] b).1) (jR mem (jPos m r hf) n i [] b).1.length /\ (∀ K,blkE tv = some K -> C' K = 0) /\ BusI h' C' kb β cp ps (jR mem (jPos m r hf) n i [] b).2.2 /\ Fr (busK kb) c h h' /\ ∀ j,j < h.next -> C' j = c j := by
 refine G.gen fun Q hX => ?_
 have hH := gHalf_le m r
 have k0 := busK_0 kb10
 unfold plC
 rw [callD_run (E := env) [(5, .late [[],[],[],[],[],[],[],[],[],[],[],[],[],[12],[]] [] [(1,0,1)] 15)] (by kernel_rfl) Try.func29 rfl (by rw [Try.ntmps29]; simp) (by kernel_rfl)]; simp (maxSteps := 2000000) (implicitDefEqProofs := false) (disch := first | omega | (simp only [SD.down,uA,uL] <;> omega) | fail) only [Try.ntmps29,Try.results29,env_P,env_L,TQ.down,resE,oneV, ↓reduceIte,reduceCtorEq,uB,uE,uL,uA,uM,uS,uN,uX,uO,vR,vD,vL,vK,vE,vA,vM,vT,vS]
 rw [run_loop]
 refine loop_ind (fun j σ hh => ∃ (q : Nat) (bb : BS) (C : Col) (acc : List Nat),q + j = n /\ σ 1 = .int .i64 mem /\ σ 2 = .int .i64 (i : Int) /\ σ 4 = .ptr h.next 0 /\ σ 14 = .int .i64 (n : Int) /\ σ 15 = .int .i64 (q : Int) /\ Own 1 (h.next + 1) hh (σ 10) (B acc) acc.length /\ acc.length = q * 64 /\ (∀ K,blkE (σ 10) = some K -> C K = 0) /\ BusI hh C kb β cp ps bb /\ BOk bb /\ bb.steps = b.steps /\ bb.log.length = b.log.length + q /\ jR mem (jPos m r hf) n i [] b = jR mem (jPos m r hf) j (i + q) acc bb /\ hh.get h.next = some (.cells [.ptr β 0, .int .i64 m, .int .i64 r, .int .i64 hf] 0 false) /\ h.next < hh.next /\ C h.next = 0 /\ Fr (busK kb) c h hh /\ ∀ j,j < h.next -> C j = c j) ?_ ?_ n _ _ _ (by simp; omega) ?_
 ·rintro mm σ hh ⟨q,bb,C,acc,hq,s1,s2,s4,s14,s15,ow,ha,oc,I1,w1,e1,e2,e3,g0,gn,c0,fr,hC⟩
  obtain rfl : q = n := by omega
  simp (maxSteps := 2000000) (implicitDefEqProofs := false) (disch := first | omega | (simp only [SD.down,uA,uL] <;> omega) | fail) only [run_it,s1,s2,s4,s14,s15,ow.ok,env_P,env_L,TQ.down,resE,oneV, ↓reduceIte,reduceCtorEq,uB,uE,uL,uA,uM,uS,uN,uX,uO,vR,vD,vL,vK,vE,vA,vM,vT,vS]
  rw [e3] at hX
  subst hX
  exact G.ok ⟨C,_,rfl,ow.mono (by omega),oc,I1,fr,hC⟩
 ·rintro j mm σ hh ⟨q,bb,C,acc,hq,s1,s2,s4,s14,s15,ow,ha,oc,I1,w1,e1,e2,e3,g0,gn,c0,fr,hC⟩ ih
  have hle := fr.le
  have hzz := zz_len
  simp (maxSteps := 2000000) (implicitDefEqProofs := false) (disch := first | omega | (simp only [SD.down,uA,uL] <;> omega) | fail) only [run_it,s1,s2,s4,s14,s15,g0,zz_fold,env_P,env_L,TQ.down,resE,oneV, ↓reduceIte,reduceCtorEq,uB,uE,uL,uA,uM,uS,uN,uX,uO,vR,vD,vL,vK,vE,vA,vM,vT,vS]
  have kk : Keeps hh (Heap.keep hh 15) := (Keeps.refl hh).post (by simp (maxSteps := 2000000) (implicitDefEqProofs := false) (disch := first | omega | (simp only [SD.down,uA,uL] <;> omega) | fail) only [TQ.down,resE,oneV, ↓reduceIte,reduceCtorEq,uB,uE,uL,uA,uM,uS,uN,uX,uO,vR,vD,vL,vK,vE,vA,vM,vT,vS] <;> omega) (fun j hj => by simp (maxSteps := 2000000) (implicitDefEqProofs := false) (disch := first | omega | (simp only [SD.down,uA,uL] <;> omega) | fail) only [TQ.down,resE,oneV, ↓reduceIte,reduceCtorEq,uB,uE,uL,uA,uM,uS,uN,uX,uO,vR,vD,vL,vK,vE,vA,vM,vT,vS])
  first | refine G.call (at_ok (d + 1) _ β m r hf hg h0 h1 (i + q) (by omega)) ?_ | refine G.callC (at_ok (d + 1) _ β m r hf hg h0 h1 (i + q) (by omega)) ?_ | refine G.callL (at_ok (d + 1) _ β m r hf hg h0 h1 (i + q) (by omega)) ?_
  rintro v h2 ⟨rfl,k1⟩
  have n1 := k1.1
  simp (maxSteps := 2000000) (implicitDefEqProofs := false) (disch := first | omega | (simp only [SD.down,uA,uL] <;> omega) | fail) only [TQ.down,resE,oneV, ↓reduceIte,reduceCtorEq,uB,uE,uL,uA,uM,uS,uN,uX,uO,vR,vD,vL,vK,vE,vA,vM,vT,vS] at n1
  have kp1 : Keeps hh h2 := kk.trans k1
  have g0k : (Heap.keep hh 15).get h.next = some (.cells [.ptr β 0, .int .i64 m, .int .i64 r, .int .i64 hf] 0 false) := kk.at gn g0
  have g0' := kp1.at gn g0
  simp (maxSteps := 2000000) (implicitDefEqProofs := false) (disch := first | omega | (simp only [SD.down,uA,uL] <;> omega) | fail) only [s1,s2,s4,s14,s15,g0',env_P,env_L,TQ.down,resE,oneV, ↓reduceIte,reduceCtorEq,uB,uE,uL,uA,uM,uS,uN,uX,uO,vR,vD,vL,vK,vE,vA,vM,vT,vS]
  have ce1 : ∀ j,j < hh.next -> pnt C hh.next 0 j = C j := fun j hj => pnt_lt hj
  first | refine G.call (bus_read d h2 (pnt C hh.next 0) kb β cp ps bb mem (jPos m r hf (i + q)) kb10 (I1.keeps w1.w.msl kp1 ce1) w1.w (hst bb e1)) ?_ | refine G.callC (bus_read d h2 (pnt C hh.next 0) kb β cp ps bb mem (jPos m r hf (i + q)) kb10 (I1.keeps w1.w.msl kp1 ce1) w1.w (hst bb e1)) ?_ | refine G.callL (bus_read d h2 (pnt C hh.next 0) kb β cp ps bb mem (jPos m r hf (i + q)) kb10 (I1.keeps w1.w.msl kp1 ce1) w1.w (hst bb e1)) ?_
  rintro v h3 ⟨C3,rfl,I3,fr3,hC3⟩
  have fr13 : Fr (busK kb) C hh h3 := (Fr.of (K := busK kb) (c := C) kp1).trans fr3 ce1
  have n3 := fr3.le
  have hC' : ∀ j,j < hh.next -> C3 j = C j := fun j hj => (hC3 j (by omega)).trans (ce1 j hj)
  have g03 := (fr13.get _ gn (by rw [c0]; exact k0)).trans g0
  have xl := BS.read_x w1.w mem (jPos m r hf (i + q))
  obtain ⟨w3,l3⟩ := w1.read (by omega) mem (jPos m r hf (i + q))
  have e13 := (BS.read_steps bb mem (jPos m r hf (i + q))).trans e1
  obtain ⟨jj,rfl⟩ : ∃ jj,j = jj := ⟨j,rfl⟩
  rw [jR] at e3
  generalize (bb.read mem (jPos m r hf (i + q))).1.e = E at *
  generalize (bb.read mem (jPos m r hf (i + q))).1.x = X at *
  generalize (bb.read mem (jPos m r hf (i + q))).2 = b3 at *
  have c12 : C3 (hh.next + 12) = 0 := (hC3 _ (by omega)).trans (pnt_ge (by omega))
  have owh := ow.keep fr13.le fun j hj => fr13.get j (ow.ge hj).2 (by rw [oc j hj]; exact k0)
  have gat : ((Heap.at_ (hh.next + 12)).new (Blk.cells (B zz) 0 false)).get (hh.next + 12) = some (.cells (B zz) 0 false) := new_same (Heap.at_ (hh.next + 12)) _
  have f4 : ∀ j,j < hh.next -> (h3.put (hh.next + 12) (some (Blk.cells (B X) 0 false))).get j = h3.get j := fun j hj => by simp (maxSteps := 2000000) (implicitDefEqProofs := false) (disch := first | omega | (simp only [SD.down,uA,uL] <;> omega) | fail) only [TQ.down,resE,oneV, ↓reduceIte,reduceCtorEq,uB,uE,uL,uA,uM,uS,uN,uX,uO,vR,vD,vL,vK,vE,vA,vM,vT,vS]
  have fr03 := fr.trans fr13 hC
  have n4 : (h3.put (hh.next + 12) (some (Blk.cells (B X) 0 false))).next = h3.next := by simp (maxSteps := 2000000) (implicitDefEqProofs := false) (disch := first | omega | (simp only [SD.down,uA,uL] <;> omega) | fail) only [TQ.down,resE,oneV, ↓reduceIte,reduceCtorEq,uB,uE,uL,uA,uM,uS,uN,uX,uO,vR,vD,vL,vK,vE,vA,vM,vT,vS]
  have gX : (h3.put (hh.next + 12) (some (Blk.cells (B X) 0 false))).get (hh.next + 12) = some (.cells (B X) 0 false) := by simp (maxSteps := 2000000) (implicitDefEqProofs := false) (disch := first | omega | (simp only [SD.down,uA,uL] <;> omega) | fail) only [TQ.down,resE,oneV, ↓reduceIte,reduceCtorEq,uB,uE,uL,uA,uM,uS,uN,uX,uO,vR,vD,vL,vK,vE,vA,vM,vT,vS]
  have fr4 : Fr (busK kb) c h (h3.put (hh.next + 12) (some (Blk.cells (B X) 0 false))) := ⟨by rw [n4]; exact fr03.le,fun j hj hk => (f4 j (by omega)).trans (fr03.get j hj hk)⟩
  have I4 : BusI (h3.put (hh.next + 12) (some (Blk.cells (B X) 0 false))) C3 kb β cp ps b3 := I3.keep w3.w.msl (by omega) (fun j hj k1 k2 => by
   have : j ≠ hh.next + 12 := fun e => by subst e; omega
   simp (maxSteps := 2000000) (implicitDefEqProofs := false) (disch := first | omega | (simp only [SD.down,uA,uL] <;> omega) | fail) only [TQ.down,resE,oneV, ↓reduceIte,reduceCtorEq,uB,uE,uL,uA,uM,uS,uN,uX,uO,vR,vD,vL,vK,vE,vA,vM,vT,vS]) (fun _ _ => rfl)
  have ow4 : Own 1 (h.next + 1) (h3.put (hh.next + 12) (some (Blk.cells (B X) 0 false))) (σ 10) (B acc) acc.length := owh.keep (by omega) fun j hj => f4 j (ow.ge hj).2
  have g04 := (f4 _ gn).trans g03
  have hC4 : ∀ j,j < h.next -> C3 j = c j := fun j hj => (hC' j (by omega)).trans (hC j hj)
  by_cases hE : E = 0
  ·subst hE
   rw [if_pos rfl] at e3
   obtain ⟨h5,ea,ow5,n5,fr5⟩ := ow4.app (m := 63) (o := 0) (c := 64) el33 (by omega) (smallB (by omega)) gX (cut_all (by rw [B_len,xl]; rfl)) (by rw [B_len,xl]) (allSc_B X)
   rw [n4] at ea ow5 n5 fr5
   simp (maxSteps := 2000000) (implicitDefEqProofs := false) (disch := first | omega | (simp only [SD.down,uA,uL] <;> omega) | fail) only [run_it,s1,s2,s4,s14,s15,g0k,g0',zz_fold,xl,hzz,cutB_all,over_B,sg88,gat,ow.ok,apB,cls_append,ea,env_P,env_L,TQ.down,resE,oneV, ↓reduceIte,reduceCtorEq,uB,uE,uL,uA,uM,uS,uN,uX,uO,vR,vD,vL,vK,vE,vA,vM,vT,vS]
   refine ih _ _ ⟨q + 1,b3,pnt C3 h3.next 0,acc ++ X,by omega,by simp (maxSteps := 2000000) (implicitDefEqProofs := false) (disch := first | omega | (simp only [SD.down,uA,uL] <;> omega) | fail) only [s1,TQ.down,resE,oneV, ↓reduceIte,reduceCtorEq,uB,uE,uL,uA,uM,uS,uN,uX,uO,vR,vD,vL,vK,vE,vA,vM,vT,vS],by simp (maxSteps := 2000000) (implicitDefEqProofs := false) (disch := first | omega | (simp only [SD.down,uA,uL] <;> omega) | fail) only [s2,TQ.down,resE,oneV, ↓reduceIte,reduceCtorEq,uB,uE,uL,uA,uM,uS,uN,uX,uO,vR,vD,vL,vK,vE,vA,vM,vT,vS],by simp (maxSteps := 2000000) (implicitDefEqProofs := false) (disch := first | omega | (simp only [SD.down,uA,uL] <;> omega) | fail) only [s4,TQ.down,resE,oneV, ↓reduceIte,reduceCtorEq,uB,uE,uL,uA,uM,uS,uN,uX,uO,vR,vD,vL,vK,vE,vA,vM,vT,vS],by simp (maxSteps := 2000000) (implicitDefEqProofs := false) (disch := first | omega | (simp only [SD.down,uA,uL] <;> omega) | fail) only [s14,TQ.down,resE,oneV, ↓reduceIte,reduceCtorEq,uB,uE,uL,uA,uM,uS,uN,uX,uO,vR,vD,vL,vK,vE,vA,vM,vT,vS],by simp (maxSteps := 2000000) (implicitDefEqProofs := false) (disch := first | omega | (simp only [SD.down,uA,uL] <;> omega) | fail) only [TQ.down,resE,oneV, ↓reduceIte,reduceCtorEq,uB,uE,uL,uA,uM,uS,uN,uX,uO,vR,vD,vL,vK,vE,vA,vM,vT,vS], ?_,by simp [ha,xl]; omega,fun K hK => ?_,I4.keep w3.w.msl (by omega) (fun j hj k1 k2 => fr5 j (by omega) fun e => ?_) (fun j hj => pnt_lt (by omega)),w3,e13,by omega,by rw [e3]; rfl,(fr5 _ (by omega) fun e => by have := ow.ge e; omega).trans g04,by omega,(pnt_lt (by omega)).trans ((hC' _ gn).trans c0),⟨by omega,fun j hj hk => (fr5 j (by omega) fun e => by have := ow.ge e; omega).trans (fr4.get j hj hk)⟩,fun j hj => (pnt_lt (by omega)).trans (hC4 j hj)⟩
   ·simp (maxSteps := 2000000) (implicitDefEqProofs := false) (disch := first | omega | (simp only [SD.down,uA,uL] <;> omega) | fail) only [TQ.down,resE,oneV, ↓reduceIte,reduceCtorEq,uB,uE,uL,uA,uM,uS,uN,uX,uO,vR,vD,vL,vK,vE,vA,vM,vT,vS]
    simpa [B,xl] using ow5
   ·simp (maxSteps := 2000000) (implicitDefEqProofs := false) (disch := first | omega | (simp only [SD.down,uA,uL] <;> omega) | fail) only [TQ.down,resE,oneV, ↓reduceIte,reduceCtorEq,uB,uE,uL,uA,uM,uS,uN,uX,uO,vR,vD,vL,vK,vE,vA,vM,vT,vS] at hK
    cases hK
    exact pnt_ge (Nat.le_refl _)
   ·have := oc j e
    have := hC' j (ow.ge e).2
    omega
  ·rw [if_neg hE] at e3
   simp (maxSteps := 2000000) (implicitDefEqProofs := false) (disch := first | omega | (simp only [SD.down,uA,uL] <;> omega) | fail) only [run_it,s1,s2,s4,s14,s15,g0k,g0',zz_fold,xl,hzz,cutB_all,over_B,sg88,gat,ow.ok,env_P,env_L,TQ.down,resE,oneV, ↓reduceIte,reduceCtorEq,uB,uE,uL,uA,uM,uS,uN,uX,uO,vR,vD,vL,vK,vE,vA,vM,vT,vS]
   rw [e3] at hX
   subst hX
   exact G.ok ⟨C3,_,rfl, .inl ⟨rfl,rfl,rfl⟩,(fun _ x => by cases x),I4,fr4,hC4⟩
 ·exact ⟨0,b,pnt c h.next 0,[],by omega,by simp (maxSteps := 2000000) (implicitDefEqProofs := false) (disch := first | omega | (simp only [SD.down,uA,uL] <;> omega) | fail) only [TQ.down,resE,oneV, ↓reduceIte,reduceCtorEq,uB,uE,uL,uA,uM,uS,uN,uX,uO,vR,vD,vL,vK,vE,vA,vM,vT,vS],by simp (maxSteps := 2000000) (implicitDefEqProofs := false) (disch := first | omega | (simp only [SD.down,uA,uL] <;> omega) | fail) only [TQ.down,resE,oneV, ↓reduceIte,reduceCtorEq,uB,uE,uL,uA,uM,uS,uN,uX,uO,vR,vD,vL,vK,vE,vA,vM,vT,vS],by simp (maxSteps := 2000000) (implicitDefEqProofs := false) (disch := first | omega | (simp only [SD.down,uA,uL] <;> omega) | fail) only [TQ.down,resE,oneV, ↓reduceIte,reduceCtorEq,uB,uE,uL,uA,uM,uS,uN,uX,uO,vR,vD,vL,vK,vE,vA,vM,vT,vS],by simp (maxSteps := 2000000) (implicitDefEqProofs := false) (disch := first | omega | (simp only [SD.down,uA,uL] <;> omega) | fail) only [TQ.down,resE,oneV, ↓reduceIte,reduceCtorEq,uB,uE,uL,uA,uM,uS,uN,uX,uO,vR,vD,vL,vK,vE,vA,vM,vT,vS],by simp (maxSteps := 2000000) (implicitDefEqProofs := false) (disch := first | omega | (simp only [SD.down,uA,uL] <;> omega) | fail) only [TQ.down,resE,oneV, ↓reduceIte,reduceCtorEq,uB,uE,uL,uA,uM,uS,uN,uX,uO,vR,vD,vL,vK,vE,vA,vM,vT,vS],by simp (maxSteps := 2000000) (implicitDefEqProofs := false) (disch := first | omega | (simp only [SD.down,uA,uL] <;> omega) | fail) only [TQ.down,resE,oneV, ↓reduceIte,reduceCtorEq,uB,uE,uL,uA,uM,uS,uN,uX,uO,vR,vD,vL,vK,vE,vA,vM,vT,vS]; exact .inl ⟨rfl,rfl,rfl⟩,rfl,(by simp (maxSteps := 2000000) (implicitDefEqProofs := false) (disch := first | omega | (simp only [SD.down,uA,uL] <;> omega) | fail) only [TQ.down,resE,oneV, ↓reduceIte,reduceCtorEq,uB,uE,uL,uA,uM,uS,uN,uX,uO,vR,vD,vL,vK,vE,vA,vM,vT,vS]; intro K x; cases x),I.keeps w.w.msl ((Keeps.refl h).post (by simp (maxSteps := 2000000) (implicitDefEqProofs := false) (disch := first | omega | (simp only [SD.down,uA,uL] <;> omega) | fail) only [TQ.down,resE,oneV, ↓reduceIte,reduceCtorEq,uB,uE,uL,uA,uM,uS,uN,uX,uO,vR,vD,vL,vK,vE,vA,vM,vT,vS] <;> omega) (fun j hj => by simp (maxSteps := 2000000) (implicitDefEqProofs := false) (disch := first | omega | (simp only [SD.down,uA,uL] <;> omega) | fail) only [TQ.down,resE,oneV, ↓reduceIte,reduceCtorEq,uB,uE,uL,uA,uM,uS,uN,uX,uO,vR,vD,vL,vK,vE,vA,vM,vT,vS])) (fun j hj => pnt_lt hj),w,rfl,rfl,rfl,by simp (maxSteps := 2000000) (implicitDefEqProofs := false) (disch := first | omega | (simp only [SD.down,uA,uL] <;> omega) | fail) only [TQ.down,resE,oneV, ↓reduceIte,reduceCtorEq,uB,uE,uL,uA,uM,uS,uN,uX,uO,vR,vD,vL,vK,vE,vA,vM,vT,vS],by simp (maxSteps := 2000000) (implicitDefEqProofs := false) (disch := first | omega | (simp only [SD.down,uA,uL] <;> omega) | fail) only [TQ.down,resE,oneV, ↓reduceIte,reduceCtorEq,uB,uE,uL,uA,uM,uS,uN,uX,uO,vR,vD,vL,vK,vE,vA,vM,vT,vS] <;> omega,pnt_ge (Nat.le_refl _), .of ((Keeps.refl h).post (by simp (maxSteps := 2000000) (implicitDefEqProofs := false) (disch := first | omega | (simp only [SD.down,uA,uL] <;> omega) | fail) only [TQ.down,resE,oneV, ↓reduceIte,reduceCtorEq,uB,uE,uL,uA,uM,uS,uN,uX,uO,vR,vD,vL,vK,vE,vA,vM,vT,vS] <;> omega) (fun j hj => by simp (maxSteps := 2000000) (implicitDefEqProofs := false) (disch := first | omega | (simp only [SD.down,uA,uL] <;> omega) | fail) only [TQ.down,resE,oneV, ↓reduceIte,reduceCtorEq,uB,uE,uL,uA,uM,uS,uN,uX,uO,vR,vD,vL,vK,vE,vA,vM,vT,vS])),fun j hj => pnt_lt hj⟩
theorem own_byR {n0 : Nat} {h : Heap} {v : AV} {l : List Nat} (x : Own 1 n0 h v (B l) l.length) : ByR h v l /\ ∀ K,blkA v = some K -> blkE v = some K /\ n0 <= K := by
 rcases x with ⟨h0,rfl,_⟩ | ⟨K,rfl,h1,h2,h3,h4,h5⟩
 ·exact ⟨.inl ⟨List.length_eq_zero_iff.1 h0,rfl⟩,fun K x => by cases x⟩
 ·exact ⟨.inr (.inr ⟨K,0,0,_,_,_,rfl,h2,h3,cut_all (by rw [B_len]; exact beq_self_eq_true _)⟩),fun K x => by cases x; exact ⟨rfl,h1⟩⟩
def jMay (n : Nat) (m r hf mem : Int) : Bool := decide (jOk n m r hf = true /\ 0 <= mem /\ mem < m)
theorem member_ok (d : Nat) (h : Heap) (c : Col) (kb β cp : Nat) (ps : List Nat) (b : BS) (I : BusI h c kb β cp ps b) (w : b.wf) (m r hf mem : Int) : G (callD env (d + 5) 28 [.agg (plC β m r hf), .int .i64 mem] h) fun v h' => v = .int .i64 (cond (jMay b.ms.length m r hf mem) 0 2) /\ Keeps h h' := by
 refine G.gen fun Q hX => ?_
 unfold plC
 rw [callD_run (E := env) [] (by kernel_rfl) Try.func28 rfl (by rw [Try.ntmps28]; simp) (by kernel_rfl)]; simp (maxSteps := 2000000) (implicitDefEqProofs := false) (disch := first | omega | (simp only [SD.down,uA,uL] <;> omega) | fail) only [Try.ntmps28,Try.results28,env_P,env_L,TQ.down,resE,oneV, ↓reduceIte,reduceCtorEq,uB,uE,uL,uA,uM,uS,uN,uX,uO,vR,vD,vL,vK,vE,vA,vM,vT,vS]
 first | refine G.call (check_ok d _ (pnt c h.next 0) kb β cp ps b (I.keeps w.msl ((Keeps.refl h).post (by simp (maxSteps := 2000000) (implicitDefEqProofs := false) (disch := first | omega | (simp only [SD.down,uA,uL] <;> omega) | fail) only [TQ.down,resE,oneV, ↓reduceIte,reduceCtorEq,uB,uE,uL,uA,uM,uS,uN,uX,uO,vR,vD,vL,vK,vE,vA,vM,vT,vS] <;> omega) (fun j hj => by simp (maxSteps := 2000000) (implicitDefEqProofs := false) (disch := first | omega | (simp only [SD.down,uA,uL] <;> omega) | fail) only [TQ.down,resE,oneV, ↓reduceIte,reduceCtorEq,uB,uE,uL,uA,uM,uS,uN,uX,uO,vR,vD,vL,vK,vE,vA,vM,vT,vS])) fun j hj => pnt_lt hj) w m r hf) ?_ | refine G.callC (check_ok d _ (pnt c h.next 0) kb β cp ps b (I.keeps w.msl ((Keeps.refl h).post (by simp (maxSteps := 2000000) (implicitDefEqProofs := false) (disch := first | omega | (simp only [SD.down,uA,uL] <;> omega) | fail) only [TQ.down,resE,oneV, ↓reduceIte,reduceCtorEq,uB,uE,uL,uA,uM,uS,uN,uX,uO,vR,vD,vL,vK,vE,vA,vM,vT,vS] <;> omega) (fun j hj => by simp (maxSteps := 2000000) (implicitDefEqProofs := false) (disch := first | omega | (simp only [SD.down,uA,uL] <;> omega) | fail) only [TQ.down,resE,oneV, ↓reduceIte,reduceCtorEq,uB,uE,uL,uA,uM,uS,uN,uX,uO,vR,vD,vL,vK,vE,vA,vM,vT,vS])) fun j hj => pnt_lt hj) w m r hf) ?_ | refine G.callL (check_ok d _ (pnt c h.next 0) kb β cp ps b (I.keeps w.msl ((Keeps.refl h).post (by simp (maxSteps := 2000000) (implicitDefEqProofs := false) (disch := first | omega | (simp only [SD.down,uA,uL] <;> omega) | fail) only [TQ.down,resE,oneV, ↓reduceIte,reduceCtorEq,uB,uE,uL,uA,uM,uS,uN,uX,uO,vR,vD,vL,vK,vE,vA,vM,vT,vS] <;> omega) (fun j hj => by simp (maxSteps := 2000000) (implicitDefEqProofs := false) (disch := first | omega | (simp only [SD.down,uA,uL] <;> omega) | fail) only [TQ.down,resE,oneV, ↓reduceIte,reduceCtorEq,uB,uE,uL,uA,uM,uS,uN,uX,uO,vR,vD,vL,vK,vE,vA,vM,vT,vS])) fun j hj => pnt_lt hj) w m r hf) ?_
 rintro v h1 ⟨rfl,k1⟩
 have n1 := k1.1
 simp (maxSteps := 2000000) (implicitDefEqProofs := false) (disch := first | omega | (simp only [SD.down,uA,uL] <;> omega) | fail) only [TQ.down,resE,oneV, ↓reduceIte,reduceCtorEq,uB,uE,uL,uA,uM,uS,uN,uX,uO,vR,vD,vL,vK,vE,vA,vM,vT,vS] at n1
 have g0 : h1.get h.next = some (.cells [.ptr β 0, .int .i64 m, .int .i64 r, .int .i64 hf] 0 false) := by rw [k1.2 _ (by simp (maxSteps := 2000000) (implicitDefEqProofs := false) (disch := first | omega | (simp only [SD.down,uA,uL] <;> omega) | fail) only [TQ.down,resE,oneV, ↓reduceIte,reduceCtorEq,uB,uE,uL,uA,uM,uS,uN,uX,uO,vR,vD,vL,vK,vE,vA,vM,vT,vS] <;> omega)]; simp (maxSteps := 2000000) (implicitDefEqProofs := false) (disch := first | omega | (simp only [SD.down,uA,uL] <;> omega) | fail) only [TQ.down,resE,oneV, ↓reduceIte,reduceCtorEq,uB,uE,uL,uA,uM,uS,uN,uX,uO,vR,vD,vL,vK,vE,vA,vM,vT,vS]
 cases hj : jOk b.ms.length m r hf with
 | false =>
  have e : jMay b.ms.length m r hf mem = false := decide_eq_false fun x => by rw [hj] at x; cases x.1
  simp (maxSteps := 2000000) (implicitDefEqProofs := false) (disch := first | omega | (simp only [SD.down,uA,uL] <;> omega) | fail) only [cond_false,g0,env_P,env_L,TQ.down,resE,oneV, ↓reduceIte,reduceCtorEq,uB,uE,uL,uA,uM,uS,uN,uX,uO,vR,vD,vL,vK,vE,vA,vM,vT,vS]
  subst hX
  exact G.ok ⟨by rw [e]; rfl,k1.pre (by simp (maxSteps := 2000000) (implicitDefEqProofs := false) (disch := first | omega | (simp only [SD.down,uA,uL] <;> omega) | fail) only [TQ.down,resE,oneV, ↓reduceIte,reduceCtorEq,uB,uE,uL,uA,uM,uS,uN,uX,uO,vR,vD,vL,vK,vE,vA,vM,vT,vS] <;> omega) (fun j hj => by simp (maxSteps := 2000000) (implicitDefEqProofs := false) (disch := first | omega | (simp only [SD.down,uA,uL] <;> omega) | fail) only [TQ.down,resE,oneV, ↓reduceIte,reduceCtorEq,uB,uE,uL,uA,uM,uS,uN,uX,uO,vR,vD,vL,vK,vE,vA,vM,vT,vS])⟩
 | true =>
  by_cases h0 : mem < 0
  ·have e : jMay b.ms.length m r hf mem = false := decide_eq_false fun x => by omega
   simp (maxSteps := 2000000) (implicitDefEqProofs := false) (disch := first | omega | (simp only [SD.down,uA,uL] <;> omega) | fail) only [cond_true,g0,env_P,env_L,TQ.down,resE,oneV, ↓reduceIte,reduceCtorEq,uB,uE,uL,uA,uM,uS,uN,uX,uO,vR,vD,vL,vK,vE,vA,vM,vT,vS]
   subst hX
   exact G.ok ⟨by rw [e]; rfl,k1.pre (by simp (maxSteps := 2000000) (implicitDefEqProofs := false) (disch := first | omega | (simp only [SD.down,uA,uL] <;> omega) | fail) only [TQ.down,resE,oneV, ↓reduceIte,reduceCtorEq,uB,uE,uL,uA,uM,uS,uN,uX,uO,vR,vD,vL,vK,vE,vA,vM,vT,vS] <;> omega) (fun j hj => by simp (maxSteps := 2000000) (implicitDefEqProofs := false) (disch := first | omega | (simp only [SD.down,uA,uL] <;> omega) | fail) only [TQ.down,resE,oneV, ↓reduceIte,reduceCtorEq,uB,uE,uL,uA,uM,uS,uN,uX,uO,vR,vD,vL,vK,vE,vA,vM,vT,vS])⟩
  by_cases h2 : mem < m
  ·have e : jMay b.ms.length m r hf mem = true := decide_eq_true ⟨hj,by omega,h2⟩
   simp (maxSteps := 2000000) (implicitDefEqProofs := false) (disch := first | omega | (simp only [SD.down,uA,uL] <;> omega) | fail) only [cond_true,g0,env_P,env_L,TQ.down,resE,oneV, ↓reduceIte,reduceCtorEq,uB,uE,uL,uA,uM,uS,uN,uX,uO,vR,vD,vL,vK,vE,vA,vM,vT,vS]
   subst hX
   exact G.ok ⟨by rw [e]; rfl,k1.pre (by simp (maxSteps := 2000000) (implicitDefEqProofs := false) (disch := first | omega | (simp only [SD.down,uA,uL] <;> omega) | fail) only [TQ.down,resE,oneV, ↓reduceIte,reduceCtorEq,uB,uE,uL,uA,uM,uS,uN,uX,uO,vR,vD,vL,vK,vE,vA,vM,vT,vS] <;> omega) (fun j hj => by simp (maxSteps := 2000000) (implicitDefEqProofs := false) (disch := first | omega | (simp only [SD.down,uA,uL] <;> omega) | fail) only [TQ.down,resE,oneV, ↓reduceIte,reduceCtorEq,uB,uE,uL,uA,uM,uS,uN,uX,uO,vR,vD,vL,vK,vE,vA,vM,vT,vS])⟩
  ·have e : jMay b.ms.length m r hf mem = false := decide_eq_false fun x => by omega
   simp (maxSteps := 2000000) (implicitDefEqProofs := false) (disch := first | omega | (simp only [SD.down,uA,uL] <;> omega) | fail) only [cond_true,g0,env_P,env_L,TQ.down,resE,oneV, ↓reduceIte,reduceCtorEq,uB,uE,uL,uA,uM,uS,uN,uX,uO,vR,vD,vL,vK,vE,vA,vM,vT,vS]
   subst hX
   exact G.ok ⟨by rw [e]; rfl,k1.pre (by simp (maxSteps := 2000000) (implicitDefEqProofs := false) (disch := first | omega | (simp only [SD.down,uA,uL] <;> omega) | fail) only [TQ.down,resE,oneV, ↓reduceIte,reduceCtorEq,uB,uE,uL,uA,uM,uS,uN,uX,uO,vR,vD,vL,vK,vE,vA,vM,vT,vS] <;> omega) (fun j hj => by simp (maxSteps := 2000000) (implicitDefEqProofs := false) (disch := first | omega | (simp only [SD.down,uA,uL] <;> omega) | fail) only [TQ.down,resE,oneV, ↓reduceIte,reduceCtorEq,uB,uE,uL,uA,uM,uS,uN,uX,uO,vR,vD,vL,vK,vE,vA,vM,vT,vS])⟩
def jRoot (b : BS) (m r hf mem : Int) : List Nat × Int × BS := if jMay b.ms.length m r hf mem = true then jR mem (jPos m r hf) 2 0 [] b else ([],2,b)
theorem jroot_ok (d : Nat) (h : Heap) (c : Col) (kb β cp : Nat) (ps : List Nat) (b : BS) (m r hf mem : Int) (kb10 : 10 <= kb) (I : BusI h c kb β cp ps b) (w : BOk b) (hlog : b.log.length + 2 < 3980) (hst : SAll (d + 1) kb β cp ps b.steps) :
  G (callD env (d + 13) 9 [.ptr β 0,gA m r, .int .i64 hf, .int .i64 mem] h) fun v h' => ∃ C' tv,v = .tup [tv, .int .i64 (jRoot b m r hf mem).2.1] /\ ByR h' tv (jRoot b m r hf mem).1 /\ (∀ K,blkA tv = some K -> h.next <= K /\ C' K = 0) /\ BusI h' C' kb β cp ps (jRoot b m r hf mem).2.2 /\ Fr (busK kb) c h h' /\ ∀ j,j < h.next -> C' j = c j := by
 refine G.gen fun Q hX => ?_
 unfold gA
 rw [callD_run (E := env) [] (by kernel_rfl) Try.func9 rfl (by rw [Try.ntmps9]; simp) (by kernel_rfl)]; simp (maxSteps := 2000000) (implicitDefEqProofs := false) (disch := first | omega | (simp only [SD.down,uA,uL] <;> omega) | fail) only [Try.ntmps9,Try.results9,env_P,env_L,bldA,bldB,TQ.down,resE,oneV, ↓reduceIte,reduceCtorEq,uB,uE,uL,uA,uM,uS,uN,uX,uO,vR,vD,vL,vK,vE,vA,vM,vT,vS]
 have kp0 : Keeps h (((h.new (Blk.cells [AV.int IntKind.i64 m,AV.int IntKind.i64 r] 0 false)).new (Blk.cells (AV.nilptr :: List.replicate 3 (AV.int IntKind.i64 0)) 0 false)).put (h.next + 1) (some (Blk.cells [AV.ptr β 0,AV.int IntKind.i64 m,AV.int IntKind.i64 r,AV.int IntKind.i64 hf] 0 false))) := (Keeps.refl h).post (by simp (maxSteps := 2000000) (implicitDefEqProofs := false) (disch := first | omega | (simp only [SD.down,uA,uL] <;> omega) | fail) only [TQ.down,resE,oneV, ↓reduceIte,reduceCtorEq,uB,uE,uL,uA,uM,uS,uN,uX,uO,vR,vD,vL,vK,vE,vA,vM,vT,vS] <;> omega) (fun j hj => by simp (maxSteps := 2000000) (implicitDefEqProofs := false) (disch := first | omega | (simp only [SD.down,uA,uL] <;> omega) | fail) only [TQ.down,resE,oneV, ↓reduceIte,reduceCtorEq,uB,uE,uL,uA,uM,uS,uN,uX,uO,vR,vD,vL,vK,vE,vA,vM,vT,vS])
 have ce : ∀ j,j < h.next -> pnt c h.next 0 j = c j := fun j hj => pnt_lt hj
 first | refine G.call (member_ok (d + 7) _ (pnt c h.next 0) kb β cp ps b (I.keeps w.w.msl kp0 ce) w.w m r hf mem) ?_ | refine G.callC (member_ok (d + 7) _ (pnt c h.next 0) kb β cp ps b (I.keeps w.w.msl kp0 ce) w.w m r hf mem) ?_ | refine G.callL (member_ok (d + 7) _ (pnt c h.next 0) kb β cp ps b (I.keeps w.w.msl kp0 ce) w.w m r hf mem) ?_
 rintro v h1 ⟨rfl,k1⟩
 have n1 := k1.1
 simp (maxSteps := 2000000) (implicitDefEqProofs := false) (disch := first | omega | (simp only [SD.down,uA,uL] <;> omega) | fail) only [TQ.down,resE,oneV, ↓reduceIte,reduceCtorEq,uB,uE,uL,uA,uM,uS,uN,uX,uO,vR,vD,vL,vK,vE,vA,vM,vT,vS] at n1
 have g12 : h1.get (h.next + 1) = some (.cells [.ptr β 0, .int .i64 m, .int .i64 r, .int .i64 hf] 0 false) := by rw [k1.2 _ (by simp (maxSteps := 2000000) (implicitDefEqProofs := false) (disch := first | omega | (simp only [SD.down,uA,uL] <;> omega) | fail) only [TQ.down,resE,oneV, ↓reduceIte,reduceCtorEq,uB,uE,uL,uA,uM,uS,uN,uX,uO,vR,vD,vL,vK,vE,vA,vM,vT,vS] <;> omega)]; simp (maxSteps := 2000000) (implicitDefEqProofs := false) (disch := first | omega | (simp only [SD.down,uA,uL] <;> omega) | fail) only [TQ.down,resE,oneV, ↓reduceIte,reduceCtorEq,uB,uE,uL,uA,uM,uS,uN,uX,uO,vR,vD,vL,vK,vE,vA,vM,vT,vS]
 have kp1 := kp0.trans k1
 cases hj : jMay b.ms.length m r hf mem with
 | false =>
  have e : jRoot b m r hf mem = ([],2,b) := if_neg (by rw [hj]; simp)
  rw [e] at hX
  simp (maxSteps := 2000000) (implicitDefEqProofs := false) (disch := first | omega | (simp only [SD.down,uA,uL] <;> omega) | fail) only [cond_false,env_P,env_L,TQ.down,resE,oneV, ↓reduceIte,reduceCtorEq,uB,uE,uL,uA,uM,uS,uN,uX,uO,vR,vD,vL,vK,vE,vA,vM,vT,vS]
  subst hX
  exact G.ok ⟨pnt c h.next 0, .nilslice,rfl, .inl ⟨rfl,rfl⟩,(fun _ x => by cases x),I.keeps w.w.msl kp1 ce, .of kp1,ce⟩
 | true =>
  have e : jRoot b m r hf mem = jR mem (jPos m r hf) 2 0 [] b := if_pos hj
  rw [e] at hX
  obtain ⟨hjo,hm0,hm1⟩ := of_decide_eq_true hj
  obtain ⟨hg,hm,hf0,hf1⟩ := of_decide_eq_true hjo
  have h2' := gHalf_ge hg
  simp (maxSteps := 2000000) (implicitDefEqProofs := false) (disch := first | omega | (simp only [SD.down,uA,uL] <;> omega) | fail) only [cond_true,g12,env_P,env_L,TQ.down,resE,oneV, ↓reduceIte,reduceCtorEq,uB,uE,uL,uA,uM,uS,uN,uX,uO,vR,vD,vL,vK,vE,vA,vM,vT,vS]
  first | refine G.call (jread_ok d h1 (pnt c h.next 0) kb β cp ps b m r hf mem 0 2 kb10 (I.keeps w.w.msl kp1 ce) w hg hf0 hf1 (by omega) (by omega) hst) ?_ | refine G.callC (jread_ok d h1 (pnt c h.next 0) kb β cp ps b m r hf mem 0 2 kb10 (I.keeps w.w.msl kp1 ce) w hg hf0 hf1 (by omega) (by omega) hst) ?_ | refine G.callL (jread_ok d h1 (pnt c h.next 0) kb β cp ps b m r hf mem 0 2 kb10 (I.keeps w.w.msl kp1 ce) w hg hf0 hf1 (by omega) (by omega) hst) ?_
  rintro v h2 ⟨C2,tv,rfl,ow,oc,I2,fr2,hC2⟩
  obtain ⟨by1,by2⟩ := own_byR ow
  simp (maxSteps := 2000000) (implicitDefEqProofs := false) (disch := first | omega | (simp only [SD.down,uA,uL] <;> omega) | fail) only [ow.ok,env_P,env_L,TQ.down,resE,oneV, ↓reduceIte,reduceCtorEq,uB,uE,uL,uA,uM,uS,uN,uX,uO,vR,vD,vL,vK,vE,vA,vM,vT,vS]
  subst hX
  exact G.ok ⟨C2,tv,rfl,by1,fun K x => ⟨by have := (by2 K x).2; omega,oc K (by2 K x).1⟩,I2,(Fr.of (c := c) kp1).trans fr2 ce,fun j hj => (hC2 j (by omega)).trans (ce j hj)⟩
def jBody (b : BS) (m r hf mem many : Int) : List Nat × Int × BS :=
 if jMay b.ms.length m r hf mem = true /\ 0 <= many /\ many <= (gCap m r : Nat) then (if (jR mem (jPos m r hf) ((69 * many.toNat + 63) / 64) 2 [] b).2.1 = 0 then ((jR mem (jPos m r hf) ((69 * many.toNat + 63) / 64) 2 [] b).1.take (69 * many.toNat),0,(jR mem (jPos m r hf) ((69 * many.toNat + 63) / 64) 2 [] b).2.2) else ([],(jR mem (jPos m r hf) ((69 * many.toNat + 63) / 64) 2 [] b).2.1,(jR mem (jPos m r hf) ((69 * many.toNat + 63) / 64) 2 [] b).2.2)) else ([],2,b)
theorem jR_keep (mem : Int) (at_ : Nat -> Int) : ∀ (n i : Nat) (acc : List Nat) (b : BS),BOk b -> b.log.length + n < 3980 -> BOk (jR mem at_ n i acc b).2.2 /\ (jR mem at_ n i acc b).2.2.steps = b.steps /\ (jR mem at_ n i acc b).2.2.ms.length = b.ms.length /\ (jR mem at_ n i acc b).2.2.log.length <= b.log.length + n /\ ((jR mem at_ n i acc b).2.1 = 0 -> (jR mem at_ n i acc b).1.length = acc.length + n * 64)
 | 0,i,acc,b,w,_ => ⟨w,rfl,rfl,by simp [jR],fun _ => by simp [jR]⟩
 | n + 1,i,acc,b,w,hn => by
  obtain ⟨w1,l1⟩ := w.read (by omega) mem (at_ i)
  have e1 := BS.read_steps b mem (at_ i)
  have e2 := BS.read_ms b mem (at_ i)
  have e3 := BS.read_x w.w mem (at_ i)
  rw [jR]
  split
  ·obtain ⟨a1,a2,a3,a4,a5⟩ := jR_keep mem at_ n (i + 1) (acc ++ (b.read mem (at_ i)).1.x) (b.read mem (at_ i)).2 w1 (by omega)
   exact ⟨a1,a2.trans e1,a3.trans e2,by omega,fun x => by rw [a5 x]; simp [e3]; omega⟩
  ·rename_i h
   exact ⟨w1,e1,e2,by simp only; omega,fun x => absurd x h⟩
theorem jbody_ok (d : Nat) (h : Heap) (c : Col) (kb β cp : Nat) (ps : List Nat) (b : BS) (m r hf mem many : Int) (kb10 : 10 <= kb) (I : BusI h c kb β cp ps b) (w : BOk b) (hlog : b.log.length + 920 < 3980 \/ b.log.length + ((69 * many.toNat + 63) / 64) < 3980) (hst : SAll (d + 1) kb β cp ps b.steps) :
  G (callD env (d + 13) 10 [.ptr β 0,gA m r, .int .i64 hf, .int .i64 mem, .int .i64 many] h) fun v h' => ∃ C' tv,v = .tup [tv, .int .i64 (jBody b m r hf mem many).2.1] /\ ByR h' tv (jBody b m r hf mem many).1 /\ (∀ K,blkA tv = some K -> h.next <= K /\ C' K = 0) /\ BusI h' C' kb β cp ps (jBody b m r hf mem many).2.2 /\ Fr (busK kb) c h h' /\ ∀ j,j < h.next -> C' j = c j := by
 refine G.gen fun Q hX => ?_
 have hC := gCap_le m r
 unfold gA
 rw [callD_run (E := env) [] (by kernel_rfl) Try.func10 rfl (by rw [Try.ntmps10]; simp) (by kernel_rfl)]; simp (maxSteps := 2000000) (implicitDefEqProofs := false) (disch := first | omega | (simp only [SD.down,uA,uL] <;> omega) | fail) only [Try.ntmps10,Try.results10,env_P,env_L,bldA,bldB,TQ.down,resE,oneV, ↓reduceIte,reduceCtorEq,uB,uE,uL,uA,uM,uS,uN,uX,uO,vR,vD,vL,vK,vE,vA,vM,vT,vS]
 have kp0 : Keeps h (((h.new (Blk.cells [AV.int IntKind.i64 m,AV.int IntKind.i64 r] 0 false)).new (Blk.cells (AV.nilptr :: List.replicate 3 (AV.int IntKind.i64 0)) 0 false)).put (h.next + 1) (some (Blk.cells [AV.ptr β 0,AV.int IntKind.i64 m,AV.int IntKind.i64 r,AV.int IntKind.i64 hf] 0 false))) := (Keeps.refl h).post (by simp (maxSteps := 2000000) (implicitDefEqProofs := false) (disch := first | omega | (simp only [SD.down,uA,uL] <;> omega) | fail) only [TQ.down,resE,oneV, ↓reduceIte,reduceCtorEq,uB,uE,uL,uA,uM,uS,uN,uX,uO,vR,vD,vL,vK,vE,vA,vM,vT,vS] <;> omega) (fun j hj => by simp (maxSteps := 2000000) (implicitDefEqProofs := false) (disch := first | omega | (simp only [SD.down,uA,uL] <;> omega) | fail) only [TQ.down,resE,oneV, ↓reduceIte,reduceCtorEq,uB,uE,uL,uA,uM,uS,uN,uX,uO,vR,vD,vL,vK,vE,vA,vM,vT,vS])
 have ce : ∀ j,j < h.next -> pnt c h.next 0 j = c j := fun j hj => pnt_lt hj
 first | refine G.call (member_ok (d + 7) _ (pnt c h.next 0) kb β cp ps b (I.keeps w.w.msl kp0 ce) w.w m r hf mem) ?_ | refine G.callC (member_ok (d + 7) _ (pnt c h.next 0) kb β cp ps b (I.keeps w.w.msl kp0 ce) w.w m r hf mem) ?_ | refine G.callL (member_ok (d + 7) _ (pnt c h.next 0) kb β cp ps b (I.keeps w.w.msl kp0 ce) w.w m r hf mem) ?_
 rintro v h1 ⟨rfl,k1⟩
 have n1 := k1.1
 simp (maxSteps := 2000000) (implicitDefEqProofs := false) (disch := first | omega | (simp only [SD.down,uA,uL] <;> omega) | fail) only [TQ.down,resE,oneV, ↓reduceIte,reduceCtorEq,uB,uE,uL,uA,uM,uS,uN,uX,uO,vR,vD,vL,vK,vE,vA,vM,vT,vS] at n1
 have g6 : h1.get h.next = some (.cells [.int .i64 m, .int .i64 r] 0 false) := by rw [k1.2 _ (by simp (maxSteps := 2000000) (implicitDefEqProofs := false) (disch := first | omega | (simp only [SD.down,uA,uL] <;> omega) | fail) only [TQ.down,resE,oneV, ↓reduceIte,reduceCtorEq,uB,uE,uL,uA,uM,uS,uN,uX,uO,vR,vD,vL,vK,vE,vA,vM,vT,vS] <;> omega)]; simp (maxSteps := 2000000) (implicitDefEqProofs := false) (disch := first | omega | (simp only [SD.down,uA,uL] <;> omega) | fail) only [TQ.down,resE,oneV, ↓reduceIte,reduceCtorEq,uB,uE,uL,uA,uM,uS,uN,uX,uO,vR,vD,vL,vK,vE,vA,vM,vT,vS]
 have g12 : h1.get (h.next + 1) = some (.cells [.ptr β 0, .int .i64 m, .int .i64 r, .int .i64 hf] 0 false) := by rw [k1.2 _ (by simp (maxSteps := 2000000) (implicitDefEqProofs := false) (disch := first | omega | (simp only [SD.down,uA,uL] <;> omega) | fail) only [TQ.down,resE,oneV, ↓reduceIte,reduceCtorEq,uB,uE,uL,uA,uM,uS,uN,uX,uO,vR,vD,vL,vK,vE,vA,vM,vT,vS] <;> omega)]; simp (maxSteps := 2000000) (implicitDefEqProofs := false) (disch := first | omega | (simp only [SD.down,uA,uL] <;> omega) | fail) only [TQ.down,resE,oneV, ↓reduceIte,reduceCtorEq,uB,uE,uL,uA,uM,uS,uN,uX,uO,vR,vD,vL,vK,vE,vA,vM,vT,vS]
 have kp1 := kp0.trans k1
 have fin : ∀ H : Heap,Keeps h H -> ¬ (jMay b.ms.length m r hf mem = true /\ 0 <= many /\ many <= (gCap m r : Nat)) -> G (some (AV.tup [.nilslice, .int .i64 2],H)) Q := by
  intro H k eq
  have e : jBody b m r hf mem many = ([],2,b) := if_neg eq
  rw [e] at hX
  subst hX
  exact G.ok ⟨pnt c h.next 0, .nilslice,rfl, .inl ⟨rfl,rfl⟩,(fun _ x => by cases x),I.keeps w.w.msl k ce, .of k,ce⟩
 cases hj : jMay b.ms.length m r hf mem with
 | false =>
  simp (maxSteps := 2000000) (implicitDefEqProofs := false) (disch := first | omega | (simp only [SD.down,uA,uL] <;> omega) | fail) only [cond_false,env_P,env_L,TQ.down,resE,oneV, ↓reduceIte,reduceCtorEq,uB,uE,uL,uA,uM,uS,uN,uX,uO,vR,vD,vL,vK,vE,vA,vM,vT,vS]
  exact fin h1 kp1 (by rw [hj]; simp)
 | true =>
 by_cases hm0 : many < 0
 ·simp (maxSteps := 2000000) (implicitDefEqProofs := false) (disch := first | omega | (simp only [SD.down,uA,uL] <;> omega) | fail) only [cond_true,g6,g12,env_P,env_L,TQ.down,resE,oneV, ↓reduceIte,reduceCtorEq,uB,uE,uL,uA,uM,uS,uN,uX,uO,vR,vD,vL,vK,vE,vA,vM,vT,vS]
  exact fin h1 kp1 (by omega)
 simp (maxSteps := 2000000) (implicitDefEqProofs := false) (disch := first | omega | (simp only [SD.down,uA,uL] <;> omega) | fail) only [cond_true,g6,g12,env_P,env_L,TQ.down,resE,oneV, ↓reduceIte,reduceCtorEq,uB,uE,uL,uA,uM,uS,uN,uX,uO,vR,vD,vL,vK,vE,vA,vM,vT,vS]
 first | refine G.call (cap_ok (d + 6) _ m r) ?_ | refine G.callC (cap_ok (d + 6) _ m r) ?_ | refine G.callL (cap_ok (d + 6) _ m r) ?_
 rintro v h2 ⟨rfl,k2⟩
 have n2 := k2.1
 have kp2 := kp1.trans k2
 by_cases hmc : ((gCap m r : Nat) : Int) < many
 ·simp (maxSteps := 2000000) (implicitDefEqProofs := false) (disch := first | omega | (simp only [SD.down,uA,uL] <;> omega) | fail) only [cond_true,g6,g12,env_P,env_L,TQ.down,resE,oneV, ↓reduceIte,reduceCtorEq,uB,uE,uL,uA,uM,uS,uN,uX,uO,vR,vD,vL,vK,vE,vA,vM,vT,vS]
  exact fin h2 kp2 (by omega)
 obtain ⟨hjo,hm0',hm1⟩ := of_decide_eq_true hj
 obtain ⟨hg,hm,hf0,hf1⟩ := of_decide_eq_true hjo
 have h2' := gHalf_ge hg
 have eH : gHalf m r = 2 + (69 * gCap m r + 63) / 64 := by unfold gHalf; rw [if_pos hg]
 obtain ⟨N,rfl⟩ : ∃ N : Nat,many = (N : Int) := ⟨many.toNat,by omega⟩
 have eN : (N * 69 + 64 - 1) / 64 = (69 * N + 63) / 64 := by omega
 have hlog2 : b.log.length + (69 * N + 63) / 64 < 3980 := by rcases hlog with x | x <;> omega
 have hNH : 2 + (69 * N + 63) / 64 <= gHalf m r := by rw [eH]; omega
 have eJ : jBody b m r hf mem N = if (jR mem (jPos m r hf) ((69 * N + 63) / 64) 2 [] b).2.1 = 0 then ((jR mem (jPos m r hf) ((69 * N + 63) / 64) 2 [] b).1.take (69 * N),0,(jR mem (jPos m r hf) ((69 * N + 63) / 64) 2 [] b).2.2) else ([],(jR mem (jPos m r hf) ((69 * N + 63) / 64) 2 [] b).2.1,(jR mem (jPos m r hf) ((69 * N + 63) / 64) 2 [] b).2.2) := if_pos ⟨hj,by omega,by omega⟩
 obtain ⟨w3,e3s,e3m,e3l,e3n⟩ := jR_keep mem (jPos m r hf) ((69 * N + 63) / 64) 2 [] b w hlog2
 have g12' := k2.at (by omega) g12
 obtain ⟨M,hM⟩ : ∃ M,M = (69 * N + 63) / 64 := ⟨_,rfl⟩
 rw [<- hM] at eN eJ hNH hlog2 e3n
 simp (maxSteps := 2000000) (implicitDefEqProofs := false) (disch := first | omega | (simp only [SD.down,uA,uL] <;> omega) | fail) only [cond_true,g6,g12,g12',eN,env_P,env_L,TQ.down,resE,oneV, ↓reduceIte,reduceCtorEq,uB,uE,uL,uA,uM,uS,uN,uX,uO,vR,vD,vL,vK,vE,vA,vM,vT,vS]
 first | refine G.call (jread_ok d h2 (pnt c h.next 0) kb β cp ps b m r hf mem 2 M kb10 (I.keeps w.w.msl kp2 ce) w hg hf0 hf1 hNH hlog2 hst) ?_ | refine G.callC (jread_ok d h2 (pnt c h.next 0) kb β cp ps b m r hf mem 2 M kb10 (I.keeps w.w.msl kp2 ce) w hg hf0 hf1 hNH hlog2 hst) ?_ | refine G.callL (jread_ok d h2 (pnt c h.next 0) kb β cp ps b m r hf mem 2 M kb10 (I.keeps w.w.msl kp2 ce) w hg hf0 hf1 hNH hlog2 hst) ?_
 rintro v h3 ⟨C3,tv,rfl,ow,oc,I3,fr3,hC3⟩
 obtain ⟨by1,by2⟩ := own_byR ow
 have frF := (Fr.of (c := c) kp2).trans fr3 ce
 rw [eJ] at hX
 generalize hT : (jR mem (jPos m r hf) M 2 [] b).1 = T at *
 generalize (jR mem (jPos m r hf) M 2 [] b).2.1 = E at *
 generalize (jR mem (jPos m r hf) M 2 [] b).2.2 = b3 at *
 by_cases hE : E = 0
 ·subst hE
  rw [if_pos rfl] at hX
  have hTl := e3n rfl
  simp only [List.length_nil,Nat.zero_add] at hTl
  have hNT : 69 * N <= T.length := by omega
  have hNT' : N * 69 <= T.length := by omega
  subst hX
  rcases ow with ⟨hz,rfl,_⟩ | ⟨K,rfl,o1,o2,o3,o4,o5⟩
  ·obtain rfl : N = 0 := by omega
   have es : sliceE Try.prog 33 .nilslice none (some (.int .i64 0)) none = some .nilslice := sl_nil_hi Try.underlying33 sz5
   simp (maxSteps := 2000000) (implicitDefEqProofs := false) (disch := first | omega | (simp only [SD.down,uA,uL] <;> omega) | fail) only [es,env_P,env_L,TQ.down,resE,oneV, ↓reduceIte,reduceCtorEq,uB,uE,uL,uA,uM,uS,uN,uX,uO,vR,vD,vL,vK,vE,vA,vM,vT,vS]
   exact G.ok ⟨C3, .nilslice,rfl, .inl ⟨by simp,rfl⟩,(fun _ x => by cases x),I3,frF,fun j hj => (hC3 j (by omega)).trans (ce j hj)⟩
  ·have es : sliceE Try.prog 33 (.eslice K 0 0 T.length) none (some (.int .i64 ((N * 69 : Nat) : Int))) none = some (.eslice K 0 0 (N * 69)) := sl_es_hi Try.underlying33 sz5 _ _ _ _ _ hNT'
   have el : (T.take (69 * N)).length = N * 69 := by rw [List.length_take]; omega
   simp (maxSteps := 2000000) (implicitDefEqProofs := false) (disch := first | omega | (simp only [SD.down,uA,uL] <;> omega) | fail) only [es,env_P,env_L,TQ.down,resE,oneV, ↓reduceIte,reduceCtorEq,uB,uE,uL,uA,uM,uS,uN,uX,uO,vR,vD,vL,vK,vE,vA,vM,vT,vS]
   refine G.ok ⟨C3, .eslice K 0 0 (N * 69),rfl, .inr (.inr ⟨K,0,0,_,_,_,by rw [el],o2,o3, ?_⟩),fun K' x => ?_,I3,frF,fun j hj => (hC3 j (by omega)).trans (ce j hj)⟩
   ·rw [el,Nat.mul_comm N 69]
    exact cut_take (cut_all (by rw [B_len]; exact beq_self_eq_true _)) rfl hNT
   ·cases x
    exact ⟨by omega,oc K rfl⟩
 ·rw [if_neg hE] at hX
  simp (maxSteps := 2000000) (implicitDefEqProofs := false) (disch := first | omega | (simp only [SD.down,uA,uL] <;> omega) | fail) only [ow.ok,env_P,env_L,TQ.down,resE,oneV, ↓reduceIte,reduceCtorEq,uB,uE,uL,uA,uM,uS,uN,uX,uO,vR,vD,vL,vK,vE,vA,vM,vT,vS]
  subst hX
  exact G.ok ⟨C3, .nilslice,rfl, .inl ⟨rfl,rfl⟩,(fun _ x => by cases x),I3,frF,fun j hj => (hC3 j (by omega)).trans (ce j hj)⟩
end Go.Proofs.Ytlnepbkeiianmaa
