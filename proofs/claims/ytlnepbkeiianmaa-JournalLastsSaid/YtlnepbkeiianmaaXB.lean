/- Of this program, for all inputs: contracts. No condition but those in the theorems. -/
import Derived.Test.YtlnepbkeiianmaaXA
import Derived.Test.YtlnepbkeiianmaaRA
namespace Go.Proofs.Ytlnepbkeiianmaa
open Go Go.Ai Go.Aw Go.Proofs
open Nat renaming reduceBEq -> uB,reduceEqDiff -> uE,reduceLT -> uL,reduceAdd -> uA,reduceMul -> uM,reduceSub -> uS,reduceAnd -> uN,reduceXor -> uX,reduceOr -> uO
open Int renaming reduceMod -> vR,reduceDiv -> vD,reduceLT -> vL,reduceLE -> vK,reduceEq -> vE,reduceAdd -> vA,reduceMul -> vM,reduceToNat -> vT,reduceSub -> vS
set_option linter.unusedSimpArgs false
set_option linter.unusedVariables false
set_option maxRecDepth 10000
theorem stp_data {s : Stp} {u : AV} (hs : s.data.length = 64) : cutE 5 64 (s.C u) = some (B s.data) := by
 have e : s.C u = [AV.int .i64 s.tm, .int .i64 s.kind, .int .i64 s.m, .int .i64 s.i, .int .i64 s.n] ++ (B s.data ++ [u]) := rfl
 rw [e]
 exact cut_mid rfl (by simp [B_len,hs])
theorem clo_4 (d : Nat) (H : Heap) (c : Col) (k q r p : Nat) (s : Stp) (u : AV) (S : MS) (hsl : s.data.length = 64) (hq : H.get q = some (.cells [.ptr p 0] 0 false)) (hr : H.get r = some (.cells (s.C u) 0 false)) (I : MemI H c k p S) (w : S.wf) :
  G (callD env (d + 7) 90 [.ptr q 0] H) fun v h' => v = .tup [] /\ MemI h' (pnt c H.next k) k p (S.fail true) /\ Fr (· = k) c H h' := by
 generalize hX : (fun (v : AV) (h' : Heap) => v = .tup [] /\ MemI h' (pnt c H.next k) k p (S.fail true) /\ Fr (· = k) c H h') = Q
 have a3 : (s.C u)[3]? = some (.int .i64 s.i) := rfl
 have a4 : (s.C u)[4]? = some (.int .i64 s.n) := rfl
 have a5 := stp_data (u := u) hsl
 have hz := zz_len
 rw [callD_run (E := env) [] (by kernel_rfl) Try.func90 rfl (by rw [Try.ntmps90]; simp) (by kernel_rfl)]; simp (maxSteps := 2000000) (implicitDefEqProofs := false) (disch := first | omega | (simp only [SD.down,uA,uL] <;> omega) | fail) only [Try.ntmps90,Try.results90,env_P,env_L,hq,hr,a3,a4,a5,hz,hsl,s.C_len u hsl,TQ.down,resE,oneV, ↓reduceIte,reduceCtorEq,uB,uE,uL,uA,uM,uS,uN,uX,uO,vR,vD,vL,vK,vE,vA,vM,vT,vS]
 first | refine G.call (m_fail (d + 3) H c k p S I w true) ?_ | refine G.callC (m_fail (d + 3) H c k p S I w true) ?_ | refine G.callL (m_fail (d + 3) H c k p S I w true) ?_
 rintro v h1 ⟨rfl,M,F⟩
 simp (maxSteps := 2000000) (implicitDefEqProofs := false) (disch := first | omega | (simp only [SD.down,uA,uL] <;> omega) | fail) only [TQ.down,resE,oneV, ↓reduceIte,reduceCtorEq,uB,uE,uL,uA,uM,uS,uN,uX,uO,vR,vD,vL,vK,vE,vA,vM,vT,vS]
 subst hX
 exact G.ok ⟨rfl,M,F⟩
theorem modify_set {l : List MS} {n : Nat} {S : MS} (h : l[n]? = some S) (f : MS -> MS) : l.modify n f = l.set n (f S) := by
 apply List.ext_getElem?
 intro i
 rw [List.getElem?_modify,List.getElem?_set]
 by_cases e : n = i
 ·subst e
  obtain ⟨h1,h2⟩ := List.getElem?_eq_some_iff.1 h
  simp [h1,h2]
 ·simp [e]
theorem step_4 (d : Nat) (kb β cp : Nat) (ps : List Nat) (kb10 : 10 <= kb) (H : Heap) (C : Col) (bb : BS) (s : Stp) (u : AV) (n : Nat) (S : MS) (hk : s.kind = 4) (hsl : s.data.length = 64) (hm : s.m = (n : Int)) (hS : bb.ms[n]? = some S) (wb : bb.wf) (I : BusI H C kb β cp ps bb) (Ms : Nat) (x : PickI H C kb u [β,Ms] s.picks) :
  G (callD env (d + 8) 83 [.ptr β 0, .agg (s.C u)] H) fun v h' => v = .tup [] /\ ∃ C',BusI h' C' kb β cp ps (bb.step s) /\ H.next <= h'.next /\ (∀ j,j < H.next -> C' j = C j) /\ ∀ j,j < H.next -> (C j < kb + 2 \/ kb + 100 <= C j) -> j ≠ β -> h'.get j = H.get j := by
 generalize hX : (fun (v : AV) (h' : Heap) => v = .tup [] /\ ∃ C',BusI h' C' kb β cp ps (bb.step s) /\ H.next <= h'.next /\ (∀ j,j < H.next -> C' j = C j) /\ ∀ j,j < H.next -> (C j < kb + 2 \/ kb + 100 <= C j) -> j ≠ β -> h'.get j = H.get j) = Q
 have I0 := I
 obtain ⟨Ms2,stv,lgv,l1,c1,l2,c2,n1,g1,g2,pl,mm,ce,st,lg⟩ := I
 have husc := x.sc
 have spl := stpZ_len
 have hlt := (List.getElem?_eq_some_iff.1 hS).1
 obtain ⟨p,hp⟩ : ∃ p,ps[n]? = some p := ⟨ps[n]'(by omega),List.getElem?_eq_getElem (by omega)⟩
 have hpp := ptrs_get hp
 have hml := wb.msl
 have eS : bb.step s = { bb with ms := bb.ms.set n (S.fail true) } := by
  unfold BS.step
  rw [if_neg (by omega),if_neg (by omega),modify_set (by rw [hm]; exact hS),hm]
  unfold MS.did
  simp [hk]
 rw [eS] at hX
 have a1 : (s.C u)[1]? = some (.int .i64 4) := by rw [<- hk]; rfl
 have a2 : (s.C u)[2]? = some (.int .i64 (n : Int)) := by rw [<- hm]; rfl
 have d1 : decide ((bb.ms.length : Int) <= (n : Int)) = false := decide_eq_false (by omega)
 have hz := zz_len
 obtain ⟨uok,_,usm⟩ := x.S.ok
 rw [callD_run (E := env) [(4, .fl [(3,0,1),(5,0,1),(7,0,1)])] (by kernel_rfl) Try.func83 rfl (by rw [Try.ntmps83]; simp) (by kernel_rfl)]; simp (maxSteps := 2000000) (implicitDefEqProofs := false) (disch := first | omega | (simp only [SD.down,uA,uL] <;> omega) | fail) only [Try.ntmps83,Try.results83,env_P,env_L,g1,g2,a1,a2,d1,hpp,uok,usm,spl,hz,hsl,s.C_len u hsl,zz_fold,stpZ_fold,stp_0,stp_cut s u hsl,stp_ov s u hsl husc,TQ.down,resE,oneV, ↓reduceIte,reduceCtorEq,uB,uE,uL,uA,uM,uS,uN,uX,uO,vR,vD,vL,vK,vE,vA,vM,vT,vS]
 have kp : Keeps H (((H.new (Blk.cells (s.C u) 0 false)).new (Blk.cells [AV.nilptr] 0 false)).put (H.next + 1) (some (Blk.cells [AV.ptr p 0] 0 false))) := ⟨by simp (maxSteps := 2000000) (implicitDefEqProofs := false) (disch := first | omega | (simp only [SD.down,uA,uL] <;> omega) | fail) only [TQ.down,resE,oneV, ↓reduceIte,reduceCtorEq,uB,uE,uL,uA,uM,uS,uN,uX,uO,vR,vD,vL,vK,vE,vA,vM,vT,vS]; omega,fun j hj => by simp (maxSteps := 2000000) (implicitDefEqProofs := false) (disch := first | omega | (simp only [SD.down,uA,uL] <;> omega) | fail) only [TQ.down,resE,oneV, ↓reduceIte,reduceCtorEq,uB,uE,uL,uA,uM,uS,uN,uX,uO,vR,vD,vL,vK,vE,vA,vM,vT,vS]⟩
 have gq : (((H.new (Blk.cells (s.C u) 0 false)).new (Blk.cells [AV.nilptr] 0 false)).put (H.next + 1) (some (Blk.cells [AV.ptr p 0] 0 false))).get (H.next + 1) = some (.cells [.ptr p 0] 0 false) := by simp (maxSteps := 2000000) (implicitDefEqProofs := false) (disch := first | omega | (simp only [SD.down,uA,uL] <;> omega) | fail) only [TQ.down,resE,oneV, ↓reduceIte,reduceCtorEq,uB,uE,uL,uA,uM,uS,uN,uX,uO,vR,vD,vL,vK,vE,vA,vM,vT,vS]
 have gr : (((H.new (Blk.cells (s.C u) 0 false)).new (Blk.cells [AV.nilptr] 0 false)).put (H.next + 1) (some (Blk.cells [AV.ptr p 0] 0 false))).get H.next = some (.cells (s.C u) 0 false) := by simp (maxSteps := 2000000) (implicitDefEqProofs := false) (disch := first | omega | (simp only [SD.down,uA,uL] <;> omega) | fail) only [TQ.down,resE,oneV, ↓reduceIte,reduceCtorEq,uB,uE,uL,uA,uM,uS,uN,uX,uO,vR,vD,vL,vK,vE,vA,vM,vT,vS]
 generalize (((H.new (Blk.cells (s.C u) 0 false)).new (Blk.cells [AV.nilptr] 0 false)).put (H.next + 1) (some (Blk.cells [AV.ptr p 0] 0 false))) = H2 at kp gq gr ⊢
 have ce0 : ∀ j,j < H.next -> pnt C H.next 0 j = C j := fun j hj => pnt_lt hj
 have I2 : BusI H2 (pnt C H.next 0) kb β cp ps bb := I0.keeps wb.msl kp ce0
 have M0 : MemI H2 (pnt C H.next 0) (kb + 2 + n) p S := (mm n p S hp hS).keeps kp (fun j hj hc => (ce0 j hj).trans hc)
 first | refine G.call (clo_4 d H2 (pnt C H.next 0) (kb + 2 + n) (H.next + 1) H.next p s u S hsl gq gr M0 (wb.ms S (List.mem_of_getElem? hS))) ?_ | refine G.callC (clo_4 d H2 (pnt C H.next 0) (kb + 2 + n) (H.next + 1) H.next p s u S hsl gq gr M0 (wb.ms S (List.mem_of_getElem? hS))) ?_ | refine G.callL (clo_4 d H2 (pnt C H.next 0) (kb + 2 + n) (H.next + 1) H.next p s u S hsl gq gr M0 (wb.ms S (List.mem_of_getElem? hS))) ?_
 rintro v h3 ⟨rfl,M,F⟩
 simp (maxSteps := 2000000) (implicitDefEqProofs := false) (disch := first | omega | (simp only [SD.down,uA,uL] <;> omega) | fail) only [TQ.down,resE,oneV, ↓reduceIte,reduceCtorEq,uB,uE,uL,uA,uM,uS,uN,uX,uO,vR,vD,vL,vK,vE,vA,vM,vT,vS]
 subst hX
 have hle := kp.1
 have fle := F.le
 refine G.ok ⟨rfl,_,I2.setM wb.msl kb10 hp hS (F.mono fun n hn => .inr hn) M (fun j hj => pnt_lt hj),by omega,fun j hj => (pnt_lt (by omega)).trans (ce0 j hj),fun j hj hc hb => (F.get j (by omega) (by rw [ce0 j hj]; omega)).trans (kp.2 j hj)⟩
set_option maxHeartbeats 2000000 in
theorem step_out (d : Nat) (kb β cp : Nat) (ps : List Nat) (H : Heap) (C : Col) (bb : BS) (s : Stp) (u : AV) (h6 : s.kind ≠ 6) (hk : s.kind < 1 \/ 5 < s.kind \/ s.m < 0 \/ (bb.ms.length : Int) <= s.m) (hsl : s.data.length = 64) (wb : bb.wf) (I : BusI H C kb β cp ps bb) (Ms : Nat) (x : PickI H C kb u [β,Ms] s.picks) :
  G (callD env (d + 8) 83 [.ptr β 0, .agg (s.C u)] H) fun v h' => v = .tup [] /\ ∃ C',BusI h' C' kb β cp ps (bb.step s) /\ H.next <= h'.next /\ (∀ j,j < H.next -> C' j = C j) /\ ∀ j,j < H.next -> (C j < kb + 2 \/ kb + 100 <= C j) -> j ≠ β -> h'.get j = H.get j := by
 generalize hX : (fun (v : AV) (h' : Heap) => v = .tup [] /\ ∃ C',BusI h' C' kb β cp ps (bb.step s) /\ H.next <= h'.next /\ (∀ j,j < H.next -> C' j = C j) /\ ∀ j,j < H.next -> (C j < kb + 2 \/ kb + 100 <= C j) -> j ≠ β -> h'.get j = H.get j) = Q
 have eS : bb.step s = bb := by
  unfold BS.step
  rw [if_neg h6,if_pos hk]
 rw [eS] at hX
 have I0 := I
 obtain ⟨Ms2,stv,lgv,l1,c1,l2,c2,n1,g1,g2,pl,mm,ce,st,lg⟩ := I
 have husc := x.sc
 have spl := stpZ_len
 have hml := wb.msl
 have a1 : (s.C u)[1]? = some (.int .i64 s.kind) := rfl
 have a2 : (s.C u)[2]? = some (.int .i64 s.m) := rfl
 have d6 : decide (s.kind = 6) = false := decide_eq_false h6
 have hz := zz_len
 obtain ⟨uok,_,usm⟩ := x.S.ok
 have fin : ∀ h' : Heap,Keeps H h' -> G (some (.tup [],h')) Q := fun h' kp => by
  subst hX
  exact G.ok ⟨rfl,pnt C H.next 0,I0.keeps wb.msl kp (fun j hj => pnt_lt hj),kp.1,fun j hj => pnt_lt hj,fun j hj _ _ => kp.2 j hj⟩
 have kp : Keeps H (H.new (Blk.cells (s.C u) 0 false)) := ⟨by simp (maxSteps := 2000000) (implicitDefEqProofs := false) (disch := first | omega | (simp only [SD.down,uA,uL] <;> omega) | fail) only [TQ.down,resE,oneV, ↓reduceIte,reduceCtorEq,uB,uE,uL,uA,uM,uS,uN,uX,uO,vR,vD,vL,vK,vE,vA,vM,vT,vS]; omega,fun j hj => by simp (maxSteps := 2000000) (implicitDefEqProofs := false) (disch := first | omega | (simp only [SD.down,uA,uL] <;> omega) | fail) only [TQ.down,resE,oneV, ↓reduceIte,reduceCtorEq,uB,uE,uL,uA,uM,uS,uN,uX,uO,vR,vD,vL,vK,vE,vA,vM,vT,vS]⟩
 by_cases k1 : s.kind < 1
 ·have d1 : decide (s.kind < 1) = true := decide_eq_true k1
  rw [callD_run (E := env) [(4, .fl [(3,0,1),(5,0,1),(7,0,1)])] (by kernel_rfl) Try.func83 rfl (by rw [Try.ntmps83]; simp) (by kernel_rfl)]; simp (maxSteps := 2000000) (implicitDefEqProofs := false) (disch := first | omega | (simp only [SD.down,uA,uL] <;> omega) | fail) only [Try.ntmps83,Try.results83,env_P,env_L,g1,g2,a1,a2,d6,d1,uok,usm,spl,hz,hsl,s.C_len u hsl,zz_fold,stpZ_fold,stp_0,stp_cut s u hsl,stp_ov s u hsl husc,TQ.down,resE,oneV, ↓reduceIte,reduceCtorEq,uB,uE,uL,uA,uM,uS,uN,uX,uO,vR,vD,vL,vK,vE,vA,vM,vT,vS]
  exact fin _ kp
 have d1 : decide (s.kind < 1) = false := decide_eq_false k1
 by_cases k2 : 5 < s.kind
 ·have d2 : decide (5 < s.kind) = true := decide_eq_true k2
  rw [callD_run (E := env) [(4, .fl [(3,0,1),(5,0,1),(7,0,1)])] (by kernel_rfl) Try.func83 rfl (by rw [Try.ntmps83]; simp) (by kernel_rfl)]; simp (maxSteps := 2000000) (implicitDefEqProofs := false) (disch := first | omega | (simp only [SD.down,uA,uL] <;> omega) | fail) only [Try.ntmps83,Try.results83,env_P,env_L,g1,g2,a1,a2,d6,d1,d2,uok,usm,spl,hz,hsl,s.C_len u hsl,zz_fold,stpZ_fold,stp_0,stp_cut s u hsl,stp_ov s u hsl husc,TQ.down,resE,oneV, ↓reduceIte,reduceCtorEq,uB,uE,uL,uA,uM,uS,uN,uX,uO,vR,vD,vL,vK,vE,vA,vM,vT,vS]
  exact fin _ kp
 have d2 : decide (5 < s.kind) = false := decide_eq_false k2
 by_cases k3 : s.m < 0
 ·have d3 : decide (s.m < 0) = true := decide_eq_true k3
  rw [callD_run (E := env) [(4, .fl [(3,0,1),(5,0,1),(7,0,1)])] (by kernel_rfl) Try.func83 rfl (by rw [Try.ntmps83]; simp) (by kernel_rfl)]; simp (maxSteps := 2000000) (implicitDefEqProofs := false) (disch := first | omega | (simp only [SD.down,uA,uL] <;> omega) | fail) only [Try.ntmps83,Try.results83,env_P,env_L,g1,g2,a1,a2,d6,d1,d2,d3,uok,usm,spl,hz,hsl,s.C_len u hsl,zz_fold,stpZ_fold,stp_0,stp_cut s u hsl,stp_ov s u hsl husc,TQ.down,resE,oneV, ↓reduceIte,reduceCtorEq,uB,uE,uL,uA,uM,uS,uN,uX,uO,vR,vD,vL,vK,vE,vA,vM,vT,vS]
  exact fin _ kp
 have d3 : decide (s.m < 0) = false := decide_eq_false k3
 have d4 : decide ((bb.ms.length : Int) <= s.m) = true := decide_eq_true (by omega)
 rw [callD_run (E := env) [(4, .fl [(3,0,1),(5,0,1),(7,0,1)])] (by kernel_rfl) Try.func83 rfl (by rw [Try.ntmps83]; simp) (by kernel_rfl)]; simp (maxSteps := 2000000) (implicitDefEqProofs := false) (disch := first | omega | (simp only [SD.down,uA,uL] <;> omega) | fail) only [Try.ntmps83,Try.results83,env_P,env_L,g1,g2,a1,a2,d6,d1,d2,d3,d4,uok,usm,spl,hz,hsl,s.C_len u hsl,zz_fold,stpZ_fold,stp_0,stp_cut s u hsl,stp_ov s u hsl husc,TQ.down,resE,oneV, ↓reduceIte,reduceCtorEq,uB,uE,uL,uA,uM,uS,uN,uX,uO,vR,vD,vL,vK,vE,vA,vM,vT,vS]
 exact fin _ kp
theorem step_fl (d : Nat) (b : BS) (kb β cp : Nat) (ps : List Nat) (kb10 : 10 <= kb) (hb : ∀ s ∈ b.steps,s.data.length = 64 /\ s.kind = 4) : StepOk (d + 1) b kb β cp ps := by
 intro H C bb s u Ms hsm htm wb hml I x
 obtain ⟨hsl,h4⟩ := hb s hsm
 by_cases hk : s.kind < 1 \/ 5 < s.kind \/ s.m < 0 \/ (bb.ms.length : Int) <= s.m
 ·exact step_out d kb β cp ps H C bb s u (by omega) hk hsl wb I Ms x
 obtain ⟨n,hn⟩ : ∃ n : Nat,s.m = (n : Int) := ⟨s.m.toNat,by omega⟩
 obtain ⟨S,hS⟩ : ∃ S,bb.ms[n]? = some S := ⟨_,List.getElem?_eq_getElem (by omega)⟩
 exact step_4 d kb β cp ps kb10 H C bb s u n S h4 hsl hn hS wb I Ms x
end Go.Proofs.Ytlnepbkeiianmaa
