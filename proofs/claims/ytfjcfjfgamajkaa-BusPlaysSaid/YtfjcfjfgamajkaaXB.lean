/- Of this program, for all inputs: contracts. No condition but those in the theorems. -/
import Derived.Test.YtfjcfjfgamajkaaXA
import Derived.Test.YtfjcfjfgamajkaaRA
import Derived.Test.YtfjcfjfgamajkaaPB
namespace Go.Proofs.Ytfjcfjfgamajkaa
open Go Go.Ai Go.Aw Go.Proofs
open Nat renaming reduceBEq -> uB,reduceEqDiff -> uE,reduceLT -> uL,reduceAdd -> uA,reduceMul -> uM,reduceSub -> uS,reduceAnd -> uN,reduceXor -> uX,reduceOr -> uO
open Int renaming reduceMod -> vR,reduceDiv -> vD,reduceLT -> vL,reduceLE -> vK,reduceEq -> vE,reduceAdd -> vA,reduceMul -> vM,reduceToNat -> vT,reduceSub -> vS
set_option linter.unusedSimpArgs false
set_option linter.unusedVariables false
set_option maxRecDepth 10000
theorem stp_data {s : Stp} {u : AV} (hs : s.data.length = 64) : cutE 5 64 (s.C u) = some (B s.data) := by
 have e : s.C u = [AV.int .i64 s.tm, .int .i64 s.kind, .int .i64 s.m, .int .i64 s.i, .int .i64 s.n] ++ (B s.data ++ [u]) := rfl
 rw [e]
 exact cut_mid rfl (by simp [B_len,hs])
theorem clo_1 (d : Nat) (H : Heap) (c : Col) (k q r p : Nat) (s : Stp) (u : AV) (S : MS) (hsl : s.data.length = 64) (hq : H.get q = some (.cells [.ptr p 0] 0 false)) (hr : H.get r = some (.cells (s.C u) 0 false)) (I : MemI H c k p S) (w : S.wf) :
  G (callD env (d + 7) 120 [.ptr q 0, .ptr r 0] H) fun v h' => v = .tup [] /\ MemI h' (pnt c H.next k) k p (S.set s.i s.data) /\ Fr (· = k) c H h' := by
 refine G.gen fun Q hX => ?_
 have a3 : (s.C u)[3]? = some (.int .i64 s.i) := rfl
 have a4 : (s.C u)[4]? = some (.int .i64 s.n) := rfl
 have a5 := stp_data (u := u) hsl
 have hz := zz_len
 rw [callD_run (E := env) [] (by kernel_rfl) Try.func120 rfl (by rw [Try.ntmps120]; simp) (by kernel_rfl)]; simp (disch := first | omega | (simp only [SD.down,uA,uL] <;> omega) | fail) only [Try.ntmps120,Try.results120,env_P,env_L,hq,hr,a3,a4,a5,hz,hsl,s.C_len u hsl,TQ.down,resE,oneV, ↓reduceIte,reduceCtorEq,uB,uE,uL,uA,uM,uS,vL,vK,vE,vA,vS]
 refine G.call (m_set (d + 1) H c k p S I w s.i s.data hsl) ?_
 rintro v h1 ⟨⟨_,rfl⟩,M,F⟩
 simp (disch := omega) only [TQ.down,resE,oneV, ↓reduceIte,reduceCtorEq,uB,uE,uL,uA,uM,vE]
 subst hX
 exact G.ok ⟨rfl,M,F⟩
theorem clo_2 (d : Nat) (H : Heap) (c : Col) (k q r p : Nat) (s : Stp) (u : AV) (S : MS) (hsl : s.data.length = 64) (hq : H.get q = some (.cells [.ptr p 0] 0 false)) (hr : H.get r = some (.cells (s.C u) 0 false)) (I : MemI H c k p S) (w : S.wf) :
  G (callD env (d + 7) 122 [.ptr q 0] H) fun v h' => v = .tup [] /\ MemI h' (pnt c H.next k) k p (S.mark) /\ Fr (· = k) c H h' := by
 refine G.gen fun Q hX => ?_
 have a3 : (s.C u)[3]? = some (.int .i64 s.i) := rfl
 have a4 : (s.C u)[4]? = some (.int .i64 s.n) := rfl
 have a5 := stp_data (u := u) hsl
 have hz := zz_len
 rw [callD_run (E := env) [] (by kernel_rfl) Try.func122 rfl (by rw [Try.ntmps122]; simp) (by kernel_rfl)]; simp (disch := first | omega | (simp only [SD.down,uA,uL] <;> omega) | fail) only [Try.ntmps122,Try.results122,env_P,env_L,hq,hr,a3,a4,a5,hz,hsl,s.C_len u hsl,TQ.down,resE,oneV, ↓reduceIte,reduceCtorEq,uB,uE,uL,uA,uM,uS,vL,vK,vE,vA,vS]
 refine G.call (m_mark (d + 2) H c k p S I w) ?_
 rintro v h1 ⟨⟨_,_,rfl⟩,M,F⟩
 simp (disch := omega) only [TQ.down,resE,oneV, ↓reduceIte,reduceCtorEq,uB,uE,uL,uA,uM,vE]
 subst hX
 exact G.ok ⟨rfl,M,F⟩
theorem clo_3 (d : Nat) (H : Heap) (c : Col) (k q r p : Nat) (s : Stp) (u : AV) (S : MS) (hsl : s.data.length = 64) (hq : H.get q = some (.cells [.ptr p 0] 0 false)) (hr : H.get r = some (.cells (s.C u) 0 false)) (I : MemI H c k p S) (w : S.wf) :
  G (callD env (d + 7) 124 [.ptr q 0, .ptr r 0] H) fun v h' => v = .tup [] /\ MemI h' (pnt c H.next k) k p (S.back s.n) /\ Fr (· = k) c H h' := by
 refine G.gen fun Q hX => ?_
 have a3 : (s.C u)[3]? = some (.int .i64 s.i) := rfl
 have a4 : (s.C u)[4]? = some (.int .i64 s.n) := rfl
 have a5 := stp_data (u := u) hsl
 have hz := zz_len
 rw [callD_run (E := env) [] (by kernel_rfl) Try.func124 rfl (by rw [Try.ntmps124]; simp) (by kernel_rfl)]; simp (disch := first | omega | (simp only [SD.down,uA,uL] <;> omega) | fail) only [Try.ntmps124,Try.results124,env_P,env_L,hq,hr,a3,a4,a5,hz,hsl,s.C_len u hsl,TQ.down,resE,oneV, ↓reduceIte,reduceCtorEq,uB,uE,uL,uA,uM,uS,vL,vK,vE,vA,vS]
 refine G.call (m_back (d + 2) H c k p S I w s.n) ?_
 rintro v h1 ⟨⟨_,rfl⟩,M,F⟩
 simp (disch := omega) only [TQ.down,resE,oneV, ↓reduceIte,reduceCtorEq,uB,uE,uL,uA,uM,vE]
 subst hX
 exact G.ok ⟨rfl,M,F⟩
theorem clo_4 (d : Nat) (H : Heap) (c : Col) (k q r p : Nat) (s : Stp) (u : AV) (S : MS) (hsl : s.data.length = 64) (hq : H.get q = some (.cells [.ptr p 0] 0 false)) (hr : H.get r = some (.cells (s.C u) 0 false)) (I : MemI H c k p S) (w : S.wf) :
  G (callD env (d + 7) 126 [.ptr q 0] H) fun v h' => v = .tup [] /\ MemI h' (pnt c H.next k) k p (S.fail true) /\ Fr (· = k) c H h' := by
 refine G.gen fun Q hX => ?_
 have a3 : (s.C u)[3]? = some (.int .i64 s.i) := rfl
 have a4 : (s.C u)[4]? = some (.int .i64 s.n) := rfl
 have a5 := stp_data (u := u) hsl
 have hz := zz_len
 rw [callD_run (E := env) [] (by kernel_rfl) Try.func126 rfl (by rw [Try.ntmps126]; simp) (by kernel_rfl)]; simp (disch := first | omega | (simp only [SD.down,uA,uL] <;> omega) | fail) only [Try.ntmps126,Try.results126,env_P,env_L,hq,hr,a3,a4,a5,hz,hsl,s.C_len u hsl,TQ.down,resE,oneV, ↓reduceIte,reduceCtorEq,uB,uE,uL,uA,uM,uS,vL,vK,vE,vA,vS]
 refine G.call (m_fail (d + 3) H c k p S I w true) ?_
 rintro v h1 ⟨rfl,M,F⟩
 simp (disch := omega) only [TQ.down,resE,oneV, ↓reduceIte,reduceCtorEq,uB,uE,uL,uA,uM,vE]
 subst hX
 exact G.ok ⟨rfl,M,F⟩
theorem clo_5 (d : Nat) (H : Heap) (c : Col) (k q r p : Nat) (s : Stp) (u : AV) (S : MS) (hsl : s.data.length = 64) (hq : H.get q = some (.cells [.ptr p 0] 0 false)) (hr : H.get r = some (.cells (s.C u) 0 false)) (I : MemI H c k p S) (w : S.wf) :
  G (callD env (d + 7) 128 [.ptr q 0] H) fun v h' => v = .tup [] /\ MemI h' (pnt c H.next k) k p (S.fail false) /\ Fr (· = k) c H h' := by
 refine G.gen fun Q hX => ?_
 have a3 : (s.C u)[3]? = some (.int .i64 s.i) := rfl
 have a4 : (s.C u)[4]? = some (.int .i64 s.n) := rfl
 have a5 := stp_data (u := u) hsl
 have hz := zz_len
 rw [callD_run (E := env) [] (by kernel_rfl) Try.func128 rfl (by rw [Try.ntmps128]; simp) (by kernel_rfl)]; simp (disch := first | omega | (simp only [SD.down,uA,uL] <;> omega) | fail) only [Try.ntmps128,Try.results128,env_P,env_L,hq,hr,a3,a4,a5,hz,hsl,s.C_len u hsl,TQ.down,resE,oneV, ↓reduceIte,reduceCtorEq,uB,uE,uL,uA,uM,uS,vL,vK,vE,vA,vS]
 refine G.call (m_fail (d + 3) H c k p S I w false) ?_
 rintro v h1 ⟨rfl,M,F⟩
 simp (disch := omega) only [TQ.down,resE,oneV, ↓reduceIte,reduceCtorEq,uB,uE,uL,uA,uM,vE]
 subst hX
 exact G.ok ⟨rfl,M,F⟩
theorem modify_set {l : List MS} {n : Nat} {S : MS} (h : l[n]? = some S) (f : MS -> MS) : l.modify n f = l.set n (f S) := by
 apply List.ext_getElem?
 intro i
 rw [List.getElem?_modify,List.getElem?_set]
 by_cases e : n = i
 ·subst e
  obtain ⟨h1,h2⟩ := List.getElem?_eq_some_iff.1 h
  simp [h1,h2]
 ·simp [e]
theorem step_1 (d : Nat) (kb β cp : Nat) (ps : List Nat) (kb10 : 10 <= kb) (H : Heap) (C : Col) (bb : BS) (s : Stp) (u : AV) (n : Nat) (S : MS) (hk : s.kind = 1) (hsl : s.data.length = 64) (hm : s.m = (n : Int)) (hS : bb.ms[n]? = some S) (wb : bb.wf) (I : BusI H C kb β cp ps bb) (Ms : Nat) (x : PickI H C kb u [β,Ms] s.picks) :
  G (callD env (d + 8) 99 [.ptr β 0, .agg (s.C u)] H) fun v h' => v = .tup [] /\ ∃ C',BusI h' C' kb β cp ps (bb.step s) /\ H.next <= h'.next /\ (∀ j,j < H.next -> C' j = C j) /\ ∀ j,j < H.next -> (C j < kb + 2 \/ kb + 100 <= C j) -> j ≠ β -> h'.get j = H.get j := by
 refine G.gen fun Q hX => ?_
 have I0 := I
 obtain ⟨Ms2,stv,lgv,l1,c1,l2,c2,n1,g1,g2,pl,mm,ce,st,lg⟩ := I
 have husc := x.sc
 have spl := stpZ_len
 have hlt := (List.getElem?_eq_some_iff.1 hS).1
 obtain ⟨p,hp⟩ : ∃ p,ps[n]? = some p := ⟨ps[n]'(by omega),List.getElem?_eq_getElem (by omega)⟩
 have hpp := ptrs_get hp
 have hml := wb.msl
 have eS : bb.step s = { bb with ms := bb.ms.set n (S.set s.i s.data) } := by
  unfold BS.step
  rw [if_neg (by omega),if_neg (by omega),modify_set (by rw [hm]; exact hS),hm]
  unfold MS.did
  simp [hk]
 rw [eS] at hX
 have a1 : (s.C u)[1]? = some (.int .i64 1) := by rw [<- hk]; rfl
 have a2 : (s.C u)[2]? = some (.int .i64 (n : Int)) := by rw [<- hm]; rfl
 have d1 : decide ((bb.ms.length : Int) <= (n : Int)) = false := decide_eq_false (by omega)
 have hz := zz_len
 obtain ⟨uok,_,usm⟩ := x.S.ok
 rw [callD_run (E := env) [(4, .fl [(3,0,1),(5,0,1),(7,0,1)])] (by kernel_rfl) Try.func99 rfl (by rw [Try.ntmps99]; simp) (by kernel_rfl)]; simp (maxSteps := 2000000) (implicitDefEqProofs := false) (disch := first | omega | (simp only [SD.down,uA,uL] <;> omega) | fail) only [Try.ntmps99,Try.results99,env_P,env_L,g1,g2,a1,a2,d1,hpp,uok,usm,spl,hz,hsl,s.C_len u hsl,zz_fold,stpZ_fold,stp_0,stp_cut s u hsl,stp_ov s u hsl husc,TQ.down,resE,oneV, ↓reduceIte,reduceCtorEq,uB,uE,uL,uA,uM,uS,uN,uX,uO,vR,vD,vL,vK,vE,vA,vM,vT,vS]
 have kp : Keeps H (((H.new (Blk.cells (s.C u) 0 false)).new (Blk.cells [AV.nilptr] 0 false)).put (H.next + 1) (some (Blk.cells [AV.ptr p 0] 0 false))) := ⟨by simp (maxSteps := 2000000) (implicitDefEqProofs := false) (disch := first | omega | (simp only [SD.down,uA,uL] <;> omega) | fail) only [TQ.down,resE,oneV, ↓reduceIte,reduceCtorEq,uB,uE,uL,uA,uM,uS,uN,uX,uO,vR,vD,vL,vK,vE,vA,vM,vT,vS]; omega,fun j hj => by simp (maxSteps := 2000000) (implicitDefEqProofs := false) (disch := first | omega | (simp only [SD.down,uA,uL] <;> omega) | fail) only [TQ.down,resE,oneV, ↓reduceIte,reduceCtorEq,uB,uE,uL,uA,uM,uS,uN,uX,uO,vR,vD,vL,vK,vE,vA,vM,vT,vS]⟩
 have gq : (((H.new (Blk.cells (s.C u) 0 false)).new (Blk.cells [AV.nilptr] 0 false)).put (H.next + 1) (some (Blk.cells [AV.ptr p 0] 0 false))).get (H.next + 1) = some (.cells [.ptr p 0] 0 false) := by simp (maxSteps := 2000000) (implicitDefEqProofs := false) (disch := first | omega | (simp only [SD.down,uA,uL] <;> omega) | fail) only [TQ.down,resE,oneV, ↓reduceIte,reduceCtorEq,uB,uE,uL,uA,uM,uS,uN,uX,uO,vR,vD,vL,vK,vE,vA,vM,vT,vS]
 have gr : (((H.new (Blk.cells (s.C u) 0 false)).new (Blk.cells [AV.nilptr] 0 false)).put (H.next + 1) (some (Blk.cells [AV.ptr p 0] 0 false))).get H.next = some (.cells (s.C u) 0 false) := by simp (maxSteps := 2000000) (implicitDefEqProofs := false) (disch := first | omega | (simp only [SD.down,uA,uL] <;> omega) | fail) only [TQ.down,resE,oneV, ↓reduceIte,reduceCtorEq,uB,uE,uL,uA,uM,uS,uN,uX,uO,vR,vD,vL,vK,vE,vA,vM,vT,vS]
 generalize (((H.new (Blk.cells (s.C u) 0 false)).new (Blk.cells [AV.nilptr] 0 false)).put (H.next + 1) (some (Blk.cells [AV.ptr p 0] 0 false))) = H2 at kp gq gr ⊢
 have ce0 : ∀ j,j < H.next -> pnt C H.next 0 j = C j := fun j hj => pnt_lt hj
 have I2 : BusI H2 (pnt C H.next 0) kb β cp ps bb := I0.keeps wb.msl kp ce0
 have M0 : MemI H2 (pnt C H.next 0) (kb + 2 + n) p S := (mm n p S hp hS).keeps kp (fun j hj hc => (ce0 j hj).trans hc)
 refine G.call (clo_1 d H2 (pnt C H.next 0) (kb + 2 + n) (H.next + 1) H.next p s u S hsl gq gr M0 (wb.ms S (List.mem_of_getElem? hS))) ?_
 rintro v h3 ⟨rfl,M,F⟩
 simp (disch := omega) only [TQ.down,resE,oneV, ↓reduceIte,reduceCtorEq,uB,uE,uL,uA,uM,vE]
 subst hX
 have hle := kp.1
 have fle := F.le
 refine G.ok ⟨rfl,_,I2.setM wb.msl kb10 hp hS (F.mono fun n hn => .inr hn) M (fun j hj => pnt_lt hj),by omega,fun j hj => (pnt_lt (by omega)).trans (ce0 j hj),fun j hj hc hb => (F.get j (by omega) (by rw [ce0 j hj]; omega)).trans (kp.2 j hj)⟩
theorem step_2 (d : Nat) (kb β cp : Nat) (ps : List Nat) (kb10 : 10 <= kb) (H : Heap) (C : Col) (bb : BS) (s : Stp) (u : AV) (n : Nat) (S : MS) (hk : s.kind = 2) (hsl : s.data.length = 64) (hm : s.m = (n : Int)) (hS : bb.ms[n]? = some S) (wb : bb.wf) (I : BusI H C kb β cp ps bb) (Ms : Nat) (x : PickI H C kb u [β,Ms] s.picks) :
  G (callD env (d + 8) 99 [.ptr β 0, .agg (s.C u)] H) fun v h' => v = .tup [] /\ ∃ C',BusI h' C' kb β cp ps (bb.step s) /\ H.next <= h'.next /\ (∀ j,j < H.next -> C' j = C j) /\ ∀ j,j < H.next -> (C j < kb + 2 \/ kb + 100 <= C j) -> j ≠ β -> h'.get j = H.get j := by
 refine G.gen fun Q hX => ?_
 have I0 := I
 obtain ⟨Ms2,stv,lgv,l1,c1,l2,c2,n1,g1,g2,pl,mm,ce,st,lg⟩ := I
 have husc := x.sc
 have spl := stpZ_len
 have hlt := (List.getElem?_eq_some_iff.1 hS).1
 obtain ⟨p,hp⟩ : ∃ p,ps[n]? = some p := ⟨ps[n]'(by omega),List.getElem?_eq_getElem (by omega)⟩
 have hpp := ptrs_get hp
 have hml := wb.msl
 have eS : bb.step s = { bb with ms := bb.ms.set n (S.mark) } := by
  unfold BS.step
  rw [if_neg (by omega),if_neg (by omega),modify_set (by rw [hm]; exact hS),hm]
  unfold MS.did
  simp [hk]
 rw [eS] at hX
 have a1 : (s.C u)[1]? = some (.int .i64 2) := by rw [<- hk]; rfl
 have a2 : (s.C u)[2]? = some (.int .i64 (n : Int)) := by rw [<- hm]; rfl
 have d1 : decide ((bb.ms.length : Int) <= (n : Int)) = false := decide_eq_false (by omega)
 have hz := zz_len
 obtain ⟨uok,_,usm⟩ := x.S.ok
 rw [callD_run (E := env) [(4, .fl [(3,0,1),(5,0,1),(7,0,1)])] (by kernel_rfl) Try.func99 rfl (by rw [Try.ntmps99]; simp) (by kernel_rfl)]; simp (maxSteps := 2000000) (implicitDefEqProofs := false) (disch := first | omega | (simp only [SD.down,uA,uL] <;> omega) | fail) only [Try.ntmps99,Try.results99,env_P,env_L,g1,g2,a1,a2,d1,hpp,uok,usm,spl,hz,hsl,s.C_len u hsl,zz_fold,stpZ_fold,stp_0,stp_cut s u hsl,stp_ov s u hsl husc,TQ.down,resE,oneV, ↓reduceIte,reduceCtorEq,uB,uE,uL,uA,uM,uS,uN,uX,uO,vR,vD,vL,vK,vE,vA,vM,vT,vS]
 have kp : Keeps H (((H.new (Blk.cells (s.C u) 0 false)).new (Blk.cells [AV.nilptr] 0 false)).put (H.next + 1) (some (Blk.cells [AV.ptr p 0] 0 false))) := ⟨by simp (maxSteps := 2000000) (implicitDefEqProofs := false) (disch := first | omega | (simp only [SD.down,uA,uL] <;> omega) | fail) only [TQ.down,resE,oneV, ↓reduceIte,reduceCtorEq,uB,uE,uL,uA,uM,uS,uN,uX,uO,vR,vD,vL,vK,vE,vA,vM,vT,vS]; omega,fun j hj => by simp (maxSteps := 2000000) (implicitDefEqProofs := false) (disch := first | omega | (simp only [SD.down,uA,uL] <;> omega) | fail) only [TQ.down,resE,oneV, ↓reduceIte,reduceCtorEq,uB,uE,uL,uA,uM,uS,uN,uX,uO,vR,vD,vL,vK,vE,vA,vM,vT,vS]⟩
 have gq : (((H.new (Blk.cells (s.C u) 0 false)).new (Blk.cells [AV.nilptr] 0 false)).put (H.next + 1) (some (Blk.cells [AV.ptr p 0] 0 false))).get (H.next + 1) = some (.cells [.ptr p 0] 0 false) := by simp (maxSteps := 2000000) (implicitDefEqProofs := false) (disch := first | omega | (simp only [SD.down,uA,uL] <;> omega) | fail) only [TQ.down,resE,oneV, ↓reduceIte,reduceCtorEq,uB,uE,uL,uA,uM,uS,uN,uX,uO,vR,vD,vL,vK,vE,vA,vM,vT,vS]
 have gr : (((H.new (Blk.cells (s.C u) 0 false)).new (Blk.cells [AV.nilptr] 0 false)).put (H.next + 1) (some (Blk.cells [AV.ptr p 0] 0 false))).get H.next = some (.cells (s.C u) 0 false) := by simp (maxSteps := 2000000) (implicitDefEqProofs := false) (disch := first | omega | (simp only [SD.down,uA,uL] <;> omega) | fail) only [TQ.down,resE,oneV, ↓reduceIte,reduceCtorEq,uB,uE,uL,uA,uM,uS,uN,uX,uO,vR,vD,vL,vK,vE,vA,vM,vT,vS]
 generalize (((H.new (Blk.cells (s.C u) 0 false)).new (Blk.cells [AV.nilptr] 0 false)).put (H.next + 1) (some (Blk.cells [AV.ptr p 0] 0 false))) = H2 at kp gq gr ⊢
 have ce0 : ∀ j,j < H.next -> pnt C H.next 0 j = C j := fun j hj => pnt_lt hj
 have I2 : BusI H2 (pnt C H.next 0) kb β cp ps bb := I0.keeps wb.msl kp ce0
 have M0 : MemI H2 (pnt C H.next 0) (kb + 2 + n) p S := (mm n p S hp hS).keeps kp (fun j hj hc => (ce0 j hj).trans hc)
 refine G.call (clo_2 d H2 (pnt C H.next 0) (kb + 2 + n) (H.next + 1) H.next p s u S hsl gq gr M0 (wb.ms S (List.mem_of_getElem? hS))) ?_
 rintro v h3 ⟨rfl,M,F⟩
 simp (disch := omega) only [TQ.down,resE,oneV, ↓reduceIte,reduceCtorEq,uB,uE,uL,uA,uM,vE]
 subst hX
 have hle := kp.1
 have fle := F.le
 refine G.ok ⟨rfl,_,I2.setM wb.msl kb10 hp hS (F.mono fun n hn => .inr hn) M (fun j hj => pnt_lt hj),by omega,fun j hj => (pnt_lt (by omega)).trans (ce0 j hj),fun j hj hc hb => (F.get j (by omega) (by rw [ce0 j hj]; omega)).trans (kp.2 j hj)⟩
theorem step_3 (d : Nat) (kb β cp : Nat) (ps : List Nat) (kb10 : 10 <= kb) (H : Heap) (C : Col) (bb : BS) (s : Stp) (u : AV) (n : Nat) (S : MS) (hk : s.kind = 3) (hsl : s.data.length = 64) (hm : s.m = (n : Int)) (hS : bb.ms[n]? = some S) (wb : bb.wf) (I : BusI H C kb β cp ps bb) (Ms : Nat) (x : PickI H C kb u [β,Ms] s.picks) :
  G (callD env (d + 8) 99 [.ptr β 0, .agg (s.C u)] H) fun v h' => v = .tup [] /\ ∃ C',BusI h' C' kb β cp ps (bb.step s) /\ H.next <= h'.next /\ (∀ j,j < H.next -> C' j = C j) /\ ∀ j,j < H.next -> (C j < kb + 2 \/ kb + 100 <= C j) -> j ≠ β -> h'.get j = H.get j := by
 refine G.gen fun Q hX => ?_
 have I0 := I
 obtain ⟨Ms2,stv,lgv,l1,c1,l2,c2,n1,g1,g2,pl,mm,ce,st,lg⟩ := I
 have husc := x.sc
 have spl := stpZ_len
 have hlt := (List.getElem?_eq_some_iff.1 hS).1
 obtain ⟨p,hp⟩ : ∃ p,ps[n]? = some p := ⟨ps[n]'(by omega),List.getElem?_eq_getElem (by omega)⟩
 have hpp := ptrs_get hp
 have hml := wb.msl
 have eS : bb.step s = { bb with ms := bb.ms.set n (S.back s.n) } := by
  unfold BS.step
  rw [if_neg (by omega),if_neg (by omega),modify_set (by rw [hm]; exact hS),hm]
  unfold MS.did
  simp [hk]
 rw [eS] at hX
 have a1 : (s.C u)[1]? = some (.int .i64 3) := by rw [<- hk]; rfl
 have a2 : (s.C u)[2]? = some (.int .i64 (n : Int)) := by rw [<- hm]; rfl
 have d1 : decide ((bb.ms.length : Int) <= (n : Int)) = false := decide_eq_false (by omega)
 have hz := zz_len
 obtain ⟨uok,_,usm⟩ := x.S.ok
 rw [callD_run (E := env) [(4, .fl [(3,0,1),(5,0,1),(7,0,1)])] (by kernel_rfl) Try.func99 rfl (by rw [Try.ntmps99]; simp) (by kernel_rfl)]; simp (maxSteps := 2000000) (implicitDefEqProofs := false) (disch := first | omega | (simp only [SD.down,uA,uL] <;> omega) | fail) only [Try.ntmps99,Try.results99,env_P,env_L,g1,g2,a1,a2,d1,hpp,uok,usm,spl,hz,hsl,s.C_len u hsl,zz_fold,stpZ_fold,stp_0,stp_cut s u hsl,stp_ov s u hsl husc,TQ.down,resE,oneV, ↓reduceIte,reduceCtorEq,uB,uE,uL,uA,uM,uS,uN,uX,uO,vR,vD,vL,vK,vE,vA,vM,vT,vS]
 have kp : Keeps H (((H.new (Blk.cells (s.C u) 0 false)).new (Blk.cells [AV.nilptr] 0 false)).put (H.next + 1) (some (Blk.cells [AV.ptr p 0] 0 false))) := ⟨by simp (maxSteps := 2000000) (implicitDefEqProofs := false) (disch := first | omega | (simp only [SD.down,uA,uL] <;> omega) | fail) only [TQ.down,resE,oneV, ↓reduceIte,reduceCtorEq,uB,uE,uL,uA,uM,uS,uN,uX,uO,vR,vD,vL,vK,vE,vA,vM,vT,vS]; omega,fun j hj => by simp (maxSteps := 2000000) (implicitDefEqProofs := false) (disch := first | omega | (simp only [SD.down,uA,uL] <;> omega) | fail) only [TQ.down,resE,oneV, ↓reduceIte,reduceCtorEq,uB,uE,uL,uA,uM,uS,uN,uX,uO,vR,vD,vL,vK,vE,vA,vM,vT,vS]⟩
 have gq : (((H.new (Blk.cells (s.C u) 0 false)).new (Blk.cells [AV.nilptr] 0 false)).put (H.next + 1) (some (Blk.cells [AV.ptr p 0] 0 false))).get (H.next + 1) = some (.cells [.ptr p 0] 0 false) := by simp (maxSteps := 2000000) (implicitDefEqProofs := false) (disch := first | omega | (simp only [SD.down,uA,uL] <;> omega) | fail) only [TQ.down,resE,oneV, ↓reduceIte,reduceCtorEq,uB,uE,uL,uA,uM,uS,uN,uX,uO,vR,vD,vL,vK,vE,vA,vM,vT,vS]
 have gr : (((H.new (Blk.cells (s.C u) 0 false)).new (Blk.cells [AV.nilptr] 0 false)).put (H.next + 1) (some (Blk.cells [AV.ptr p 0] 0 false))).get H.next = some (.cells (s.C u) 0 false) := by simp (maxSteps := 2000000) (implicitDefEqProofs := false) (disch := first | omega | (simp only [SD.down,uA,uL] <;> omega) | fail) only [TQ.down,resE,oneV, ↓reduceIte,reduceCtorEq,uB,uE,uL,uA,uM,uS,uN,uX,uO,vR,vD,vL,vK,vE,vA,vM,vT,vS]
 generalize (((H.new (Blk.cells (s.C u) 0 false)).new (Blk.cells [AV.nilptr] 0 false)).put (H.next + 1) (some (Blk.cells [AV.ptr p 0] 0 false))) = H2 at kp gq gr ⊢
 have ce0 : ∀ j,j < H.next -> pnt C H.next 0 j = C j := fun j hj => pnt_lt hj
 have I2 : BusI H2 (pnt C H.next 0) kb β cp ps bb := I0.keeps wb.msl kp ce0
 have M0 : MemI H2 (pnt C H.next 0) (kb + 2 + n) p S := (mm n p S hp hS).keeps kp (fun j hj hc => (ce0 j hj).trans hc)
 refine G.call (clo_3 d H2 (pnt C H.next 0) (kb + 2 + n) (H.next + 1) H.next p s u S hsl gq gr M0 (wb.ms S (List.mem_of_getElem? hS))) ?_
 rintro v h3 ⟨rfl,M,F⟩
 simp (disch := omega) only [TQ.down,resE,oneV, ↓reduceIte,reduceCtorEq,uB,uE,uL,uA,uM,vE]
 subst hX
 have hle := kp.1
 have fle := F.le
 refine G.ok ⟨rfl,_,I2.setM wb.msl kb10 hp hS (F.mono fun n hn => .inr hn) M (fun j hj => pnt_lt hj),by omega,fun j hj => (pnt_lt (by omega)).trans (ce0 j hj),fun j hj hc hb => (F.get j (by omega) (by rw [ce0 j hj]; omega)).trans (kp.2 j hj)⟩
theorem step_4 (d : Nat) (kb β cp : Nat) (ps : List Nat) (kb10 : 10 <= kb) (H : Heap) (C : Col) (bb : BS) (s : Stp) (u : AV) (n : Nat) (S : MS) (hk : s.kind = 4) (hsl : s.data.length = 64) (hm : s.m = (n : Int)) (hS : bb.ms[n]? = some S) (wb : bb.wf) (I : BusI H C kb β cp ps bb) (Ms : Nat) (x : PickI H C kb u [β,Ms] s.picks) :
  G (callD env (d + 8) 99 [.ptr β 0, .agg (s.C u)] H) fun v h' => v = .tup [] /\ ∃ C',BusI h' C' kb β cp ps (bb.step s) /\ H.next <= h'.next /\ (∀ j,j < H.next -> C' j = C j) /\ ∀ j,j < H.next -> (C j < kb + 2 \/ kb + 100 <= C j) -> j ≠ β -> h'.get j = H.get j := by
 refine G.gen fun Q hX => ?_
 have I0 := I
 obtain ⟨Ms2,stv,lgv,l1,c1,l2,c2,n1,g1,g2,pl,mm,ce,st,lg⟩ := I
 have husc := x.sc
 have spl := stpZ_len
 have hlt := (List.getElem?_eq_some_iff.1 hS).1
 obtain ⟨p,hp⟩ : ∃ p,ps[n]? = some p := ⟨ps[n]'(by omega),List.getElem?_eq_getElem (by omega)⟩
 have hpp := ptrs_get hp
 have hml := wb.msl
 have eS : bb.step s = { bb with ms := bb.ms.set n (S.fail true) } := by
  unfold BS.step
  rw [if_neg (by omega),if_neg (by omega),modify_set (by rw [hm]; exact hS),hm]
  unfold MS.did
  simp [hk]
 rw [eS] at hX
 have a1 : (s.C u)[1]? = some (.int .i64 4) := by rw [<- hk]; rfl
 have a2 : (s.C u)[2]? = some (.int .i64 (n : Int)) := by rw [<- hm]; rfl
 have d1 : decide ((bb.ms.length : Int) <= (n : Int)) = false := decide_eq_false (by omega)
 have hz := zz_len
 obtain ⟨uok,_,usm⟩ := x.S.ok
 rw [callD_run (E := env) [(4, .fl [(3,0,1),(5,0,1),(7,0,1)])] (by kernel_rfl) Try.func99 rfl (by rw [Try.ntmps99]; simp) (by kernel_rfl)]; simp (maxSteps := 2000000) (implicitDefEqProofs := false) (disch := first | omega | (simp only [SD.down,uA,uL] <;> omega) | fail) only [Try.ntmps99,Try.results99,env_P,env_L,g1,g2,a1,a2,d1,hpp,uok,usm,spl,hz,hsl,s.C_len u hsl,zz_fold,stpZ_fold,stp_0,stp_cut s u hsl,stp_ov s u hsl husc,TQ.down,resE,oneV, ↓reduceIte,reduceCtorEq,uB,uE,uL,uA,uM,uS,uN,uX,uO,vR,vD,vL,vK,vE,vA,vM,vT,vS]
 have kp : Keeps H (((H.new (Blk.cells (s.C u) 0 false)).new (Blk.cells [AV.nilptr] 0 false)).put (H.next + 1) (some (Blk.cells [AV.ptr p 0] 0 false))) := ⟨by simp (maxSteps := 2000000) (implicitDefEqProofs := false) (disch := first | omega | (simp only [SD.down,uA,uL] <;> omega) | fail) only [TQ.down,resE,oneV, ↓reduceIte,reduceCtorEq,uB,uE,uL,uA,uM,uS,uN,uX,uO,vR,vD,vL,vK,vE,vA,vM,vT,vS]; omega,fun j hj => by simp (maxSteps := 2000000) (implicitDefEqProofs := false) (disch := first | omega | (simp only [SD.down,uA,uL] <;> omega) | fail) only [TQ.down,resE,oneV, ↓reduceIte,reduceCtorEq,uB,uE,uL,uA,uM,uS,uN,uX,uO,vR,vD,vL,vK,vE,vA,vM,vT,vS]⟩
 have gq : (((H.new (Blk.cells (s.C u) 0 false)).new (Blk.cells [AV.nilptr] 0 false)).put (H.next + 1) (some (Blk.cells [AV.ptr p 0] 0 false))).get (H.next + 1) = some (.cells [.ptr p 0] 0 false) := by simp (maxSteps := 2000000) (implicitDefEqProofs := false) (disch := first | omega | (simp only [SD.down,uA,uL] <;> omega) | fail) only [TQ.down,resE,oneV, ↓reduceIte,reduceCtorEq,uB,uE,uL,uA,uM,uS,uN,uX,uO,vR,vD,vL,vK,vE,vA,vM,vT,vS]
 have gr : (((H.new (Blk.cells (s.C u) 0 false)).new (Blk.cells [AV.nilptr] 0 false)).put (H.next + 1) (some (Blk.cells [AV.ptr p 0] 0 false))).get H.next = some (.cells (s.C u) 0 false) := by simp (maxSteps := 2000000) (implicitDefEqProofs := false) (disch := first | omega | (simp only [SD.down,uA,uL] <;> omega) | fail) only [TQ.down,resE,oneV, ↓reduceIte,reduceCtorEq,uB,uE,uL,uA,uM,uS,uN,uX,uO,vR,vD,vL,vK,vE,vA,vM,vT,vS]
 generalize (((H.new (Blk.cells (s.C u) 0 false)).new (Blk.cells [AV.nilptr] 0 false)).put (H.next + 1) (some (Blk.cells [AV.ptr p 0] 0 false))) = H2 at kp gq gr ⊢
 have ce0 : ∀ j,j < H.next -> pnt C H.next 0 j = C j := fun j hj => pnt_lt hj
 have I2 : BusI H2 (pnt C H.next 0) kb β cp ps bb := I0.keeps wb.msl kp ce0
 have M0 : MemI H2 (pnt C H.next 0) (kb + 2 + n) p S := (mm n p S hp hS).keeps kp (fun j hj hc => (ce0 j hj).trans hc)
 refine G.call (clo_4 d H2 (pnt C H.next 0) (kb + 2 + n) (H.next + 1) H.next p s u S hsl gq gr M0 (wb.ms S (List.mem_of_getElem? hS))) ?_
 rintro v h3 ⟨rfl,M,F⟩
 simp (disch := omega) only [TQ.down,resE,oneV, ↓reduceIte,reduceCtorEq,uB,uE,uL,uA,uM,vE]
 subst hX
 have hle := kp.1
 have fle := F.le
 refine G.ok ⟨rfl,_,I2.setM wb.msl kb10 hp hS (F.mono fun n hn => .inr hn) M (fun j hj => pnt_lt hj),by omega,fun j hj => (pnt_lt (by omega)).trans (ce0 j hj),fun j hj hc hb => (F.get j (by omega) (by rw [ce0 j hj]; omega)).trans (kp.2 j hj)⟩
theorem step_5 (d : Nat) (kb β cp : Nat) (ps : List Nat) (kb10 : 10 <= kb) (H : Heap) (C : Col) (bb : BS) (s : Stp) (u : AV) (n : Nat) (S : MS) (hk : s.kind = 5) (hsl : s.data.length = 64) (hm : s.m = (n : Int)) (hS : bb.ms[n]? = some S) (wb : bb.wf) (I : BusI H C kb β cp ps bb) (Ms : Nat) (x : PickI H C kb u [β,Ms] s.picks) :
  G (callD env (d + 8) 99 [.ptr β 0, .agg (s.C u)] H) fun v h' => v = .tup [] /\ ∃ C',BusI h' C' kb β cp ps (bb.step s) /\ H.next <= h'.next /\ (∀ j,j < H.next -> C' j = C j) /\ ∀ j,j < H.next -> (C j < kb + 2 \/ kb + 100 <= C j) -> j ≠ β -> h'.get j = H.get j := by
 refine G.gen fun Q hX => ?_
 have I0 := I
 obtain ⟨Ms2,stv,lgv,l1,c1,l2,c2,n1,g1,g2,pl,mm,ce,st,lg⟩ := I
 have husc := x.sc
 have spl := stpZ_len
 have hlt := (List.getElem?_eq_some_iff.1 hS).1
 obtain ⟨p,hp⟩ : ∃ p,ps[n]? = some p := ⟨ps[n]'(by omega),List.getElem?_eq_getElem (by omega)⟩
 have hpp := ptrs_get hp
 have hml := wb.msl
 have eS : bb.step s = { bb with ms := bb.ms.set n (S.fail false) } := by
  unfold BS.step
  rw [if_neg (by omega),if_neg (by omega),modify_set (by rw [hm]; exact hS),hm]
  unfold MS.did
  simp [hk]
 rw [eS] at hX
 have a1 : (s.C u)[1]? = some (.int .i64 5) := by rw [<- hk]; rfl
 have a2 : (s.C u)[2]? = some (.int .i64 (n : Int)) := by rw [<- hm]; rfl
 have d1 : decide ((bb.ms.length : Int) <= (n : Int)) = false := decide_eq_false (by omega)
 have hz := zz_len
 obtain ⟨uok,_,usm⟩ := x.S.ok
 rw [callD_run (E := env) [(4, .fl [(3,0,1),(5,0,1),(7,0,1)])] (by kernel_rfl) Try.func99 rfl (by rw [Try.ntmps99]; simp) (by kernel_rfl)]; simp (maxSteps := 2000000) (implicitDefEqProofs := false) (disch := first | omega | (simp only [SD.down,uA,uL] <;> omega) | fail) only [Try.ntmps99,Try.results99,env_P,env_L,g1,g2,a1,a2,d1,hpp,uok,usm,spl,hz,hsl,s.C_len u hsl,zz_fold,stpZ_fold,stp_0,stp_cut s u hsl,stp_ov s u hsl husc,TQ.down,resE,oneV, ↓reduceIte,reduceCtorEq,uB,uE,uL,uA,uM,uS,uN,uX,uO,vR,vD,vL,vK,vE,vA,vM,vT,vS]
 have kp : Keeps H (((H.new (Blk.cells (s.C u) 0 false)).new (Blk.cells [AV.nilptr] 0 false)).put (H.next + 1) (some (Blk.cells [AV.ptr p 0] 0 false))) := ⟨by simp (maxSteps := 2000000) (implicitDefEqProofs := false) (disch := first | omega | (simp only [SD.down,uA,uL] <;> omega) | fail) only [TQ.down,resE,oneV, ↓reduceIte,reduceCtorEq,uB,uE,uL,uA,uM,uS,uN,uX,uO,vR,vD,vL,vK,vE,vA,vM,vT,vS]; omega,fun j hj => by simp (maxSteps := 2000000) (implicitDefEqProofs := false) (disch := first | omega | (simp only [SD.down,uA,uL] <;> omega) | fail) only [TQ.down,resE,oneV, ↓reduceIte,reduceCtorEq,uB,uE,uL,uA,uM,uS,uN,uX,uO,vR,vD,vL,vK,vE,vA,vM,vT,vS]⟩
 have gq : (((H.new (Blk.cells (s.C u) 0 false)).new (Blk.cells [AV.nilptr] 0 false)).put (H.next + 1) (some (Blk.cells [AV.ptr p 0] 0 false))).get (H.next + 1) = some (.cells [.ptr p 0] 0 false) := by simp (maxSteps := 2000000) (implicitDefEqProofs := false) (disch := first | omega | (simp only [SD.down,uA,uL] <;> omega) | fail) only [TQ.down,resE,oneV, ↓reduceIte,reduceCtorEq,uB,uE,uL,uA,uM,uS,uN,uX,uO,vR,vD,vL,vK,vE,vA,vM,vT,vS]
 have gr : (((H.new (Blk.cells (s.C u) 0 false)).new (Blk.cells [AV.nilptr] 0 false)).put (H.next + 1) (some (Blk.cells [AV.ptr p 0] 0 false))).get H.next = some (.cells (s.C u) 0 false) := by simp (maxSteps := 2000000) (implicitDefEqProofs := false) (disch := first | omega | (simp only [SD.down,uA,uL] <;> omega) | fail) only [TQ.down,resE,oneV, ↓reduceIte,reduceCtorEq,uB,uE,uL,uA,uM,uS,uN,uX,uO,vR,vD,vL,vK,vE,vA,vM,vT,vS]
 generalize (((H.new (Blk.cells (s.C u) 0 false)).new (Blk.cells [AV.nilptr] 0 false)).put (H.next + 1) (some (Blk.cells [AV.ptr p 0] 0 false))) = H2 at kp gq gr ⊢
 have ce0 : ∀ j,j < H.next -> pnt C H.next 0 j = C j := fun j hj => pnt_lt hj
 have I2 : BusI H2 (pnt C H.next 0) kb β cp ps bb := I0.keeps wb.msl kp ce0
 have M0 : MemI H2 (pnt C H.next 0) (kb + 2 + n) p S := (mm n p S hp hS).keeps kp (fun j hj hc => (ce0 j hj).trans hc)
 refine G.call (clo_5 d H2 (pnt C H.next 0) (kb + 2 + n) (H.next + 1) H.next p s u S hsl gq gr M0 (wb.ms S (List.mem_of_getElem? hS))) ?_
 rintro v h3 ⟨rfl,M,F⟩
 simp (disch := omega) only [TQ.down,resE,oneV, ↓reduceIte,reduceCtorEq,uB,uE,uL,uA,uM,vE]
 subst hX
 have hle := kp.1
 have fle := F.le
 refine G.ok ⟨rfl,_,I2.setM wb.msl kb10 hp hS (F.mono fun n hn => .inr hn) M (fun j hj => pnt_lt hj),by omega,fun j hj => (pnt_lt (by omega)).trans (ce0 j hj),fun j hj hc hb => (F.get j (by omega) (by rw [ce0 j hj]; omega)).trans (kp.2 j hj)⟩
set_option maxHeartbeats 2000000 in
theorem step_out (d : Nat) (kb β cp : Nat) (ps : List Nat) (H : Heap) (C : Col) (bb : BS) (s : Stp) (u : AV) (h6 : s.kind ≠ 6) (hk : s.kind < 1 \/ 5 < s.kind \/ s.m < 0 \/ (bb.ms.length : Int) <= s.m) (hsl : s.data.length = 64) (wb : bb.wf) (I : BusI H C kb β cp ps bb) (Ms : Nat) (x : PickI H C kb u [β,Ms] s.picks) :
  G (callD env (d + 8) 99 [.ptr β 0, .agg (s.C u)] H) fun v h' => v = .tup [] /\ ∃ C',BusI h' C' kb β cp ps (bb.step s) /\ H.next <= h'.next /\ (∀ j,j < H.next -> C' j = C j) /\ ∀ j,j < H.next -> (C j < kb + 2 \/ kb + 100 <= C j) -> j ≠ β -> h'.get j = H.get j := by
 refine G.gen fun Q hX => ?_
 have eS : bb.step s = bb := by
  unfold BS.step
  rw [if_neg h6,if_pos hk]
 rw [eS] at hX
 have I0 := I
 obtain ⟨Ms2,stv,lgv,l1,c1,l2,c2,n1,g1,g2,pl,mm,ce,st,lg⟩ := I
 have husc := x.sc
 have spl := stpZ_len
 have hml := wb.msl
 have a1 : (s.C u)[1]? = some (.int .i64 s.kind) := rfl
 have a2 : (s.C u)[2]? = some (.int .i64 s.m) := rfl
 have d6 : decide (s.kind = 6) = false := decide_eq_false h6
 have hz := zz_len
 obtain ⟨uok,_,usm⟩ := x.S.ok
 have fin : ∀ h' : Heap,Keeps H h' -> G (some (.tup [],h')) Q := fun h' kp => by
  subst hX
  exact G.ok ⟨rfl,pnt C H.next 0,I0.keeps wb.msl kp (fun j hj => pnt_lt hj),kp.1,fun j hj => pnt_lt hj,fun j hj _ _ => kp.2 j hj⟩
 have kp : Keeps H (H.new (Blk.cells (s.C u) 0 false)) := ⟨by simp (disch := omega) only [TH.down,uA,uB]; omega,fun j hj => by simp (disch := omega) only [TH.down,uA,uB]⟩
 by_cases k1 : s.kind < 1
 ·have d1 : decide (s.kind < 1) = true := decide_eq_true k1
  rw [callD_run (E := env) [(4, .fl [(3,0,1),(5,0,1),(7,0,1)])] (by kernel_rfl) Try.func99 rfl (by rw [Try.ntmps99]; simp) (by kernel_rfl)]; simp (disch := first | omega | (simp only [SD.down,uA,uL] <;> omega) | fail) only [Try.ntmps99,Try.results99,env_P,env_L,g1,g2,a1,a2,d6,d1,uok,usm,spl,hz,hsl,s.C_len u hsl,zz_fold,stpZ_fold,stp_0,stp_cut s u hsl,stp_ov s u hsl husc,TQ.down,resE,oneV, ↓reduceIte,reduceCtorEq,uB,uE,uL,uA,uM,uS,vL,vK,vE,vA,vS]
  exact fin _ kp
 have d1 : decide (s.kind < 1) = false := decide_eq_false k1
 by_cases k2 : 5 < s.kind
 ·have d2 : decide (5 < s.kind) = true := decide_eq_true k2
  rw [callD_run (E := env) [(4, .fl [(3,0,1),(5,0,1),(7,0,1)])] (by kernel_rfl) Try.func99 rfl (by rw [Try.ntmps99]; simp) (by kernel_rfl)]; simp (disch := first | omega | (simp only [SD.down,uA,uL] <;> omega) | fail) only [Try.ntmps99,Try.results99,env_P,env_L,g1,g2,a1,a2,d6,d1,d2,uok,usm,spl,hz,hsl,s.C_len u hsl,zz_fold,stpZ_fold,stp_0,stp_cut s u hsl,stp_ov s u hsl husc,TQ.down,resE,oneV, ↓reduceIte,reduceCtorEq,uB,uE,uL,uA,uM,uS,vL,vK,vE,vA,vS]
  exact fin _ kp
 have d2 : decide (5 < s.kind) = false := decide_eq_false k2
 by_cases k3 : s.m < 0
 ·have d3 : decide (s.m < 0) = true := decide_eq_true k3
  rw [callD_run (E := env) [(4, .fl [(3,0,1),(5,0,1),(7,0,1)])] (by kernel_rfl) Try.func99 rfl (by rw [Try.ntmps99]; simp) (by kernel_rfl)]; simp (disch := first | omega | (simp only [SD.down,uA,uL] <;> omega) | fail) only [Try.ntmps99,Try.results99,env_P,env_L,g1,g2,a1,a2,d6,d1,d2,d3,uok,usm,spl,hz,hsl,s.C_len u hsl,zz_fold,stpZ_fold,stp_0,stp_cut s u hsl,stp_ov s u hsl husc,TQ.down,resE,oneV, ↓reduceIte,reduceCtorEq,uB,uE,uL,uA,uM,uS,vL,vK,vE,vA,vS]
  exact fin _ kp
 have d3 : decide (s.m < 0) = false := decide_eq_false k3
 have d4 : decide ((bb.ms.length : Int) <= s.m) = true := decide_eq_true (by omega)
 rw [callD_run (E := env) [(4, .fl [(3,0,1),(5,0,1),(7,0,1)])] (by kernel_rfl) Try.func99 rfl (by rw [Try.ntmps99]; simp) (by kernel_rfl)]; simp (disch := first | omega | (simp only [SD.down,uA,uL] <;> omega) | fail) only [Try.ntmps99,Try.results99,env_P,env_L,g1,g2,a1,a2,d6,d1,d2,d3,d4,uok,usm,spl,hz,hsl,s.C_len u hsl,zz_fold,stpZ_fold,stp_0,stp_cut s u hsl,stp_ov s u hsl husc,TQ.down,resE,oneV, ↓reduceIte,reduceCtorEq,uB,uE,uL,uA,uM,uS,vL,vK,vE,vA,vS]
 exact fin _ kp
theorem step_all (d : Nat) (b : BS) (kb β cp : Nat) (ps : List Nat) (kb10 : 10 <= kb) (hb : ∀ s ∈ b.steps,s.data.length = 64) : StepOk (d + 1) b kb β cp ps := by
 intro H C bb s u Ms hsm htm wb hml I x
 have hsl := hb s hsm
 by_cases h6 : s.kind = 6
 ·exact step_crash d { b with steps := [s] } kb β cp ps kb10 (fun t ht _ => by
   simp only [List.mem_cons,List.not_mem_nil,or_false] at ht
   subst ht
   exact ⟨h6,hsl⟩) H C bb s u Ms (by simp) htm wb hml I x
 by_cases hk : s.kind < 1 \/ 5 < s.kind \/ s.m < 0 \/ (bb.ms.length : Int) <= s.m
 ·exact step_out d kb β cp ps H C bb s u h6 hk hsl wb I Ms x
 obtain ⟨n,hn⟩ : ∃ n : Nat,s.m = (n : Int) := ⟨s.m.toNat,by omega⟩
 obtain ⟨S,hS⟩ : ∃ S,bb.ms[n]? = some S := ⟨_,List.getElem?_eq_getElem (by omega)⟩
 have hc : s.kind = 1 \/ s.kind = 2 \/ s.kind = 3 \/ s.kind = 4 \/ s.kind = 5 := by omega
 rcases hc with h | h | h | h | h
 ·exact step_1 d kb β cp ps kb10 H C bb s u n S h hsl hn hS wb I Ms x
 ·exact step_2 d kb β cp ps kb10 H C bb s u n S h hsl hn hS wb I Ms x
 ·exact step_3 d kb β cp ps kb10 H C bb s u n S h hsl hn hS wb I Ms x
 ·exact step_4 d kb β cp ps kb10 H C bb s u n S h hsl hn hS wb I Ms x
 ·exact step_5 d kb β cp ps kb10 H C bb s u n S h hsl hn hS wb I Ms x
theorem cell_full (d : Nat) (h : Heap) (c K : Nat) (hv : AV) (l : List (Nat × List Nat)) (x : Nat × List Nat) (lb : List Nat) (hlb : lb.length = 32) (hc : h.get c = some (.cells [hv] 0 false)) (hh : HisIs h hv K l) (hl : ∀ x ∈ l,x.2.length = 32) (hx : l[l.length - 1]? = some x) (lc : c < h.next) (hll : l.length < 4000) (hm : x.1 = 4611686018427387904) : G (callD env (d + 3) 75 [.ptr c 0, .agg (B lb)] h) fun v h' => v = .tup [.int .u64 0, .int .i64 15] /\ Keeps h h' := by
 refine G.gen fun Q hX => ?_
 have hxl := hl x (List.mem_of_getElem? hx)
 have hzl : czz.length = 32 := by simp [czz]
 have hcl := cC_len x.1 x.2 hxl
 have hd : decide ((x.1 : Int) = 4611686018427387904) = true := decide_eq_true (by omega)
 have hKl := hh.lt
 rw [callD_run (E := env) [(7, .fl [(4,0,1)])] (by kernel_rfl) Try.func75 rfl (by rw [Try.ntmps75]; simp) (by kernel_rfl)]; simp (disch := first | omega | (simp only [SD.down,uA,uL] <;> omega) | fail) only [Try.ntmps75,Try.results75,env_P,env_L,hlb,cutB_all,over_B,TQ.down,resE,oneV, ↓reduceIte,reduceCtorEq,uB,uE,uL,uA,uM,uS,vL,vK,vE,vA,vS]
 refine G.call ((cell_read d (h.new (.cells (B lb) 0 false)) c K hv l x (by simp (disch := omega) only [hc,TH.down,uA,uB]) (hh.keep (by simp (disch := omega) only [TH.down,uA,uB]; omega) (fun hK => by simp (disch := omega) only [TH.down,uA,uB])) hl hx (by simp (disch := omega) only [TH.down,uA,uB]; omega) hll)) ?_
 rintro v h1 ⟨rfl,k1⟩
 have n1 := k1.1
 simp (disch := omega) only [TH.down,uA,uB] at n1
 simp (disch := first | omega | (simp only [SD.down,uA,uL] <;> omega) | fail) only [hlb,cutB_all,over_B,c33_fold,cz_fold,cC_over _ _ _ czz hxl hzl,cC_cut _ _ hxl,hcl,cC_0,hd,cC_n,TQ.down,resE,oneV, ↓reduceIte,reduceCtorEq,uB,uE,uL,uA,uM,uS,vL,vK,vE,vA,vS]
 subst hX
 exact G.ok ⟨rfl,⟨by simp (maxSteps := 2000000) (implicitDefEqProofs := false) (disch := first | omega | (simp only [SD.down,uA,uL] <;> omega) | fail) only [TQ.down,resE,oneV, ↓reduceIte,reduceCtorEq,uB,uE,uL,uA,uM,uS,uN,uX,uO,vR,vD,vL,vK,vE,vA,vM,vT,vS]; omega,fun j hj => by
  simp (disch := omega) only [TH.down,uA,uB]
  rw [k1.2 j (by simp (disch := omega) only [TH.down,uA,uB]; omega)]
  simp (disch := omega) only [TH.down,uA,uB]⟩⟩
def advFAct (lb : List Nat) (b : BS) : Int × List Nat × BS := (15,pad lb,b)
def BS.advF (b : BS) (lb : List Nat) : Ent × BS := b.ioR (tAdv lb) (advFAct lb)
theorem do_advF (d : Nat) (H : Heap) (C : Col) (kb β cp x p q r : Nat) (ps : List Nat) (b : BS) (lb : List Nat) (hlb : lb.length = 32) (kb10 : 10 <= kb) (I : BusI H C kb β cp ps b) (w : b.wf) (hm : b.last.1 = 4611686018427387904) (hp : H.get p = some (.cells [.ptr β 0] 0 false)) (hq : H.get q = some (.cells (B lb) 0 false)) (hr : H.get r = some (.cells [.int .u64 0] 0 false)) (pl : p < H.next) (ql : q < H.next) (rl : r < H.next) (hx2 : x < H.next) (hCx : C x = 1) (hx : H.get x = some (.cells (entG (tAdv lb)) 0 false)) :
  G (callD env (d + 7) 74 [.ptr x 0, .ptr p 0, .ptr q 0, .ptr r 0] H) fun v h' => ∃ C',v = .int .i64 15 /\ h'.get x = some (.cells (entG (tAdv lb)) 0 false) /\ BusI h' C' kb β cp ps b /\ Fr (busK kb) C H h' /\ ∀ j,j < H.next -> C' j = C j := by
 refine G.gen fun Q hX => ?_
 have I0 := I
 obtain ⟨Ms,stv,lgv,l1,c1,l2,c2,n1,g1,g2,ppl,mm,ce,st,lg⟩ := I
 obtain ⟨hv,K,e1,e2,e3,e4,e5,e6⟩ := ce
 have hl := BS.last_len w
 rw [callD_run (E := env) [] (by kernel_rfl) Try.func74 rfl (by rw [Try.ntmps74]; simp) (by kernel_rfl)]; simp (disch := first | omega | (simp only [SD.down,uA,uL] <;> omega) | fail) only [Try.ntmps74,Try.results74,env_P,env_L,hp,hq,g1,zz_fold,hlb,cutB_all,over_B,TQ.down,resE,oneV, ↓reduceIte,reduceCtorEq,uB,uE,uL,uA,uM,uS,vL,vK,vE,vA,vS]
 refine G.call (cell_full (d + 3) H cp K hv b.cell b.last lb hlb e3 e4 w.cell (BS.last_some w) e1 w.celll hm) ?_
 rintro v h1 ⟨rfl,kp⟩
 have le := kp.1
 have hr1 := (kp.2 r rl).trans hr
 simp (disch := omega) only [hr1,TQ.down,resE,oneV, ↓reduceIte,reduceCtorEq,uB,uE,uL,uA,uM,vE]
 subst hX
 have k2 : Keeps H (h1.put r (some (.cells [.int .u64 0] 0 false))) := ⟨by simp (disch := omega) only [TH.down,uA,uB]; omega,fun j hj => by
  by_cases e : j = r
  ·subst e; simp (disch := omega) only [TH.down,uA,uB]; exact hr.symm
  ·simp (disch := omega) only [TH.down,uA,uB]; exact kp.2 j hj⟩
 exact G.ok ⟨pnt C H.next 0,rfl,(k2.2 x hx2).trans hx,I0.keeps w.msl k2 (fun j hj => pnt_lt hj), .of k2,fun j hj => pnt_lt hj⟩
set_option maxHeartbeats 1000000 in
theorem bus_advF (d : Nat) (h : Heap) (c : Col) (kb β cp : Nat) (ps : List Nat) (b : BS) (lb : List Nat) (hlb : lb.length = 32) (kb10 : 10 <= kb) (I : BusI h c kb β cp ps b) (w : b.wf) (hm : b.last.1 = 4611686018427387904) (hst : StepOk (d + 2) b kb β cp ps) :
  G (callD env (d + 11) 35 [.ptr β 0, .agg (B lb)] h) fun v h' => ∃ C',v = .tup [.int .u64 0, .int .i64 (b.advF lb).1.e] /\ BusI h' C' kb β cp ps (b.advF lb).2 /\ Fr (busK kb) c h h' /\ ∀ j,j < h.next -> C' j = c j := by
 refine G.gen fun Q hX => ?_
 have ezl := entZ_len
 have wa := BS.ahead_wf w
 have ea := aheadL_steps b.log.length b.steps b
 have elast : b.ahead.last = b.last := by unfold BS.last BS.ahead; rw [ea.2.2.1]
 have I0 := I
 have tl := pad_len hlb
 have e5 := ent_pad 5 0 0 0 lb hlb
 have l5 := entG_len ⟨5,0,0,zz,0⟩ zz_len
 have l6 := entG_len (tAdv lb) tl
 have z5 := entG_overZ ⟨5,0,0,zz,0⟩ zz_len
 have cc6 := entG_cut (tAdv lb) tl
 have ft : (⟨5,0,0,pad lb,0⟩ : Ent) = tAdv lb := rfl
 obtain ⟨Ms,stv,lgv,l1,c1,l2,c2,n1,g1,g2,ppl,mm,ce,st,lg⟩ := I
 rw [callD_run (E := env) [(6, .fl [(2,0,1)])] (by kernel_rfl) Try.func35 rfl (by rw [Try.ntmps35]; simp) (by kernel_rfl)]; simp (disch := first | omega | (simp only [SD.down,uA,uL] <;> omega) | fail) only [Try.ntmps35,Try.results35,env_P,env_L,in56,Try.f56,g1,zz_fold,entZ_fold,ent_fold1,ezl,hlb,cutB_all,over_B,e5,l5,l6,z5,cp40,cls_copy,B_len,ft,cc6,TQ.down,resE,oneV, ↓reduceIte,reduceCtorEq,uB,uE,uL,uA,uM,uS,vL,vK,vE,vA,vS]
 have kp : Keeps h (((((h.new (Blk.cells [AV.ptr β 0] 0 false)).new (Blk.cells (B lb) 0 false)).new (Blk.cells [AV.int IntKind.u64 0] 0 false)).new (Blk.cells entZ 0 false)).put (h.next + 3) (some (Blk.cells (entG (tAdv lb)) 0 false))) := ⟨by simp (disch := first | omega | (simp only [SD.down,uA,uL] <;> omega) | fail) only [TQ.down,resE,oneV, ↓reduceIte,reduceCtorEq,uB,uE,uL,uA,uM,uS,vL,vK,vE,vA,vS]; omega,fun j hj => by simp (disch := first | omega | (simp only [SD.down,uA,uL] <;> omega) | fail) only [TQ.down,resE,oneV, ↓reduceIte,reduceCtorEq,uB,uE,uL,uA,uM,uS,vL,vK,vE,vA,vS]⟩
 have nx : (((((h.new (Blk.cells [AV.ptr β 0] 0 false)).new (Blk.cells (B lb) 0 false)).new (Blk.cells [AV.int IntKind.u64 0] 0 false)).new (Blk.cells entZ 0 false)).put (h.next + 3) (some (Blk.cells (entG (tAdv lb)) 0 false))).next = h.next + 4 := by simp (disch := omega) only [TH.down,uA,uB]
 have w0 : (((((h.new (Blk.cells [AV.ptr β 0] 0 false)).new (Blk.cells (B lb) 0 false)).new (Blk.cells [AV.int IntKind.u64 0] 0 false)).new (Blk.cells entZ 0 false)).put (h.next + 3) (some (Blk.cells (entG (tAdv lb)) 0 false))).get h.next = some (.cells [.ptr β 0] 0 false) := by simp (disch := first | omega | (simp only [SD.down,uA,uL] <;> omega) | fail) only [TQ.down,resE,oneV, ↓reduceIte,reduceCtorEq,uB,uE,uL,uA,uM,uS,vL,vK,vE,vA,vS]
 have w1 : (((((h.new (Blk.cells [AV.ptr β 0] 0 false)).new (Blk.cells (B lb) 0 false)).new (Blk.cells [AV.int IntKind.u64 0] 0 false)).new (Blk.cells entZ 0 false)).put (h.next + 3) (some (Blk.cells (entG (tAdv lb)) 0 false))).get (h.next + 1) = some (.cells (B lb) 0 false) := by simp (disch := first | omega | (simp only [SD.down,uA,uL] <;> omega) | fail) only [TQ.down,resE,oneV, ↓reduceIte,reduceCtorEq,uB,uE,uL,uA,uM,uS,vL,vK,vE,vA,vS]
 have w2 : (((((h.new (Blk.cells [AV.ptr β 0] 0 false)).new (Blk.cells (B lb) 0 false)).new (Blk.cells [AV.int IntKind.u64 0] 0 false)).new (Blk.cells entZ 0 false)).put (h.next + 3) (some (Blk.cells (entG (tAdv lb)) 0 false))).get (h.next + 2) = some (.cells [.int .u64 0] 0 false) := by simp (disch := first | omega | (simp only [SD.down,uA,uL] <;> omega) | fail) only [TQ.down,resE,oneV, ↓reduceIte,reduceCtorEq,uB,uE,uL,uA,uM,uS,vL,vK,vE,vA,vS]
 have w3 : (((((h.new (Blk.cells [AV.ptr β 0] 0 false)).new (Blk.cells (B lb) 0 false)).new (Blk.cells [AV.int IntKind.u64 0] 0 false)).new (Blk.cells entZ 0 false)).put (h.next + 3) (some (Blk.cells (entG (tAdv lb)) 0 false))).get (h.next + 3) = some (.cells (entG (tAdv lb)) 0 false) := by simp (disch := omega) only [TH.down,uA,uB]
 generalize (((((h.new (Blk.cells [AV.ptr β 0] 0 false)).new (Blk.cells (B lb) 0 false)).new (Blk.cells [AV.int IntKind.u64 0] 0 false)).new (Blk.cells entZ 0 false)).put (h.next + 3) (some (Blk.cells (entG (tAdv lb)) 0 false))) = h4 at kp nx w0 w1 w2 w3 ⊢
 have ce0 : ∀ j,j < h.next -> pnt c h.next 0 j = c j := fun j hj => pnt_lt hj
 have kH : ¬ busK kb 0 := by unfold busK; omega
 refine G.call (bus_io (d + 2) h4 (pnt c h.next 0) kb β cp 74 ps b [.ptr h.next 0, .ptr (h.next + 1) 0, .ptr (h.next + 2) 0] (tAdv lb) (advFAct lb) kb10 (I0.keeps w.msl kp ce0) w tl (by simp) ⟨wa,ea.2.1,tl⟩ hst ?hd) ?_
 case hd =>
  intro H C x I1 hoff hx1 hx2 hCx hx hC fr
  exact (do_advF (d + 2) H C kb β cp x h.next (h.next + 1) (h.next + 2) ps b.ahead lb hlb kb10 I1 wa (by rw [elast]; exact hm) ((fr.get _ (by omega) (by rw [pnt_ge (by omega)]; exact kH)).trans w0) ((fr.get _ (by omega) (by rw [pnt_ge (by omega)]; exact kH)).trans w1) ((fr.get _ (by omega) (by rw [pnt_ge (by omega)]; exact kH)).trans w2) (by omega) (by omega) (by omega) hx2 hCx hx)
 rintro v h1 ⟨C1,rfl,I1,fr,hC⟩
 have hy : (b.advF lb).1.x.length = 64 := ioR_x w (tAdv lb) tl _ tl
 have ml : (b.advF lb).2.ms.length <= 64 := by
  unfold BS.advF BS.ioR
  simp only
  split <;> exact wa.msl
 have hle := fr.le
 have gz : h1.get (h.next + 2) = some (.cells [.int .u64 0] 0 false) := (fr.get _ (by omega) (by rw [pnt_ge (by omega)]; exact kH)).trans w2
 have gx : h1.get (h.next + 3) = some (.cells (entG (tAdv lb)) 0 false) := (fr.get _ (by omega) (by rw [pnt_ge (by omega)]; exact kH)).trans w3
 have x1 := entG_67 (b.advF lb).1 hy
 have t1l := entG_len (b.advF lb).1 hy
 have t1c := entG_cut (b.advF lb).1 hy
 have t1z := entG_over (b.advF lb).1 (tAdv lb) hy tl
 change G (runB _ _ _ _ _ _ (some (.agg (entG (b.advF lb).1),h1))) Q
 have I1' : BusI h1 C1 kb β cp ps (b.advF lb).2 := I1
 simp (disch := first | omega | (simp only [SD.down,uA,uL] <;> omega) | fail) only [gz,gx,x1,l6,t1l,t1c,t1z,TQ.down,resE,oneV, ↓reduceIte,reduceCtorEq,uB,uE,uL,uA,uM,uS,vL,vK,vE,vA,vS]
 subst hX
 refine G.ok ⟨C1,rfl,I1'.keep ml (by simp (maxSteps := 2000000) (implicitDefEqProofs := false) (disch := first | omega | (simp only [SD.down,uA,uL] <;> omega) | fail) only [TQ.down,resE,oneV, ↓reduceIte,reduceCtorEq,uB,uE,uL,uA,uM,uS,uN,uX,uO,vR,vD,vL,vK,vE,vA,vM,vT,vS]; try omega) (fun j hj a1 a2 => ?_) (fun _ _ => rfl),⟨by simp (maxSteps := 2000000) (implicitDefEqProofs := false) (disch := first | omega | (simp only [SD.down,uA,uL] <;> omega) | fail) only [TQ.down,resE,oneV, ↓reduceIte,reduceCtorEq,uB,uE,uL,uA,uM,uS,uN,uX,uO,vR,vD,vL,vK,vE,vA,vM,vT,vS]; omega,fun j hj hk => ?_⟩,fun j hj => (hC j (by omega)).trans (ce0 j hj)⟩
 ·have e1 : j ≠ h.next + 2 := by
   rintro rfl
   rw [hC _ (by omega),pnt_ge (by omega)] at a1
   omega
  have e2 : j ≠ h.next + 3 := by
   rintro rfl
   rw [hC _ (by omega),pnt_ge (by omega)] at a1
   omega
  simp (disch := omega) only [TH.down,uA,uB]
 ·simp (disch := omega) only [TH.down,uA,uB]
  rw [fr.get j (by omega) (by rw [ce0 j hj]; exact hk)]
  exact kp.2 j hj
end Go.Proofs.Ytfjcfjfgamajkaa
