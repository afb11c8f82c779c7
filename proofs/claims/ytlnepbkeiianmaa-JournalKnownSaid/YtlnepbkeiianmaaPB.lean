/- Of this program, for all inputs: contracts. No condition but those in the theorems. -/
import Derived.Test.YtlnepbkeiianmaaPA
namespace Go.Proofs.Ytlnepbkeiianmaa
open Go Go.Ai Go.Aw Go.Proofs
open Nat renaming reduceBEq -> uB,reduceEqDiff -> uE,reduceLT -> uL,reduceAdd -> uA,reduceMul -> uM,reduceSub -> uS,reduceAnd -> uN,reduceXor -> uX,reduceOr -> uO
open Int renaming reduceMod -> vR,reduceDiv -> vD,reduceLT -> vL,reduceLE -> vK,reduceEq -> vE,reduceAdd -> vA,reduceMul -> vM,reduceToNat -> vT,reduceSub -> vS
set_option linter.unusedSimpArgs false
set_option linter.unusedVariables false
set_option maxRecDepth 10000
theorem BusI.setM {h h' : Heap} {c c' : Col} {kb β cp i p : Nat} {ps : List Nat} {b : BS} {S S' : MS} (x : BusI h c kb β cp ps b) (ml : b.ms.length <= 64) (kb10 : 10 <= kb) (hp : ps[i]? = some p) (hS : b.ms[i]? = some S)
  (f : Fr (fun n => n = 1 \/ n = kb + 2 + i) c h h') (m' : MemI h' c' (kb + 2 + i) p S') (e : ∀ j,j < h.next -> c' j = c j) : BusI h' c' kb β cp ps { b with ms := b.ms.set i S' } := by
 obtain ⟨Ms,stv,lgv,l1,c1,l2,c2,n1,g1,g2,pl,mm,ce,st,lg⟩ := x
 have il := (List.getElem?_eq_some_iff.1 hS).1
 have e' : ∀ k j,j < h.next -> c j = k -> c' j = k := fun k j hj hk => (e j hj).trans hk
 have g' : ∀ k,kb <= k -> k ≠ kb + 2 + i -> ∀ j,j < h.next -> c j = k -> h'.get j = h.get j := fun k hk1 hk2 j hj hk => f.get j hj (by omega)
 have n := f.le
 refine ⟨Ms,stv,lgv,Nat.lt_of_lt_of_le l1 n,e' _ _ l1 c1,Nat.lt_of_lt_of_le l2 n,e' _ _ l2 c2,n1, ?_,(g' kb (by omega) (by omega) _ l2 c2).trans g2,by rw [List.length_set]; exact pl,fun j q T hq hT => ?_,ce.keep n (g' _ (by omega) (by omega)) (e' _),st.keep n (fun j hj hk _ _ => g' kb (by omega) (by omega) j hj hk) (e' _),lg.keep n (fun j hj hk _ => g' kb (by omega) (by omega) j hj hk) (e' _)⟩
 ·rw [List.length_set]; exact (g' kb (by omega) (by omega) _ l1 c1).trans g1
 ·have hT2 : (b.ms.set i S')[j]? = some T := hT
  rw [List.getElem?_set] at hT2
  by_cases hij : i = j
  ·subst hij
   rw [if_pos rfl,if_pos il] at hT2
   cases hT2
   rw [hp] at hq; cases hq
   exact m'
  ·rw [if_neg hij] at hT2
   exact (mm j q T hq hT2).keep n (g' _ (by omega) (by omega)) (e' _)
def atAct (t : Ent) (am : MS -> Int × List Nat × MS) (b : BS) : Int × List Nat × BS := if t.m < 0 then (2,t.x,b) else match b.ms[t.m.toNat]? with
 | some S => ((am S).1,(am S).2.1, { b with ms := b.ms.set t.m.toNat (am S).2.2 })
 | none => (2,t.x,b)
theorem atAct_ok {b : BS} (w : b.wf) (t : Ent) (ht : t.x.length = 64) (am : MS -> Int × List Nat × MS) (h : ∀ S ∈ b.ms,S.wf -> (am S).2.2.wf /\ (am S).2.1.length = 64) : (atAct t am b).2.2.wf /\ (atAct t am b).2.2.log = b.log /\ (atAct t am b).2.1.length = 64 := by
 unfold atAct
 split
 ·exact ⟨w,rfl,ht⟩
 ·split
  ·rename_i S hS
   obtain ⟨h1,h2⟩ := h S (List.mem_of_getElem? hS) (w.ms S (List.mem_of_getElem? hS))
   refine ⟨⟨fun T hT => ?_,by rw [List.length_set]; exact w.msl,by rw [List.length_set]; exact w.ms0,w.cell,w.celll,w.cell0,w.stl,w.st,w.logl,w.log⟩,rfl,h2⟩
   rcases List.mem_or_eq_of_mem_set hT with q | rfl
   ·exact w.ms T q
   ·exact h1
  ·exact ⟨w,rfl,ht⟩
abbrev StepOk (d : Nat) (b : BS) (kb β cp : Nat) (ps : List Nat) : Prop := ∀ (H : Heap) (C : Col) (bb : BS) (s : Stp) (u : AV) (Ms : Nat),s ∈ b.steps -> s.tm = b.log.length -> bb.wf -> bb.ms.length = b.ms.length -> BusI H C kb β cp ps bb -> PickI H C kb u [β,Ms] s.picks -> G (callD env (d + 7) 83 [.ptr β 0, .agg (s.C u)] H) fun v h' => v = .tup [] /\ ∃ C',BusI h' C' kb β cp ps (bb.step s) /\ H.next <= h'.next /\ (∀ j,j < H.next -> C' j = C j) /\ ∀ j,j < H.next -> (C j < kb + 2 \/ kb + 100 <= C j) -> j ≠ β -> h'.get j = H.get j
theorem ptrs_get {ps : List Nat} {i p : Nat} (hp : ps[i]? = some p) : (ps.map (AV.ptr · 0))[i]? = some (.ptr p 0) := by rw [List.getElem?_map,hp]; rfl
set_option maxHeartbeats 4000000 in
theorem bus_at (d : Nat) (h : Heap) (c : Col) (kb β cp F : Nat) (ps : List Nat) (b : BS) (t : Ent) (am : MS -> Int × List Nat × MS) (kb10 : 10 <= kb) (I : BusI h c kb β cp ps b) (w : b.wf) (ht : t.x.length = 64)
  (ham : ∀ S ∈ b.ahead.ms,S.wf -> (am S).2.2.wf /\ (am S).2.1.length = 64) (hst : StepOk d b kb β cp ps)
  (hdo : ∀ (H : Heap) (C : Col) (k m : Nat) (S : MS) (x : Nat),MemI H C k m S -> S.wf -> 2 <= k -> x < H.next -> C x = 1 -> H.get x = some (.cells (entG t) 0 false) -> G (callD env (d + 6) F [.ptr m 0, .ptr x 0] H) fun v h' => ∃ C',v = .int .i64 (am S).1 /\ h'.get x = some (.cells (entG { t with x := (am S).2.1 }) 0 false) /\ MemI h' C' k m (am S).2.2 /\ Fr (fun n => n = 1 \/ n = k) C H h' /\ ∀ j,j < H.next -> C' j = C j) :
  G (callD env (d + 9) 63 [.ptr β 0, .agg (entG t), .func (.func F) [] []] h) fun v h' => ∃ C',v = .agg (entG (b.ioR t (atAct t am)).1) /\ BusI h' C' kb β cp ps (b.ioR t (atAct t am)).2 /\ Fr (busK kb) c h h' /\ ∀ j,j < h.next -> C' j = c j := by
 generalize hX : (fun (v : AV) (h' : Heap) => ∃ C',v = .agg (entG (b.ioR t (atAct t am)).1) /\ BusI h' C' kb β cp ps (b.ioR t (atAct t am)).2 /\ Fr (busK kb) c h h' /\ ∀ j,j < h.next -> C' j = c j) = Q
 have ezl := entZ_len
 have hel := entG_len t ht
 have wa : b.ahead.wf := aheadL_wf _ _ _ w w.st
 have ea := aheadL_steps b.log.length b.steps b
 rw [callD_run (E := env) [] (by kernel_rfl) Try.func63 rfl (by rw [Try.ntmps63]; simp) (by kernel_rfl)]; simp (maxSteps := 2000000) (implicitDefEqProofs := false) (disch := first | omega | (simp only [SD.down,uA,uL] <;> omega) | fail) only [Try.ntmps63,Try.results63,env_P,env_L,zz_fold,entZ_fold,ezl,hel,entG_cut t ht,entG_overZ t ht,entG_over t t ht ht,TQ.down,resE,oneV, ↓reduceIte,reduceCtorEq,uB,uE,uL,uA,uM,uS,uN,uX,uO,vR,vD,vL,vK,vE,vA,vM,vT,vS]
 have kp : Keeps h ((((h.new (Blk.cells [AV.ptr β 0] 0 false)).new (Blk.cells (entG t) 0 false)).new (Blk.cells [AV.func (Fn.func F) [] []] 0 false)).new (Blk.cells entZ 0 false)) := ⟨by simp (maxSteps := 2000000) (implicitDefEqProofs := false) (disch := first | omega | (simp only [SD.down,uA,uL] <;> omega) | fail) only [TQ.down,resE,oneV, ↓reduceIte,reduceCtorEq,uB,uE,uL,uA,uM,uS,uN,uX,uO,vR,vD,vL,vK,vE,vA,vM,vT,vS]; omega,fun j hj => by simp (maxSteps := 2000000) (implicitDefEqProofs := false) (disch := first | omega | (simp only [SD.down,uA,uL] <;> omega) | fail) only [TQ.down,resE,oneV, ↓reduceIte,reduceCtorEq,uB,uE,uL,uA,uM,uS,uN,uX,uO,vR,vD,vL,vK,vE,vA,vM,vT,vS]⟩
 have nx : ((((h.new (Blk.cells [AV.ptr β 0] 0 false)).new (Blk.cells (entG t) 0 false)).new (Blk.cells [AV.func (Fn.func F) [] []] 0 false)).new (Blk.cells entZ 0 false)).next = h.next + 4 := by simp (maxSteps := 2000000) (implicitDefEqProofs := false) (disch := first | omega | (simp only [SD.down,uA,uL] <;> omega) | fail) only [TQ.down,resE,oneV, ↓reduceIte,reduceCtorEq,uB,uE,uL,uA,uM,uS,uN,uX,uO,vR,vD,vL,vK,vE,vA,vM,vT,vS]
 have w0 : ((((h.new (Blk.cells [AV.ptr β 0] 0 false)).new (Blk.cells (entG t) 0 false)).new (Blk.cells [AV.func (Fn.func F) [] []] 0 false)).new (Blk.cells entZ 0 false)).get h.next = some (.cells [.ptr β 0] 0 false) := by simp (maxSteps := 2000000) (implicitDefEqProofs := false) (disch := first | omega | (simp only [SD.down,uA,uL] <;> omega) | fail) only [TQ.down,resE,oneV, ↓reduceIte,reduceCtorEq,uB,uE,uL,uA,uM,uS,uN,uX,uO,vR,vD,vL,vK,vE,vA,vM,vT,vS]
 have w2 : ((((h.new (Blk.cells [AV.ptr β 0] 0 false)).new (Blk.cells (entG t) 0 false)).new (Blk.cells [AV.func (Fn.func F) [] []] 0 false)).new (Blk.cells entZ 0 false)).get (h.next + 2) = some (.cells [.func (.func F) [] []] 0 false) := by simp (maxSteps := 2000000) (implicitDefEqProofs := false) (disch := first | omega | (simp only [SD.down,uA,uL] <;> omega) | fail) only [TQ.down,resE,oneV, ↓reduceIte,reduceCtorEq,uB,uE,uL,uA,uM,uS,uN,uX,uO,vR,vD,vL,vK,vE,vA,vM,vT,vS]
 have w3 : ((((h.new (Blk.cells [AV.ptr β 0] 0 false)).new (Blk.cells (entG t) 0 false)).new (Blk.cells [AV.func (Fn.func F) [] []] 0 false)).new (Blk.cells entZ 0 false)).get (h.next + 3) = some (.cells entZ 0 false) := by simp (maxSteps := 2000000) (implicitDefEqProofs := false) (disch := first | omega | (simp only [SD.down,uA,uL] <;> omega) | fail) only [TQ.down,resE,oneV, ↓reduceIte,reduceCtorEq,uB,uE,uL,uA,uM,uS,uN,uX,uO,vR,vD,vL,vK,vE,vA,vM,vT,vS]
 generalize ((((h.new (Blk.cells [AV.ptr β 0] 0 false)).new (Blk.cells (entG t) 0 false)).new (Blk.cells [AV.func (Fn.func F) [] []] 0 false)).new (Blk.cells entZ 0 false)) = h4 at kp nx w0 w2 w3 ⊢
 have ce : ∀ j,j < h.next -> pnt c h.next 0 j = c j := fun j hj => pnt_lt hj
 have ok := atAct_ok wa t ht am ham
 first | refine G.call (bus_io d h4 (pnt c h.next 0) kb β cp 77 ps b [.ptr h.next 0, .ptr (h.next + 2) 0] t (atAct t am) kb10 (I.keeps w.msl kp ce) w ht (by simp) ⟨ok.1,ok.2.1.trans ea.2.1,ok.2.2⟩ hst ?hd) ?_ | refine G.callC (bus_io d h4 (pnt c h.next 0) kb β cp 77 ps b [.ptr h.next 0, .ptr (h.next + 2) 0] t (atAct t am) kb10 (I.keeps w.msl kp ce) w ht (by simp) ⟨ok.1,ok.2.1.trans ea.2.1,ok.2.2⟩ hst ?hd) ?_ | refine G.callL (bus_io d h4 (pnt c h.next 0) kb β cp 77 ps b [.ptr h.next 0, .ptr (h.next + 2) 0] t (atAct t am) kb10 (I.keeps w.msl kp ce) w ht (by simp) ⟨ok.1,ok.2.1.trans ea.2.1,ok.2.2⟩ hst ?hd) ?_
 case hd =>
  intro H C x I1 hoff hx1 hx2 hCx hx hC fr
  generalize hY : (fun (v : AV) (h' : Heap) => ∃ C',v = .int .i64 (atAct t am b.ahead).1 /\ h'.get x = some (.cells (entG { t with x := (atAct t am b.ahead).2.1 }) 0 false) /\ BusI h' C' kb β cp ps (atAct t am b.ahead).2.2 /\ Fr (busK kb) C H h' /\ ∀ j,j < H.next -> C' j = C j) = R
  have kH : ¬ busK kb 0 := by unfold busK; omega
  have p0 : H.get h.next = some (.cells [.ptr β 0] 0 false) := (fr.get _ (by omega) (by rw [pnt_ge (Nat.le_refl _)]; exact kH)).trans w0
  have p2 : H.get (h.next + 2) = some (.cells [.func (.func F) [] []] 0 false) := (fr.get _ (by omega) (by rw [pnt_ge (by omega)]; exact kH)).trans w2
  have I1c := I1
  obtain ⟨Ms,stv,lgv,l1,c1,l2,c2,n1,g1,g2,pl,mm,cec,st,lg⟩ := I1
  by_cases h1 : t.m < 0
  ·have h1' := decide_eq_true h1
   have eA : atAct t am b.ahead = (2,t.x,b.ahead) := if_pos h1
   rw [eA] at hY
   rw [callD_run (E := env) [] (by kernel_rfl) Try.func77 rfl (by rw [Try.ntmps77]; simp) (by kernel_rfl)]; simp (maxSteps := 2000000) (implicitDefEqProofs := false) (disch := first | omega | (simp only [SD.down,uA,uL] <;> omega) | fail) only [Try.ntmps77,Try.results77,env_P,env_L,g1,p0,hx,entG_1,entG_2,h1',TQ.down,resE,oneV, ↓reduceIte,reduceCtorEq,uB,uE,uL,uA,uM,uS,uN,uX,uO,vR,vD,vL,vK,vE,vA,vM,vT,vS]
   subst hY
   exact G.ok ⟨C,rfl,hx,I1c, .refl _ _ _,fun _ _ => rfl⟩
  ·have h1' := decide_eq_false h1
   cases hS : b.ahead.ms[t.m.toNat]? with
   | none =>
    have hge := List.getElem?_eq_none_iff.1 hS
    have h2' : decide ((b.ahead.ms.length : Int) <= t.m) = true := decide_eq_true (by omega)
    have eA : atAct t am b.ahead = (2,t.x,b.ahead) := by unfold atAct; rw [if_neg h1,hS]
    rw [eA] at hY
    rw [callD_run (E := env) [] (by kernel_rfl) Try.func77 rfl (by rw [Try.ntmps77]; simp) (by kernel_rfl)]; simp (maxSteps := 2000000) (implicitDefEqProofs := false) (disch := first | omega | (simp only [SD.down,uA,uL] <;> omega) | fail) only [Try.ntmps77,Try.results77,env_P,env_L,g1,p0,hx,entG_1,entG_2,h1',h2',TQ.down,resE,oneV, ↓reduceIte,reduceCtorEq,uB,uE,uL,uA,uM,uS,uN,uX,uO,vR,vD,vL,vK,vE,vA,vM,vT,vS]
    subst hY
    exact G.ok ⟨C,rfl,hx,I1c, .refl _ _ _,fun _ _ => rfl⟩
   | some S =>
    have hlt := (List.getElem?_eq_some_iff.1 hS).1
    have h2' : decide ((b.ahead.ms.length : Int) <= t.m) = false := decide_eq_false (by omega)
    have eA : atAct t am b.ahead = ((am S).1,(am S).2.1, { b.ahead with ms := b.ahead.ms.set t.m.toNat (am S).2.2 }) := by unfold atAct; rw [if_neg h1,hS]
    rw [eA] at hY
    obtain ⟨n,hn⟩ : ∃ n : Nat,t.m = (n : Int) := ⟨t.m.toNat,by omega⟩
    have hnt : t.m.toNat = n := by omega
    rw [hnt] at hS hY hlt
    obtain ⟨p,hp⟩ : ∃ p,ps[n]? = some p := ⟨ps[n]'(by omega),List.getElem?_eq_getElem (by omega)⟩
    have hpp := ptrs_get hp
    have hml := wa.msl
    rw [hn] at h1' h2'
    rw [callD_run (E := env) [] (by kernel_rfl) Try.func77 rfl (by rw [Try.ntmps77]; simp) (by kernel_rfl)]; simp (maxSteps := 2000000) (implicitDefEqProofs := false) (disch := first | omega | (simp only [SD.down,uA,uL] <;> omega) | fail) only [Try.ntmps77,Try.results77,env_P,env_L,g1,p0,p2,g2,hx,entG_1,entG_2,hn,h1',h2',hpp,TQ.down,resE,oneV, ↓reduceIte,reduceCtorEq,uB,uE,uL,uA,uM,uS,uN,uX,uO,vR,vD,vL,vK,vE,vA,vM,vT,vS]
    first | refine G.call (hdo H C (kb + 2 + n) p S x (mm n p S hp hS) (wa.ms S (List.mem_of_getElem? hS)) (by omega) hx2 hCx hx) ?_ | refine G.callC (hdo H C (kb + 2 + n) p S x (mm n p S hp hS) (wa.ms S (List.mem_of_getElem? hS)) (by omega) hx2 hCx hx) ?_ | refine G.callL (hdo H C (kb + 2 + n) p S x (mm n p S hp hS) (wa.ms S (List.mem_of_getElem? hS)) (by omega) hx2 hCx hx) ?_
    rintro v h1 ⟨C',rfl,q1,q2,q3,q4⟩
    simp (maxSteps := 2000000) (implicitDefEqProofs := false) (disch := first | omega | (simp only [SD.down,uA,uL] <;> omega) | fail) only [TQ.down,resE,oneV, ↓reduceIte,reduceCtorEq,uB,uE,uL,uA,uM,uS,uN,uX,uO,vR,vD,vL,vK,vE,vA,vM,vT,vS]
    subst hY
    exact G.ok ⟨C',rfl,q1,I1c.setM wa.msl kb10 hp hS q3 q2 q4,q3.mono fun n hn => by unfold busK; omega,q4⟩
 rintro v h1 ⟨C',rfl,I1,fr,hC⟩
 have hle := fr.le
 have hyl : (b.ioR t (atAct t am)).1.x.length = 64 := by
  unfold BS.ioR
  simp only
  split
  ·exact ht
  ·exact ok.2.2
 have gz : h1.get (h.next + 3) = some (.cells entZ 0 false) := (fr.get _ (by omega) (by rw [pnt_ge (by omega)]; unfold busK; omega)).trans w3
 generalize (b.ioR t (atAct t am)).1 = t2 at *
 have t2l := entG_len t2 hyl
 have c2 := entG_cut t2 hyl
 have z2 := entG_overZ t2 hyl
 simp (maxSteps := 2000000) (implicitDefEqProofs := false) (disch := first | omega | (simp only [SD.down,uA,uL] <;> omega) | fail) only [gz,t2l,c2,z2,ezl,TQ.down,resE,oneV, ↓reduceIte,reduceCtorEq,uB,uE,uL,uA,uM,uS,uN,uX,uO,vR,vD,vL,vK,vE,vA,vM,vT,vS]
 subst hX
 refine G.ok ⟨C',rfl,I1.keep ?_ (by simp (maxSteps := 2000000) (implicitDefEqProofs := false) (disch := first | omega | (simp only [SD.down,uA,uL] <;> omega) | fail) only [TQ.down,resE,oneV, ↓reduceIte,reduceCtorEq,uB,uE,uL,uA,uM,uS,uN,uX,uO,vR,vD,vL,vK,vE,vA,vM,vT,vS]; try omega) (fun j hj hk1 hk2 => ?_) (fun _ _ => rfl),⟨by simp (maxSteps := 2000000) (implicitDefEqProofs := false) (disch := first | omega | (simp only [SD.down,uA,uL] <;> omega) | fail) only [TQ.down,resE,oneV, ↓reduceIte,reduceCtorEq,uB,uE,uL,uA,uM,uS,uN,uX,uO,vR,vD,vL,vK,vE,vA,vM,vT,vS]; omega,fun j hj hk => ?_⟩,fun j hj => (hC j (by omega)).trans (ce j hj)⟩
 ·unfold BS.ioR
  simp only
  split
  ·exact wa.msl
  ·exact ok.1.msl
 ·have : j ≠ h.next + 3 := by
   rintro rfl
   rw [hC _ (by omega),pnt_ge (by omega)] at hk1
   omega
  simp (maxSteps := 2000000) (implicitDefEqProofs := false) (disch := first | omega | (simp only [SD.down,uA,uL] <;> omega) | fail) only [TQ.down,resE,oneV, ↓reduceIte,reduceCtorEq,uB,uE,uL,uA,uM,uS,uN,uX,uO,vR,vD,vL,vK,vE,vA,vM,vT,vS]
 ·simp (maxSteps := 2000000) (implicitDefEqProofs := false) (disch := first | omega | (simp only [SD.down,uA,uL] <;> omega) | fail) only [TQ.down,resE,oneV, ↓reduceIte,reduceCtorEq,uB,uE,uL,uA,uM,uS,uN,uX,uO,vR,vD,vL,vK,vE,vA,vM,vT,vS]
  exact (fr.get j (by omega) (by rw [ce j hj]; exact hk)).trans (kp.2 j hj)
theorem entG_fold (k m i : Int) : ((entZ.set 0 (AV.int IntKind.i64 k)).set 1 (AV.int IntKind.i64 m)).set 2 (AV.int IntKind.i64 i) = entG ⟨k,m,i,zz,0⟩ := rfl
theorem entG_67 (t : Ent) (hx : t.x.length = 64) : (entG t)[67]? = some (.int .i64 t.e) := by
 show (B t.x ++ [AV.int .i64 t.e])[64]? = _
 rw [List.getElem?_append_right (by simp [B_len,hx])]
 simp [B_len,hx]
def BS.lgB (b : BS) (n : Nat) : Prop := ∀ S ∈ b.ms,S.lg.length <= n
theorem did_lg (S : MS) (s : Stp) : (S.did s).lg.length <= S.lg.length := by
 unfold MS.did
 split
 ·unfold MS.set
  split
  ·exact List.length_filter_le ..
  ·exact Nat.le_refl _
 split
 ·unfold MS.mark; split <;> exact Nat.le_refl _
 split
 ·unfold MS.back
  split
  ·exact Nat.le_refl _
  ·split
   ·exact Nat.zero_le _
   ·exact Nat.le_refl _
 split <;> exact Nat.le_refl _
theorem crashL_lg : ∀ (l : List MS) (p : List Nat),∀ S ∈ crashL l p,S.lg = []
 | [],_,S,hS => by cases hS
 | T :: r,p,S,hS => by
  rw [crashL] at hS
  rcases List.mem_cons.1 hS with rfl | hS
  ·rfl
  ·exact crashL_lg r _ S hS
theorem BS.step_lgB {b : BS} {n : Nat} (h : b.lgB n) (s : Stp) : (b.step s).lgB n := by
 unfold BS.step
 split
 ·intro S hS
  rw [crashL_lg _ _ S hS]; exact Nat.zero_le _
 ·split
  ·exact h
  ·intro S hS
   obtain ⟨j,hj⟩ := List.mem_iff_getElem?.1 hS
   rw [List.getElem?_modify] at hj
   cases hq : b.ms[j]? with
   | none => rw [hq] at hj; simp at hj
   | some T =>
    rw [hq] at hj
    have hT := h T (List.mem_of_getElem? hq)
    simp at hj
    split at hj <;> subst hj
    ·exact Nat.le_trans (did_lg T s) hT
    ·exact hT
theorem aheadL_lgB {n : Nat} (now : Nat) : ∀ (l : List Stp) (b : BS),b.lgB n -> (aheadL now l b).lgB n
 | [],b,h => h
 | s :: r,b,h => by
  rw [aheadL]
  refine aheadL_lgB now r _ ?_
  split
  ·exact BS.step_lgB h s
  ·exact h
def amRead (t : Ent) (S : MS) : Int × List Nat × MS := ((S.read t.i).2,(S.read t.i).1,S)
def amWrite (t : Ent) (S : MS) : Int × List Nat × MS := ((S.write t.i t.x).2,t.x,(S.write t.i t.x).1)
def amFlush (t : Ent) (S : MS) : Int × List Nat × MS := (S.flush.2,t.x,S.flush.1)
def BS.read (b : BS) (m i : Int) : Ent × BS := b.ioR ⟨1,m,i,zz,0⟩ (atAct ⟨1,m,i,zz,0⟩ (amRead ⟨1,m,i,zz,0⟩))
def BS.write (b : BS) (m i : Int) (s : List Nat) : Ent × BS := b.ioR ⟨2,m,i,s,0⟩ (atAct ⟨2,m,i,s,0⟩ (amWrite ⟨2,m,i,s,0⟩))
def BS.flush (b : BS) (m : Int) : Ent × BS := b.ioR ⟨3,m,0,zz,0⟩ (atAct ⟨3,m,0,zz,0⟩ (amFlush ⟨3,m,0,zz,0⟩))
theorem MS.read_len {S : MS} (w : S.wf) (i : Int) : (S.read i).1.length = 64 := by
 unfold MS.read
 split
 ·exact mGet_len w.seen i
 ·rfl
theorem do_read2 (d : Nat) (t : Ent) (ht : t.x.length = 64) (H : Heap) (C : Col) (k m : Nat) (S : MS) (x : Nat) (I : MemI H C k m S) (w : S.wf) (k2 : 2 <= k) (hx2 : x < H.next) (hCx : C x = 1) (hx : H.get x = some (.cells (entG t) 0 false)) :
  G (callD env (d + 6) 69 [.ptr m 0, .ptr x 0] H) fun v h' => ∃ C',v = .int .i64 (amRead t S).1 /\ h'.get x = some (.cells (entG { t with x := (amRead t S).2.1 }) 0 false) /\ MemI h' C' k m (amRead t S).2.2 /\ Fr (fun n => n = 1 \/ n = k) C H h' /\ ∀ j,j < H.next -> C' j = C j := by
 generalize hX : (fun (v : AV) (h' : Heap) => ∃ C',v = .int .i64 (amRead t S).1 /\ h'.get x = some (.cells (entG { t with x := (amRead t S).2.1 }) 0 false) /\ MemI h' C' k m (amRead t S).2.2 /\ Fr (fun n => n = 1 \/ n = k) C H h' /\ ∀ j,j < H.next -> C' j = C j) = Q
 have hel := entG_len t ht
 have hy := MS.read_len w t.i
 rw [callD_run (E := env) [] (by kernel_rfl) Try.func69 rfl (by rw [Try.ntmps69]; simp) (by kernel_rfl)]; simp (maxSteps := 2000000) (implicitDefEqProofs := false) (disch := first | omega | (simp only [SD.down,uA,uL] <;> omega) | fail) only [Try.ntmps69,Try.results69,env_P,env_L,hx,entG_1,entG_2,TQ.down,resE,oneV, ↓reduceIte,reduceCtorEq,uB,uE,uL,uA,uM,uS,uN,uX,uO,vR,vD,vL,vK,vE,vA,vM,vT,vS]
 first | refine G.call (m_read d H C k m S I w t.i) ?_ | refine G.callC (m_read d H C k m S I w t.i) ?_ | refine G.callL (m_read d H C k m S I w t.i) ?_
 rintro v h1 ⟨rfl,k1⟩
 have n1 := k1.1
 have hx1 : h1.get x = some (.cells (entG t) 0 false) := (k1.2 _ hx2).trans hx
 have hd := entG_data t _ ht hy
 simp (maxSteps := 2000000) (implicitDefEqProofs := false) (disch := first | omega | (simp only [SD.down,uA,uL] <;> omega) | fail) only [hx1,hd,hel,hy,TQ.down,resE,oneV, ↓reduceIte,reduceCtorEq,uB,uE,uL,uA,uM,uS,uN,uX,uO,vR,vD,vL,vK,vE,vA,vM,vT,vS]
 subst hX
 refine G.ok ⟨pnt C H.next 0,rfl,by simp (maxSteps := 2000000) (implicitDefEqProofs := false) (disch := first | omega | (simp only [SD.down,uA,uL] <;> omega) | fail) only [amRead,TQ.down,resE,oneV, ↓reduceIte,reduceCtorEq,uB,uE,uL,uA,uM,uS,uN,uX,uO,vR,vD,vL,vK,vE,vA,vM,vT,vS],(I.keeps k1 (fun j hj hc => (pnt_lt hj).trans hc)).keep (by simp (maxSteps := 2000000) (implicitDefEqProofs := false) (disch := first | omega | (simp only [SD.down,uA,uL] <;> omega) | fail) only [TQ.down,resE,oneV, ↓reduceIte,reduceCtorEq,uB,uE,uL,uA,uM,uS,uN,uX,uO,vR,vD,vL,vK,vE,vA,vM,vT,vS]; try omega) (fun j hj hc => ?_) (fun _ _ q => q),⟨by simp (maxSteps := 2000000) (implicitDefEqProofs := false) (disch := first | omega | (simp only [SD.down,uA,uL] <;> omega) | fail) only [TQ.down,resE,oneV, ↓reduceIte,reduceCtorEq,uB,uE,uL,uA,uM,uS,uN,uX,uO,vR,vD,vL,vK,vE,vA,vM,vT,vS]; try omega,fun j hj hk => ?_⟩,fun j hj => pnt_lt hj⟩
 ·have : j ≠ x := by
   rintro rfl
   rw [pnt_lt hx2] at hc; omega
  simp (maxSteps := 2000000) (implicitDefEqProofs := false) (disch := first | omega | (simp only [SD.down,uA,uL] <;> omega) | fail) only [TQ.down,resE,oneV, ↓reduceIte,reduceCtorEq,uB,uE,uL,uA,uM,uS,uN,uX,uO,vR,vD,vL,vK,vE,vA,vM,vT,vS]
 ·have : j ≠ x := by rintro rfl; omega
  simp (maxSteps := 2000000) (implicitDefEqProofs := false) (disch := first | omega | (simp only [SD.down,uA,uL] <;> omega) | fail) only [TQ.down,resE,oneV, ↓reduceIte,reduceCtorEq,uB,uE,uL,uA,uM,uS,uN,uX,uO,vR,vD,vL,vK,vE,vA,vM,vT,vS]
  exact k1.2 j hj
theorem do_write2 (d : Nat) (t : Ent) (ht : t.x.length = 64) (H : Heap) (C : Col) (k m : Nat) (S : MS) (x : Nat) (I : MemI H C k m S) (w : S.wf) (k2 : 2 <= k) (hx2 : x < H.next) (hCx : C x = 1) (hx : H.get x = some (.cells (entG t) 0 false)) :
  G (callD env (d + 6) 64 [.ptr m 0, .ptr x 0] H) fun v h' => ∃ C',v = .int .i64 (amWrite t S).1 /\ h'.get x = some (.cells (entG { t with x := (amWrite t S).2.1 }) 0 false) /\ MemI h' C' k m (amWrite t S).2.2 /\ Fr (fun n => n = 1 \/ n = k) C H h' /\ ∀ j,j < H.next -> C' j = C j := by
 generalize hX : (fun (v : AV) (h' : Heap) => ∃ C',v = .int .i64 (amWrite t S).1 /\ h'.get x = some (.cells (entG { t with x := (amWrite t S).2.1 }) 0 false) /\ MemI h' C' k m (amWrite t S).2.2 /\ Fr (fun n => n = 1 \/ n = k) C H h' /\ ∀ j,j < H.next -> C' j = C j) = Q
 have hel := entG_len t ht
 have hd := entG_d t ht
 rw [callD_run (E := env) [] (by kernel_rfl) Try.func64 rfl (by rw [Try.ntmps64]; simp) (by kernel_rfl)]; simp (maxSteps := 2000000) (implicitDefEqProofs := false) (disch := first | omega | (simp only [SD.down,uA,uL] <;> omega) | fail) only [Try.ntmps64,Try.results64,env_P,env_L,hx,entG_1,entG_2,hd,hel,TQ.down,resE,oneV, ↓reduceIte,reduceCtorEq,uB,uE,uL,uA,uM,uS,uN,uX,uO,vR,vD,vL,vK,vE,vA,vM,vT,vS]
 first | refine G.call (m_write d H C k m S I w t.i t.x ht) ?_ | refine G.callC (m_write d H C k m S I w t.i t.x ht) ?_ | refine G.callL (m_write d H C k m S I w t.i t.x ht) ?_
 rintro v h1 ⟨rfl,I1,fr⟩
 simp (maxSteps := 2000000) (implicitDefEqProofs := false) (disch := first | omega | (simp only [SD.down,uA,uL] <;> omega) | fail) only [TQ.down,resE,oneV, ↓reduceIte,reduceCtorEq,uB,uE,uL,uA,uM,uS,uN,uX,uO,vR,vD,vL,vK,vE,vA,vM,vT,vS]
 subst hX
 exact G.ok ⟨_,rfl,(fr.get x hx2 (by omega)).trans hx,I1,fr.mono fun n hn => .inr hn,fun j hj => pnt_lt hj⟩
theorem do_flush2 (d : Nat) (t : Ent) (ht : t.x.length = 64) (H : Heap) (C : Col) (k m : Nat) (S : MS) (x : Nat) (I : MemI H C k m S) (w : S.wf) (k2 : 2 <= k) (hx2 : x < H.next) (hCx : C x = 1) (hx : H.get x = some (.cells (entG t) 0 false)) :
  G (callD env (d + 7) 67 [.ptr m 0, .ptr x 0] H) fun v h' => ∃ C',v = .int .i64 (amFlush t S).1 /\ h'.get x = some (.cells (entG { t with x := (amFlush t S).2.1 }) 0 false) /\ MemI h' C' k m (amFlush t S).2.2 /\ Fr (fun n => n = 1 \/ n = k) C H h' /\ ∀ j,j < H.next -> C' j = C j := by
 generalize hX : (fun (v : AV) (h' : Heap) => ∃ C',v = .int .i64 (amFlush t S).1 /\ h'.get x = some (.cells (entG { t with x := (amFlush t S).2.1 }) 0 false) /\ MemI h' C' k m (amFlush t S).2.2 /\ Fr (fun n => n = 1 \/ n = k) C H h' /\ ∀ j,j < H.next -> C' j = C j) = Q
 rw [callD_run (E := env) [] (by kernel_rfl) Try.func67 rfl (by rw [Try.ntmps67]; simp) (by kernel_rfl)]; simp (maxSteps := 2000000) (implicitDefEqProofs := false) (disch := first | omega | (simp only [SD.down,uA,uL] <;> omega) | fail) only [Try.ntmps67,Try.results67,env_P,env_L,TQ.down,resE,oneV, ↓reduceIte,reduceCtorEq,uB,uE,uL,uA,uM,uS,uN,uX,uO,vR,vD,vL,vK,vE,vA,vM,vT,vS]
 first | refine G.call (m_flush d H C k m S I w) ?_ | refine G.callC (m_flush d H C k m S I w) ?_ | refine G.callL (m_flush d H C k m S I w) ?_
 rintro v h1 ⟨rfl,I1,fr⟩
 simp (maxSteps := 2000000) (implicitDefEqProofs := false) (disch := first | omega | (simp only [SD.down,uA,uL] <;> omega) | fail) only [TQ.down,resE,oneV, ↓reduceIte,reduceCtorEq,uB,uE,uL,uA,uM,uS,uN,uX,uO,vR,vD,vL,vK,vE,vA,vM,vT,vS]
 subst hX
 exact G.ok ⟨_,rfl,(fr.get x hx2 (by omega)).trans hx,I1,fr.mono fun n hn => .inr hn,fun j hj => pnt_lt hj⟩
theorem BS.ahead_wf {b : BS} (w : b.wf) : b.ahead.wf := aheadL_wf _ _ _ w w.st
theorem ioR_x {b : BS} (w : b.wf) (t : Ent) (ht : t.x.length = 64) (act : BS -> Int × List Nat × BS) (h : (act b.ahead).2.1.length = 64) : (b.ioR t act).1.x.length = 64 := by
 unfold BS.ioR
 simp only
 split
 ·exact ht
 ·exact h
theorem ioR_wf {b : BS} (w : b.wf) (t : Ent) (ht : t.x.length = 64) (act : BS -> Int × List Nat × BS) (h : (act b.ahead).2.1.length = 64) (hw : (act b.ahead).2.2.wf) (hl : b.log.length < 3989) : (b.ioR t act).2.wf := by
 have hx := ioR_x w t ht act h
 unfold BS.ioR at hx ⊢
 simp only at hx ⊢
 have key : ∀ b2 : BS,b2.wf -> ∀ t2 : Ent,t2.x.length = 64 -> BS.wf { b2 with log := b.log ++ [t2] } := fun b2 w2 t2 h2 =>
  ⟨w2.ms,w2.msl,w2.ms0,w2.cell,w2.celll,w2.cell0,w2.stl,w2.st,by simp; omega,fun u hu => by
   rcases List.mem_append.1 hu with q | q
   ·exact w.log u q
   ·simp at q; subst q; exact h2⟩
 split
 ·rename_i ho
  rw [if_pos ho] at hx
  exact key _ (BS.ahead_wf w) _ hx
 ·rename_i ho
  rw [if_neg ho] at hx
  exact key _ hw _ hx
theorem amRead_ok {b : BS} (t : Ent) : ∀ S ∈ b.ahead.ms,S.wf -> (amRead t S).2.2.wf /\ (amRead t S).2.1.length = 64 := fun S _ w => ⟨w,MS.read_len w _⟩
theorem amWrite_ok {b : BS} {n : Nat} (hl : b.lgB n) (hn : n < 3999) (t : Ent) (ht : t.x.length = 64) : ∀ S ∈ b.ahead.ms,S.wf -> (amWrite t S).2.2.wf /\ (amWrite t S).2.1.length = 64 := fun S hS w => ⟨write_wf w (Nat.lt_of_le_of_lt (aheadL_lgB _ _ _ hl S hS) hn) _ ht,ht⟩
theorem amFlush_ok {b : BS} (t : Ent) (ht : t.x.length = 64) : ∀ S ∈ b.ahead.ms,S.wf -> (amFlush t S).2.2.wf /\ (amFlush t S).2.1.length = 64 := fun S _ w => ⟨flush_wf w,ht⟩
theorem BS.read_wf {b : BS} (w : b.wf) (m i : Int) (hl : b.log.length < 3989) : (b.read m i).2.wf := by
 have ok := atAct_ok (BS.ahead_wf w) ⟨1,m,i,zz,0⟩ rfl (amRead ⟨1,m,i,zz,0⟩) (amRead_ok ⟨1,m,i,zz,0⟩)
 exact ioR_wf w ⟨1,m,i,zz,0⟩ rfl _ ok.2.2 ok.1 hl
theorem BS.write_wf {b : BS} (w : b.wf) (m i : Int) (s : List Nat) (hs : s.length = 64) (hl : b.log.length < 3989) {n : Nat} (hg : b.lgB n) (hn : n < 3999) : (b.write m i s).2.wf := by
 have ok := atAct_ok (BS.ahead_wf w) ⟨2,m,i,s,0⟩ hs (amWrite ⟨2,m,i,s,0⟩) (amWrite_ok hg hn ⟨2,m,i,s,0⟩ hs)
 exact ioR_wf w ⟨2,m,i,s,0⟩ hs _ ok.2.2 ok.1 hl
theorem BS.flush_wf {b : BS} (w : b.wf) (m : Int) (hl : b.log.length < 3989) : (b.flush m).2.wf := by
 have ok := atAct_ok (BS.ahead_wf w) ⟨3,m,0,zz,0⟩ rfl (amFlush ⟨3,m,0,zz,0⟩) (amFlush_ok ⟨3,m,0,zz,0⟩ rfl)
 exact ioR_wf w ⟨3,m,0,zz,0⟩ rfl _ ok.2.2 ok.1 hl
set_option maxHeartbeats 1000000 in
theorem bus_read (d : Nat) (h : Heap) (c : Col) (kb β cp : Nat) (ps : List Nat) (b : BS) (m i : Int) (kb10 : 10 <= kb) (I : BusI h c kb β cp ps b) (w : b.wf) (hst : StepOk (d + 1) b kb β cp ps) :
  G (callD env (d + 11) 54 [.ptr β 0, .int .i64 m, .int .i64 i] h) fun v h' => ∃ C',v = .tup [.agg (B (b.read m i).1.x), .int .i64 (b.read m i).1.e] /\ BusI h' C' kb β cp ps (b.read m i).2 /\ Fr (busK kb) c h h' /\ ∀ j,j < h.next -> C' j = c j := by
 generalize hX : (fun (v : AV) (h' : Heap) => ∃ C',v = .tup [.agg (B (b.read m i).1.x), .int .i64 (b.read m i).1.e] /\ BusI h' C' kb β cp ps (b.read m i).2 /\ Fr (busK kb) c h h' /\ ∀ j,j < h.next -> C' j = c j) = Q
 have hz := zz_len
 have ezl := entZ_len
 have ok := atAct_ok (BS.ahead_wf w) ⟨1,m,i,zz,0⟩ rfl (amRead ⟨1,m,i,zz,0⟩) (amRead_ok ⟨1,m,i,zz,0⟩)
 have hy : (b.read m i).1.x.length = 64 := ioR_x w ⟨1,m,i,zz,0⟩ rfl _ ok.2.2
 have ml : (b.read m i).2.ms.length <= 64 := by
  unfold BS.read BS.ioR
  simp only
  split
  ·exact (BS.ahead_wf w).msl
  ·exact ok.1.msl
 have I0 := I
 obtain ⟨Ms,stv,lgv,l1,c1,l2,c2,n1,g1,g2,pl,mm,ce,st,lg⟩ := I
 rw [callD_run (E := env) [(4, .fl [(3,0,1)])] (by kernel_rfl) Try.func54 rfl (by rw [Try.ntmps54]; simp) (by kernel_rfl)]; simp (maxSteps := 2000000) (implicitDefEqProofs := false) (disch := first | omega | (simp only [SD.down,uA,uL] <;> omega) | fail) only [Try.ntmps54,Try.results54,env_P,env_L,in36,Try.f36,g1,zz_fold,entZ_fold,entG_fold,hz,ezl,TQ.down,resE,oneV, ↓reduceIte,reduceCtorEq,uB,uE,uL,uA,uM,uS,uN,uX,uO,vR,vD,vL,vK,vE,vA,vM,vT,vS]
 have kp : Keeps h (h.new (Blk.cells (B zz) 0 false)) := ⟨by simp (maxSteps := 2000000) (implicitDefEqProofs := false) (disch := first | omega | (simp only [SD.down,uA,uL] <;> omega) | fail) only [TQ.down,resE,oneV, ↓reduceIte,reduceCtorEq,uB,uE,uL,uA,uM,uS,uN,uX,uO,vR,vD,vL,vK,vE,vA,vM,vT,vS]; omega,fun j hj => by simp (maxSteps := 2000000) (implicitDefEqProofs := false) (disch := first | omega | (simp only [SD.down,uA,uL] <;> omega) | fail) only [TQ.down,resE,oneV, ↓reduceIte,reduceCtorEq,uB,uE,uL,uA,uM,uS,uN,uX,uO,vR,vD,vL,vK,vE,vA,vM,vT,vS]⟩
 have ce : ∀ j,j < h.next -> pnt c h.next 0 j = c j := fun j hj => pnt_lt hj
 first | refine G.call (bus_at (d + 1) _ (pnt c h.next 0) kb β cp 69 ps b ⟨1,m,i,zz,0⟩ (amRead ⟨1,m,i,zz,0⟩) kb10 (I0.keeps w.msl kp ce) w rfl (amRead_ok ⟨1,m,i,zz,0⟩) hst (fun H C k m2 S x J wS k2 x1 x2 x3 => do_read2 (d + 1) ⟨1,m,i,zz,0⟩ rfl H C k m2 S x J wS k2 x1 x2 x3)) ?_ | refine G.callC (bus_at (d + 1) _ (pnt c h.next 0) kb β cp 69 ps b ⟨1,m,i,zz,0⟩ (amRead ⟨1,m,i,zz,0⟩) kb10 (I0.keeps w.msl kp ce) w rfl (amRead_ok ⟨1,m,i,zz,0⟩) hst (fun H C k m2 S x J wS k2 x1 x2 x3 => do_read2 (d + 1) ⟨1,m,i,zz,0⟩ rfl H C k m2 S x J wS k2 x1 x2 x3)) ?_ | refine G.callL (bus_at (d + 1) _ (pnt c h.next 0) kb β cp 69 ps b ⟨1,m,i,zz,0⟩ (amRead ⟨1,m,i,zz,0⟩) kb10 (I0.keeps w.msl kp ce) w rfl (amRead_ok ⟨1,m,i,zz,0⟩) hst (fun H C k m2 S x J wS k2 x1 x2 x3 => do_read2 (d + 1) ⟨1,m,i,zz,0⟩ rfl H C k m2 S x J wS k2 x1 x2 x3)) ?_
 rintro v h1 ⟨C1,rfl,I1,fr,hC⟩
 have I1' : BusI h1 C1 kb β cp ps (b.read m i).2 := I1
 have hle := fr.le
 simp (maxSteps := 2000000) (implicitDefEqProofs := false) (disch := first | omega | (simp only [SD.down,uA,uL] <;> omega) | fail) only [TQ.down,resE,oneV, ↓reduceIte,reduceCtorEq,uB,uE,uL,uA,uM,uS,uN,uX,uO,vR,vD,vL,vK,vE,vA,vM,vT,vS] at hle
 have gz : h1.get h.next = some (.cells (B zz) 0 false) := by
  rw [fr.get _ (by simp (maxSteps := 2000000) (implicitDefEqProofs := false) (disch := first | omega | (simp only [SD.down,uA,uL] <;> omega) | fail) only [TQ.down,resE,oneV, ↓reduceIte,reduceCtorEq,uB,uE,uL,uA,uM,uS,uN,uX,uO,vR,vD,vL,vK,vE,vA,vM,vT,vS]; omega) (by rw [pnt_ge (Nat.le_refl _)]; unfold busK; omega)]; simp (maxSteps := 2000000) (implicitDefEqProofs := false) (disch := first | omega | (simp only [SD.down,uA,uL] <;> omega) | fail) only [TQ.down,resE,oneV, ↓reduceIte,reduceCtorEq,uB,uE,uL,uA,uM,uS,uN,uX,uO,vR,vD,vL,vK,vE,vA,vM,vT,vS]
 change G (runB _ _ _ _ _ _ (some (.agg (entG (b.read m i).1),h1))) Q
 generalize (b.read m i).1 = t2 at *
 have t1 := entG_len t2 hy
 have cc1 := entG_cut t2 hy
 have d1 := entG_d t2 hy
 have x1 := entG_67 t2 hy
 have z1 := entG_overZ t2 hy
 simp (maxSteps := 2000000) (implicitDefEqProofs := false) (disch := first | omega | (simp only [SD.down,uA,uL] <;> omega) | fail) only [gz,zz_fold,entZ_fold,hz,hy,ezl,t1,cc1,d1,x1,z1,cutB_all,over_B,TQ.down,resE,oneV, ↓reduceIte,reduceCtorEq,uB,uE,uL,uA,uM,uS,uN,uX,uO,vR,vD,vL,vK,vE,vA,vM,vT,vS]
 subst hX
 have hcol : ∀ j,j < h.next -> C1 j = c j := fun j hj => (hC j (by simp (maxSteps := 2000000) (implicitDefEqProofs := false) (disch := first | omega | (simp only [SD.down,uA,uL] <;> omega) | fail) only [TQ.down,resE,oneV, ↓reduceIte,reduceCtorEq,uB,uE,uL,uA,uM,uS,uN,uX,uO,vR,vD,vL,vK,vE,vA,vM,vT,vS]; omega)).trans (ce j hj)
 refine G.ok ⟨pnt C1 h1.next 0,rfl,I1'.keep ml (by simp (maxSteps := 2000000) (implicitDefEqProofs := false) (disch := first | omega | (simp only [SD.down,uA,uL] <;> omega) | fail) only [TQ.down,resE,oneV, ↓reduceIte,reduceCtorEq,uB,uE,uL,uA,uM,uS,uN,uX,uO,vR,vD,vL,vK,vE,vA,vM,vT,vS]; try omega) (fun j hj k1 k2 => ?_) (fun j hj => pnt_lt hj),⟨by simp (maxSteps := 2000000) (implicitDefEqProofs := false) (disch := first | omega | (simp only [SD.down,uA,uL] <;> omega) | fail) only [TQ.down,resE,oneV, ↓reduceIte,reduceCtorEq,uB,uE,uL,uA,uM,uS,uN,uX,uO,vR,vD,vL,vK,vE,vA,vM,vT,vS]; omega,fun j hj hk => ?_⟩,fun j hj => (pnt_lt (by omega)).trans (hcol j hj)⟩
 ·have : j ≠ h.next := by
   rintro rfl
   rw [hC _ (by simp (maxSteps := 2000000) (implicitDefEqProofs := false) (disch := first | omega | (simp only [SD.down,uA,uL] <;> omega) | fail) only [TQ.down,resE,oneV, ↓reduceIte,reduceCtorEq,uB,uE,uL,uA,uM,uS,uN,uX,uO,vR,vD,vL,vK,vE,vA,vM,vT,vS]; omega),pnt_ge (Nat.le_refl _)] at k1
   omega
  simp (maxSteps := 2000000) (implicitDefEqProofs := false) (disch := first | omega | (simp only [SD.down,uA,uL] <;> omega) | fail) only [TQ.down,resE,oneV, ↓reduceIte,reduceCtorEq,uB,uE,uL,uA,uM,uS,uN,uX,uO,vR,vD,vL,vK,vE,vA,vM,vT,vS]
 ·simp (maxSteps := 2000000) (implicitDefEqProofs := false) (disch := first | omega | (simp only [SD.down,uA,uL] <;> omega) | fail) only [TQ.down,resE,oneV, ↓reduceIte,reduceCtorEq,uB,uE,uL,uA,uM,uS,uN,uX,uO,vR,vD,vL,vK,vE,vA,vM,vT,vS]
  rw [fr.get j (by simp (maxSteps := 2000000) (implicitDefEqProofs := false) (disch := first | omega | (simp only [SD.down,uA,uL] <;> omega) | fail) only [TQ.down,resE,oneV, ↓reduceIte,reduceCtorEq,uB,uE,uL,uA,uM,uS,uN,uX,uO,vR,vD,vL,vK,vE,vA,vM,vT,vS]; omega) (by rw [ce j hj]; exact hk)]
  simp (maxSteps := 2000000) (implicitDefEqProofs := false) (disch := first | omega | (simp only [SD.down,uA,uL] <;> omega) | fail) only [TQ.down,resE,oneV, ↓reduceIte,reduceCtorEq,uB,uE,uL,uA,uM,uS,uN,uX,uO,vR,vD,vL,vK,vE,vA,vM,vT,vS]
theorem bus_flush (d : Nat) (h : Heap) (c : Col) (kb β cp : Nat) (ps : List Nat) (b : BS) (m : Int) (kb10 : 10 <= kb) (I : BusI h c kb β cp ps b) (w : b.wf) (hst : StepOk (d + 1) b kb β cp ps) :
  G (callD env (d + 11) 53 [.ptr β 0, .int .i64 m] h) fun v h' => ∃ C',v = .int .i64 (b.flush m).1.e /\ BusI h' C' kb β cp ps (b.flush m).2 /\ Fr (busK kb) c h h' /\ ∀ j,j < h.next -> C' j = c j := by
 generalize hX : (fun (v : AV) (h' : Heap) => ∃ C',v = .int .i64 (b.flush m).1.e /\ BusI h' C' kb β cp ps (b.flush m).2 /\ Fr (busK kb) c h h' /\ ∀ j,j < h.next -> C' j = c j) = Q
 have ezl := entZ_len
 have ok := atAct_ok (BS.ahead_wf w) ⟨3,m,0,zz,0⟩ rfl (amFlush ⟨3,m,0,zz,0⟩) (amFlush_ok ⟨3,m,0,zz,0⟩ rfl)
 have hy : (b.flush m).1.x.length = 64 := ioR_x w ⟨3,m,0,zz,0⟩ rfl _ ok.2.2
 have fold : (entZ.set 0 (AV.int IntKind.i64 3)).set 1 (AV.int IntKind.i64 m) = entG ⟨3,m,0,zz,0⟩ := rfl
 have I0 := I
 obtain ⟨Ms,stv,lgv,l1,c1,l2,c2,n1,g1,g2,pl,mm,ce,st,lg⟩ := I
 rw [callD_run (E := env) [] (by kernel_rfl) Try.func53 rfl (by rw [Try.ntmps53]; simp) (by kernel_rfl)]; simp (maxSteps := 2000000) (implicitDefEqProofs := false) (disch := first | omega | (simp only [SD.down,uA,uL] <;> omega) | fail) only [Try.ntmps53,Try.results53,env_P,env_L,in36,Try.f36,g1,zz_fold,entZ_fold,fold,ezl,TQ.down,resE,oneV, ↓reduceIte,reduceCtorEq,uB,uE,uL,uA,uM,uS,uN,uX,uO,vR,vD,vL,vK,vE,vA,vM,vT,vS]
 first | refine G.call (bus_at (d + 1) _ c kb β cp 67 ps b ⟨3,m,0,zz,0⟩ (amFlush ⟨3,m,0,zz,0⟩) kb10 I0 w rfl (amFlush_ok ⟨3,m,0,zz,0⟩ rfl) hst (fun H C k m2 S x J wS k2 x1 x2 x3 => do_flush2 d ⟨3,m,0,zz,0⟩ rfl H C k m2 S x J wS k2 x1 x2 x3)) ?_ | refine G.callC (bus_at (d + 1) _ c kb β cp 67 ps b ⟨3,m,0,zz,0⟩ (amFlush ⟨3,m,0,zz,0⟩) kb10 I0 w rfl (amFlush_ok ⟨3,m,0,zz,0⟩ rfl) hst (fun H C k m2 S x J wS k2 x1 x2 x3 => do_flush2 d ⟨3,m,0,zz,0⟩ rfl H C k m2 S x J wS k2 x1 x2 x3)) ?_ | refine G.callL (bus_at (d + 1) _ c kb β cp 67 ps b ⟨3,m,0,zz,0⟩ (amFlush ⟨3,m,0,zz,0⟩) kb10 I0 w rfl (amFlush_ok ⟨3,m,0,zz,0⟩ rfl) hst (fun H C k m2 S x J wS k2 x1 x2 x3 => do_flush2 d ⟨3,m,0,zz,0⟩ rfl H C k m2 S x J wS k2 x1 x2 x3)) ?_
 rintro v h1 ⟨C1,rfl,I1,fr,hC⟩
 have x1 := entG_67 (b.flush m).1 hy
 change G (runB _ _ _ _ _ _ (some (.agg (entG (b.flush m).1),h1))) Q
 simp (maxSteps := 2000000) (implicitDefEqProofs := false) (disch := first | omega | (simp only [SD.down,uA,uL] <;> omega) | fail) only [x1,TQ.down,resE,oneV, ↓reduceIte,reduceCtorEq,uB,uE,uL,uA,uM,uS,uN,uX,uO,vR,vD,vL,vK,vE,vA,vM,vT,vS]
 subst hX
 exact G.ok ⟨C1,rfl,I1,fr,hC⟩
theorem bus_write (d : Nat) (h : Heap) (c : Col) (kb β cp : Nat) (ps : List Nat) (b : BS) (m i : Int) (s : List Nat) (hs : s.length = 64) (kb10 : 10 <= kb) (I : BusI h c kb β cp ps b) (w : b.wf) {n : Nat} (hg : b.lgB n) (hn : n < 3999) (hst : StepOk (d + 1) b kb β cp ps) :
  G (callD env (d + 11) 51 [.ptr β 0, .int .i64 m, .int .i64 i, .agg (B s)] h) fun v h' => ∃ C',v = .int .i64 (b.write m i s).1.e /\ BusI h' C' kb β cp ps (b.write m i s).2 /\ Fr (busK kb) c h h' /\ ∀ j,j < h.next -> C' j = c j := by
 generalize hX : (fun (v : AV) (h' : Heap) => ∃ C',v = .int .i64 (b.write m i s).1.e /\ BusI h' C' kb β cp ps (b.write m i s).2 /\ Fr (busK kb) c h h' /\ ∀ j,j < h.next -> C' j = c j) = Q
 have ezl := entZ_len
 have hzz := zz_len
 have ed := entG_data ⟨2,m,i,zz,0⟩ s hzz hs
 have ok := atAct_ok (BS.ahead_wf w) ⟨2,m,i,s,0⟩ hs (amWrite ⟨2,m,i,s,0⟩) (amWrite_ok hg hn ⟨2,m,i,s,0⟩ hs)
 have hy : (b.write m i s).1.x.length = 64 := ioR_x w ⟨2,m,i,s,0⟩ hs _ ok.2.2
 have I0 := I
 obtain ⟨Ms,stv,lgv,l1,c1,l2,c2,n1,g1,g2,pl,mm,ce,st,lg⟩ := I
 rw [callD_run (E := env) [] (by kernel_rfl) Try.func51 rfl (by rw [Try.ntmps51]; simp) (by kernel_rfl)]; simp (maxSteps := 2000000) (implicitDefEqProofs := false) (disch := first | omega | (simp only [SD.down,uA,uL] <;> omega) | fail) only [Try.ntmps51,Try.results51,env_P,env_L,in36,Try.f36,g1,zz_fold,entZ_fold,entG_fold,ezl,hs,hzz,cutB_all,over_B,ed,TQ.down,resE,oneV, ↓reduceIte,reduceCtorEq,uB,uE,uL,uA,uM,uS,uN,uX,uO,vR,vD,vL,vK,vE,vA,vM,vT,vS]
 have kp : Keeps h (h.new (Blk.cells (B s) 0 false)) := ⟨by simp (maxSteps := 2000000) (implicitDefEqProofs := false) (disch := first | omega | (simp only [SD.down,uA,uL] <;> omega) | fail) only [TQ.down,resE,oneV, ↓reduceIte,reduceCtorEq,uB,uE,uL,uA,uM,uS,uN,uX,uO,vR,vD,vL,vK,vE,vA,vM,vT,vS]; omega,fun j hj => by simp (maxSteps := 2000000) (implicitDefEqProofs := false) (disch := first | omega | (simp only [SD.down,uA,uL] <;> omega) | fail) only [TQ.down,resE,oneV, ↓reduceIte,reduceCtorEq,uB,uE,uL,uA,uM,uS,uN,uX,uO,vR,vD,vL,vK,vE,vA,vM,vT,vS]⟩
 have ce : ∀ j,j < h.next -> pnt c h.next 0 j = c j := fun j hj => pnt_lt hj
 first | refine G.call (bus_at (d + 1) _ (pnt c h.next 0) kb β cp 64 ps b ⟨2,m,i,s,0⟩ (amWrite ⟨2,m,i,s,0⟩) kb10 (I0.keeps w.msl kp ce) w hs (amWrite_ok hg hn ⟨2,m,i,s,0⟩ hs) hst (fun H C k m2 S x J wS k2 x1 x2 x3 => do_write2 (d + 1) ⟨2,m,i,s,0⟩ hs H C k m2 S x J wS k2 x1 x2 x3)) ?_ | refine G.callC (bus_at (d + 1) _ (pnt c h.next 0) kb β cp 64 ps b ⟨2,m,i,s,0⟩ (amWrite ⟨2,m,i,s,0⟩) kb10 (I0.keeps w.msl kp ce) w hs (amWrite_ok hg hn ⟨2,m,i,s,0⟩ hs) hst (fun H C k m2 S x J wS k2 x1 x2 x3 => do_write2 (d + 1) ⟨2,m,i,s,0⟩ hs H C k m2 S x J wS k2 x1 x2 x3)) ?_ | refine G.callL (bus_at (d + 1) _ (pnt c h.next 0) kb β cp 64 ps b ⟨2,m,i,s,0⟩ (amWrite ⟨2,m,i,s,0⟩) kb10 (I0.keeps w.msl kp ce) w hs (amWrite_ok hg hn ⟨2,m,i,s,0⟩ hs) hst (fun H C k m2 S x J wS k2 x1 x2 x3 => do_write2 (d + 1) ⟨2,m,i,s,0⟩ hs H C k m2 S x J wS k2 x1 x2 x3)) ?_
 rintro v h1 ⟨C1,rfl,I1,fr,hC⟩
 have x1 := entG_67 (b.write m i s).1 hy
 change G (runB _ _ _ _ _ _ (some (.agg (entG (b.write m i s).1),h1))) Q
 simp (maxSteps := 2000000) (implicitDefEqProofs := false) (disch := first | omega | (simp only [SD.down,uA,uL] <;> omega) | fail) only [x1,TQ.down,resE,oneV, ↓reduceIte,reduceCtorEq,uB,uE,uL,uA,uM,uS,uN,uX,uO,vR,vD,vL,vK,vE,vA,vM,vT,vS]
 subst hX
 refine G.ok ⟨C1,rfl,I1,⟨Nat.le_trans kp.1 fr.le,fun j hj hk => ?_⟩,fun j hj => (hC j (by simp (maxSteps := 2000000) (implicitDefEqProofs := false) (disch := first | omega | (simp only [SD.down,uA,uL] <;> omega) | fail) only [TQ.down,resE,oneV, ↓reduceIte,reduceCtorEq,uB,uE,uL,uA,uM,uS,uN,uX,uO,vR,vD,vL,vK,vE,vA,vM,vT,vS]; omega)).trans (ce j hj)⟩
 rw [fr.get j (by simp (maxSteps := 2000000) (implicitDefEqProofs := false) (disch := first | omega | (simp only [SD.down,uA,uL] <;> omega) | fail) only [TQ.down,resE,oneV, ↓reduceIte,reduceCtorEq,uB,uE,uL,uA,uM,uS,uN,uX,uO,vR,vD,vL,vK,vE,vA,vM,vT,vS]; omega) (by rw [ce j hj]; exact hk)]
 exact kp.2 j hj
theorem bus_members (d : Nat) (h : Heap) (c : Col) (kb β cp : Nat) (ps : List Nat) (b : BS) (I : BusI h c kb β cp ps b) (w : b.wf) : callD env (d + 3) 48 [.ptr β 0] h = some (.int .i64 (b.ms.length : Int),h) := by
 obtain ⟨Ms,stv,lgv,l1,c1,l2,c2,n1,g1,g2,pl,mm,ce,st,lg⟩ := I
 have := w.msl
 rw [callD_run (E := env) [] (by kernel_rfl) Try.func48 rfl (by rw [Try.ntmps48]; simp) (by kernel_rfl)]; simp (maxSteps := 2000000) (implicitDefEqProofs := false) (disch := first | omega | (simp only [SD.down,uA,uL] <;> omega) | fail) only [Try.ntmps48,Try.results48,env_P,env_L,in36,Try.f36,g1,TQ.down,resE,oneV, ↓reduceIte,reduceCtorEq,uB,uE,uL,uA,uM,uS,uN,uX,uO,vR,vD,vL,vK,vE,vA,vM,vT,vS]
def pad (t : List Nat) : List Nat := t ++ List.replicate 32 0
theorem cC_lab (n : Nat) (t : List Nat) (ht : t.length = 32) : cutE 1 32 (cC n t) = some (B t) := by
 rw [cutE_of (by rw [cC_len n t ht]; omega)]
 show some ((B t).take 32) = _
 rw [List.take_of_length_le (by simp [B_len,ht])]
def BS.last (b : BS) : Nat × List Nat := b.cell[b.cell.length - 1]?.getD (0,czz)
def cellAct (b : BS) : Int × List Nat × BS := (0,pad b.last.2,b)
def advAct (lb : List Nat) (b : BS) : Int × List Nat × BS := (0,pad lb, { b with cell := b.cell ++ [(b.last.1 + 1,lb)] })
def tCell : Ent := ⟨4,0,0,zz,0⟩
def tAdv (lb : List Nat) : Ent := ⟨5,0,0,pad lb,0⟩
def BS.cellR (b : BS) : Ent × BS := b.ioR tCell cellAct
def BS.advR (b : BS) (lb : List Nat) : Ent × BS := b.ioR (tAdv lb) (advAct lb)
def BS.cellV (b : BS) : Nat × List Nat := if b.ahead.off then (0,czz) else b.ahead.last
def BS.advV (b : BS) : Nat := if b.ahead.off then 0 else b.ahead.last.1 + 1
end Go.Proofs.Ytlnepbkeiianmaa
