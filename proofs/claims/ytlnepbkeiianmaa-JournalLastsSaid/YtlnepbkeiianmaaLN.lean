/- Of this program, for all inputs: contracts. No condition but those in the theorems. -/
import Derived.Test.YtlnepbkeiianmaaLM
import Derived.Test.YtlnepbkeiianmaaXA
import Derived.Test.YtlnepbkeiianmaaXB
namespace Go.Proofs.Ytlnepbkeiianmaa
open Go Go.Ai Go.Aw Go.Proofs
open Nat renaming reduceBEq -> uB,reduceEqDiff -> uE,reduceLT -> uL,reduceAdd -> uA,reduceMul -> uM,reduceSub -> uS,reduceAnd -> uN,reduceXor -> uX,reduceOr -> uO
open Int renaming reduceMod -> vR,reduceDiv -> vD,reduceLT -> vL,reduceLE -> vK,reduceEq -> vE,reduceAdd -> vA,reduceMul -> vM,reduceToNat -> vT,reduceSub -> vS
set_option linter.unusedSimpArgs false
set_option linter.unusedVariables false
set_option maxRecDepth 10000
/-! members of a bench,by themselves -/
theorem HB.setM {h h' : Heap} {C C' : Col} {kb β cp n i p : Nat} {ps : List Nat} {b : BS} {l : List (Img × Bool × Bool)} {x' : Img × Bool × Bool} (x : HB h C kb β cp ps b n l) (kb10 : 10 <= kb) (hp : ps[i]? = some p) (hi : i < l.length) (f : Fr (· = kb + 2 + i) C h h') (m' : MemI h' C' (kb + 2 + i) p (calmM n x')) (w' : (calmM n x').wf) (e : ∀ j,j < h.next -> C' j = C j) :
  HB h' C' kb β cp ps { b with ms := b.ms.set i (calmM n x') } n (l.set i x') := by
 obtain ⟨y,hy⟩ : ∃ y,l[i]? = some y := ⟨_,List.getElem?_eq_getElem hi⟩
 have hS : b.ms[i]? = some (calmM n y) := by rw [x.c.ms,List.getElem?_map,hy]; rfl
 refine ⟨x.I.setM x.w.w.msl kb10 hp hS (f.mono fun n hn => .inr hn) m' e,⟨⟨fun S hS' => ?_,by simpa using x.w.w.msl,by simpa using x.w.w.ms0,x.w.w.cell,x.w.w.celll,x.w.w.cell0,x.w.w.stl,x.w.w.st,x.w.w.logl,x.w.w.log⟩,fun S hS' => ?_⟩,⟨by simp only; rw [x.c.ms,List.map_set],x.c.off⟩⟩
 ·rcases List.mem_or_eq_of_mem_set hS' with q | rfl
  ·exact x.w.w.ms S q
  ·exact w'
 ·rcases List.mem_or_eq_of_mem_set hS' with q | rfl
  ·exact x.w.lg S q
  ·exact Nat.zero_le _
theorem HB.mem {h : Heap} {C : Col} {kb β cp n i p : Nat} {ps : List Nat} {b : BS} {l : List (Img × Bool × Bool)} {y : Img × Bool × Bool} (x : HB h C kb β cp ps b n l) (hp : ps[i]? = some p) (hy : l[i]? = some y) : MemI h C (kb + 2 + i) p (calmM n y) /\ (calmM n y).wf := by
 have hS : b.ms[i]? = some (calmM n y) := by rw [x.c.ms,List.getElem?_map,hy]; rfl
 obtain ⟨Ms,stv,lgv,l1,c1,l2,c2,n1,g1,g2,pl,mm,ce,st,lg⟩ := x.I
 exact ⟨mm i p _ hp hS,x.w.w.ms _ (List.mem_of_getElem? hS)⟩
theorem calm_set (n : Nat) (D : Img) (f hu : Bool) (i : Int) (s : List Nat) (h0 : 0 <= i) (h1 : i < n) : (calmM n (D,f,hu)).set i s = calmM n (mPut D i s,f,true) := by
 unfold MS.set
 rw [if_pos (by unfold MS.may mIO; rw [if_neg (by show ¬ (_ \/ _); simp [calmM]; omega)]; rfl)]
 rfl
theorem calm_crash (n : Nat) (x : Img × Bool × Bool) (p : List Nat) : (calmM n x).crash p = calmM n x := rfl
theorem calm_fail (n : Nat) (D : Img) (f hu on : Bool) : (calmM n (D,f,hu)).fail on = calmM n (D,on,hu || on) := rfl
theorem calm_wf {n : Nat} {x : Img × Bool × Bool} (n0 : 0 < n) (h : Img.ok x.1) : (calmM n x).wf := ⟨n0,(show 0 < 4000 by omega),fun _ q => (by cases q),h,h,(show 0 <= 64 by omega),fun _ q => by cases q⟩
theorem calm_ok {n : Nat} {x : Img × Bool × Bool} (w : (calmM n x).wf) : Img.ok x.1 := w.dur
theorem hset (d : Nat) (h : Heap) (C : Col) (kb β cp n : Nat) (ps : List Nat) (b : BS) (l : List (Img × Bool × Bool)) (m p : Nat) (D : Img) (f hu : Bool) (kb10 : 10 <= kb) (B : HB h C kb β cp ps b n l) (hm : l[m]? = some (D,f,hu)) (hp : ps[m]? = some p) (i : Int) (s : List Nat) (hs : s.length = 64) (h0 : 0 <= i) (h1 : i < n) :
  G (callD env (d + 5) 15 [.ptr p 0, .int .i64 i, .agg (Aw.B s)] h) fun v h' => (∃ e,v = .int .i64 e) /\ ∃ C' b',HB h' C' kb β cp ps b' n (l.set m (mPut D i s,f,true)) /\ b'.steps = b.steps /\ b'.log = b.log /\ Fr (busK kb) C h h' /\ ∀ j,j < h.next -> C' j = C j := by
 obtain ⟨mm,ww⟩ := B.mem hp hm
 refine (m_set d h C (kb + 2 + m) p _ mm ww i s hs).mono ?_
 rintro v h' ⟨e,m',fr⟩
 rw [calm_set _ _ _ _ _ _ h0 h1] at m'
 have hml := (List.getElem?_eq_some_iff.1 hm).1
 have h64 : l.length <= 64 := by rw [<- B.len]; exact B.w.w.msl
 exact ⟨e,_,_,B.setM kb10 hp hml fr m' (calm_wf ww.n0 (mPut_ok (calm_ok ww) _ hs)) (fun j hj => pnt_lt hj),rfl,rfl,fr.mono fun n hn => by unfold busK; omega,fun j hj => pnt_lt hj⟩
theorem hfail (d : Nat) (h : Heap) (C : Col) (kb β cp n : Nat) (ps : List Nat) (b : BS) (l : List (Img × Bool × Bool)) (m p : Nat) (D : Img) (f hu : Bool) (on : Bool) (kb10 : 10 <= kb) (B : HB h C kb β cp ps b n l) (hm : l[m]? = some (D,f,hu)) (hp : ps[m]? = some p) :
  G (callD env (d + 3) 11 [.ptr p 0, .bool on] h) fun v h' => v = .int .i64 0 /\ ∃ C' b',HB h' C' kb β cp ps b' n (l.set m (D,on,hu || on)) /\ b'.steps = b.steps /\ b'.log = b.log /\ Fr (busK kb) C h h' /\ ∀ j,j < h.next -> C' j = C j := by
 obtain ⟨mm,ww⟩ := B.mem hp hm
 refine (m_fail d h C (kb + 2 + m) p _ mm ww on).mono ?_
 rintro v h' ⟨e,m',fr⟩
 rw [calm_fail] at m'
 have hml := (List.getElem?_eq_some_iff.1 hm).1
 have h64 : l.length <= 64 := by rw [<- B.len]; exact B.w.w.msl
 exact ⟨e,_,_,B.setM kb10 hp hml fr m' (calm_wf ww.n0 (x := (D,on,hu || on)) (show Img.ok D from ww.dur)) (fun j hj => pnt_lt hj),rfl,rfl,fr.mono fun n hn => by unfold busK; omega,fun j hj => pnt_lt hj⟩
theorem crash_pickA (d : Nat) (h : Heap) (p q : Nat) (pv : AV) (l : List Nat) (hp : h.get p = some (.cells [pv] 0 false)) (x : PickA h pv l) : callD env (d + 4) 38 [.int .i64 (q : Int), .ptr p 0] h = some (.bool (decide (l.getD q 0 % 256 ≠ 0)),h) := by
 have hlen : lenE Try.prog 33 pv = some (.int .i64 (l.length : Int)) := by
  rcases x with ⟨rfl,rfl | ⟨q,o,n,rfl⟩ | ⟨a,rfl⟩⟩ | ⟨K,o,n,cs,ext,ro,_,rfl,_⟩
  ·exact lnn33
  ·exact lns33 ..
  ·simp only [lenE,lenK,unK_E,Try.underlying33,th_some,fN_eq]; rfl
  ·exact lns33 ..
 obtain ⟨hok,hsc,hsm⟩ := x.ok
 by_cases hq : q < l.length
 ·have hd : decide ((q : Int) < (l.length : Int)) = true := decide_eq_true (by omega)
  rcases x with ⟨rfl,_⟩ | ⟨K,o,i,cs,ext,ro,hl,rfl,h1,h3,h4⟩
  ·simp at hq
  have hcell : cs[o + q]? = some (b8 (l.getD q 0)) := by
   have hle := cutE_len h4
   rw [cutE_of hle] at h4
   have h5 := Option.some.inj h4
   have : ((cs.drop o).take l.length)[q]? = cs[o + q]? := by rw [List.getElem?_take_of_lt hq,List.getElem?_drop]
   rw [<- this,h5]
   simp [B,List.getElem?_map,List.getElem?_eq_getElem hq,List.getD_eq_getElem?_getD]
  generalize l.getD q 0 = z at hcell ⊢
  rw [callD_run (E := env) [] (by kernel_rfl) Try.func38 rfl (by rw [Try.ntmps38]; simp) (by kernel_rfl)]; simp (maxSteps := 2000000) (implicitDefEqProofs := false) (disch := first | omega | (simp only [SD.down,uA,uL] <;> omega) | fail) only [Try.ntmps38,Try.results38,env_P,env_L,hp,hok,hsc,hlen,hd,h3,hcell,TQ.down,resE,oneV, ↓reduceIte,reduceCtorEq,uB,uE,uL,uA,uM,uS,uN,uX,uO,vR,vD,vL,vK,vE,vA,vM,vT,vS]
  congr 3
  simp
 ·have hd : decide ((q : Int) < (l.length : Int)) = false := decide_eq_false (by omega)
  have hz : l.getD q 0 = 0 := by rw [List.getD_eq_getElem?_getD,List.getElem?_eq_none (by omega)]; rfl
  rw [hz]
  rw [callD_run (E := env) [] (by kernel_rfl) Try.func38 rfl (by rw [Try.ntmps38]; simp) (by kernel_rfl)]; simp (maxSteps := 2000000) (implicitDefEqProofs := false) (disch := first | omega | (simp only [SD.down,uA,uL] <;> omega) | fail) only [Try.ntmps38,Try.results38,env_P,env_L,hp,hok,hsc,hlen,hd,TQ.down,resE,oneV, ↓reduceIte,reduceCtorEq,uB,uE,uL,uA,uM,uS,uN,uX,uO,vR,vD,vL,vK,vE,vA,vM,vT,vS]
  rfl
def PickC (h : Heap) (c : Col) (k : Nat) (v : AV) (l : List Nat) : Prop := PickA h v l /\ (l ≠ [] -> ∀ K o n,v = .slice K o l.length n -> c K ≠ k)
theorem PickC.keep {h h' : Heap} {c : Col} {k : Nat} {v : AV} {l : List Nat} (x : PickC h c k v l) (n : h.next <= h'.next) (g : ∀ j,j < h.next -> c j ≠ k -> h'.get j = h.get j) : PickA h' v l := by
 obtain ⟨x,hc⟩ := x
 rcases x with x | ⟨K,o,i,cs,ext,ro,hl,rfl,h1,h3,h4⟩
 ·exact .inl x
 ·exact .inr ⟨K,o,i,cs,ext,ro,hl,rfl,by omega,(g K h1 (hc hl _ _ _ rfl)).trans h3,h4⟩
theorem m_crashA (d : Nat) (h : Heap) (c : Col) (k m : Nat) (S : MS) (I : MemI h c k m S) (w : S.wf) (pv : AV) (l : List Nat) (x : PickC h c k pv l) :
  G (callD env (d + 6) 17 [.ptr m 0,pv] h) fun v h' => v = .int .i64 0 /\ MemI h' (pnt c h.next k) k m (S.crash l) /\ Fr (· = k) c h h' := by
 generalize hX : (fun (v : AV) (h' : Heap) => v = .int .i64 0 /\ MemI h' (pnt c h.next k) k m (S.crash l) /\ Fr (· = k) c h h') = Q
 have I0 := I
 obtain ⟨a,b,lgv,mk,l1,l2,l3,c1,c2,c3,n1,n2,n3,hm,ha,hb,hlg,mks⟩ := I
 unfold memG at hm
 have e1 : decide (0 < (S.n : Int)) = true := decide_eq_true (by have := w.n0; omega)
 obtain ⟨hok,hsc,hsm⟩ := x.1.ok
 have hcl : pv.cells = [pv] := by
  rcases x.1 with ⟨_,rfl | ⟨q,o,n,rfl⟩ | ⟨a,rfl⟩⟩ | ⟨K,o,i,cs,ext,ro,_,rfl,_⟩ <;> rfl
 rw [callD_run (E := env) [] (by kernel_rfl) Try.func17 rfl (by rw [Try.ntmps17]; simp) (by kernel_rfl)]; simp (maxSteps := 2000000) (implicitDefEqProofs := false) (disch := first | omega | (simp only [SD.down,uA,uL] <;> omega) | fail) only [Try.ntmps17,Try.results17,env_P,env_L,hm,in31,Try.f31,e1,hok,hsc,hcl,TQ.down,resE,oneV, ↓reduceIte,reduceCtorEq,uB,uE,uL,uA,uM,uS,uN,uX,uO,vR,vD,vL,vK,vE,vA,vM,vT,vS]
 have kp : Keeps h (h.new (Blk.cells [pv] 0 false)) := ⟨by simp (maxSteps := 2000000) (implicitDefEqProofs := false) (disch := first | omega | (simp only [SD.down,uA,uL] <;> omega) | fail) only [TQ.down,resE,oneV, ↓reduceIte,reduceCtorEq,uB,uE,uL,uA,uM,uS,uN,uX,uO,vR,vD,vL,vK,vE,vA,vM,vT,vS]; omega,fun j hj => by simp (maxSteps := 2000000) (implicitDefEqProofs := false) (disch := first | omega | (simp only [SD.down,uA,uL] <;> omega) | fail) only [TQ.down,resE,oneV, ↓reduceIte,reduceCtorEq,uB,uE,uL,uA,uM,uS,uN,uX,uO,vR,vD,vL,vK,vE,vA,vM,vT,vS]⟩
 have nx : (h.new (Blk.cells [pv] 0 false)).next = h.next + 1 := by simp (maxSteps := 2000000) (implicitDefEqProofs := false) (disch := first | omega | (simp only [SD.down,uA,uL] <;> omega) | fail) only [TQ.down,resE,oneV, ↓reduceIte,reduceCtorEq,uB,uE,uL,uA,uM,uS,uN,uX,uO,vR,vD,vL,vK,vE,vA,vM,vT,vS]
 have gp : (h.new (Blk.cells [pv] 0 false)).get h.next = some (.cells [pv] 0 false) := by simp (maxSteps := 2000000) (implicitDefEqProofs := false) (disch := first | omega | (simp only [SD.down,uA,uL] <;> omega) | fail) only [TQ.down,resE,oneV, ↓reduceIte,reduceCtorEq,uB,uE,uL,uA,uM,uS,uN,uX,uO,vR,vD,vL,vK,vE,vA,vM,vT,vS]
 generalize h.new (Blk.cells [pv] 0 false) = h2 at kp nx gp ⊢
 first | refine G.call (m_settle d h2 (pnt c h.next (k + 1)) k m S (I0.keeps kp (fun j hj hc => (pnt_lt hj).trans hc)) w 38 [.ptr h.next 0] (fun q => decide (l.getD q 0 % 256 ≠ 0)) (by simp) (fun H q fr => crash_pickA d H h.next q pv l ((fr.get _ (by omega) (by rw [pnt_ge (Nat.le_refl _)]; omega)).trans gp) (x.keep (Nat.le_trans kp.1 fr.le) fun j hj hc => (fr.get j (by omega) (by rw [pnt_lt hj]; exact hc)).trans (kp.2 j hj)))) ?_ | refine G.callC (m_settle d h2 (pnt c h.next (k + 1)) k m S (I0.keeps kp (fun j hj hc => (pnt_lt hj).trans hc)) w 38 [.ptr h.next 0] (fun q => decide (l.getD q 0 % 256 ≠ 0)) (by simp) (fun H q fr => crash_pickA d H h.next q pv l ((fr.get _ (by omega) (by rw [pnt_ge (Nat.le_refl _)]; omega)).trans gp) (x.keep (Nat.le_trans kp.1 fr.le) fun j hj hc => (fr.get j (by omega) (by rw [pnt_lt hj]; exact hc)).trans (kp.2 j hj)))) ?_ | refine G.callL (m_settle d h2 (pnt c h.next (k + 1)) k m S (I0.keeps kp (fun j hj hc => (pnt_lt hj).trans hc)) w 38 [.ptr h.next 0] (fun q => decide (l.getD q 0 % 256 ≠ 0)) (by simp) (fun H q fr => crash_pickA d H h.next q pv l ((fr.get _ (by omega) (by rw [pnt_ge (Nat.le_refl _)]; omega)).trans gp) (x.keep (Nat.le_trans kp.1 fr.le) fun j hj hc => (fr.get j (by omega) (by rw [pnt_lt hj]; exact hc)).trans (kp.2 j hj)))) ?_
 rintro v h3 ⟨rfl,J,fr⟩
 simp (maxSteps := 2000000) (implicitDefEqProofs := false) (disch := first | omega | (simp only [SD.down,uA,uL] <;> omega) | fail) only [TQ.down,resE,oneV, ↓reduceIte,reduceCtorEq,uB,uE,uL,uA,uM,uS,uN,uX,uO,vR,vD,vL,vK,vE,vA,vM,vT,vS]
 subst hX
 refine G.ok ⟨rfl,J.keep (Nat.le_refl _) (fun _ _ _ => rfl) (fun j hj hc => ?_),⟨Nat.le_trans kp.1 fr.le,fun j hj hc => (fr.get j (by omega) (by rw [pnt_lt hj]; exact hc)).trans (kp.2 j hj)⟩⟩
 by_cases h1 : j < h.next
 ·rw [pnt_lt (by omega),pnt_lt h1] at hc
  rw [pnt_lt h1]; exact hc
 ·exact pnt_ge (by omega)
theorem hcrash (d : Nat) (h : Heap) (C : Col) (kb β cp n : Nat) (ps : List Nat) (b : BS) (l : List (Img × Bool × Bool)) (m p : Nat) (y : Img × Bool × Bool) (kb10 : 10 <= kb) (B : HB h C kb β cp ps b n l) (hm : l[m]? = some y) (hp : ps[m]? = some p) (pv : AV) (pl : List Nat) (x : PickC h C (kb + 2 + m) pv pl) :
  G (callD env (d + 6) 17 [.ptr p 0,pv] h) fun v h' => v = .int .i64 0 /\ ∃ C' b',HB h' C' kb β cp ps b' n l /\ b'.steps = b.steps /\ b'.log = b.log /\ Fr (busK kb) C h h' /\ ∀ j,j < h.next -> C' j = C j := by
 obtain ⟨mm,ww⟩ := B.mem hp hm
 refine (m_crashA d h C (kb + 2 + m) p _ mm ww pv pl x).mono ?_
 rintro v h' ⟨e,m',fr⟩
 rw [calm_crash] at m'
 have hml := (List.getElem?_eq_some_iff.1 hm).1
 have h64 : l.length <= 64 := by rw [<- B.len]; exact B.w.w.msl
 have B' := B.setM kb10 hp hml fr m' ww (fun j hj => pnt_lt hj)
 rw [set_same hm] at B'
 exact ⟨e,_,_,B',rfl,rfl,fr.mono fun n hn => by unfold busK; omega,fun j hj => pnt_lt hj⟩
/-! JournalLasts: what it computes,no program in sight -/
def sec (k : Nat) : List Nat := k :: List.replicate 63 0
theorem sec_len (k : Nat) : (sec k).length = 64 := by simp [sec]
def Set0 (l : List (Img × Bool × Bool)) (m i : Nat) : Prop := l.length = 4 /\ ∀ (j : Nat) x,l[j]? = some x -> x.2.1 = false /\ Uq x.1 /\ ∀ k : Nat,k < 54 -> (j < m \/ j = m /\ k < i) -> M (mGet x.1 k zz) = M (sec k)
theorem Set0.nil : Set0 (c0l 4) 0 0 := ⟨rfl,fun j x hx => by
 have : x = ([],false,false) := by
  have := List.mem_of_getElem? hx
  exact (List.mem_replicate.1 this).2
 subst this
 exact ⟨rfl,trivial,fun k _ h => by omega⟩⟩
theorem Set0.step {l : List (Img × Bool × Bool)} {m i : Nat} (x : Set0 l m i) {D : Img} {f hu : Bool} (hm : l[m]? = some (D,f,hu)) : Set0 (l.set m (mPut D i (sec i),f,true)) m (i + 1) := by
 refine ⟨by rw [List.length_set]; exact x.1,fun j y hy => ?_⟩
 rw [List.getElem?_set] at hy
 split at hy
 ·rename_i e
  subst e
  split at hy
  ·cases hy
   obtain ⟨h1,h2,h3⟩ := x.2 m _ hm
   refine ⟨h1,Uq.put h2 _ _,fun k hk h => ?_⟩
   show M (mGet (mPut D i (sec i)) k zz) = _
   rw [mGet_put h2]
   by_cases e : (k : Int) = i
   ·rw [if_pos e,show k = i by omega]
   ·rw [if_neg e]
    exact h3 k hk (by omega)
  ·cases hy
 ·obtain ⟨h1,h2,h3⟩ := x.2 j _ hy
  exact ⟨h1,h2,fun k hk h => h3 k hk (by omega)⟩
theorem Set0.next {l : List (Img × Bool × Bool)} {m : Nat} (x : Set0 l m 54) : Set0 l (m + 1) 0 := ⟨x.1,fun j y hy => by
 obtain ⟨h1,h2,h3⟩ := x.2 j _ hy
 exact ⟨h1,h2,fun k hk h => h3 k hk (by omega)⟩⟩
def Out (D : Img) : Prop := ∀ k : Nat,k < 54 -> (k < 8 \/ 50 <= k) -> M (mGet D k zz) = M (sec k)
theorem Out.put {D : Img} (x : Out D) (u : Uq D) (hf : Nat) (h1 : hf <= 1) (L : List (List Nat)) (hL : L.length <= 21) : Out (putAll (jPos 4 1 hf) 0 L D) := by
 intro k hk h
 have e := putAll_get (8 + (hf : Int) * (gHalf 4 1 : Nat)) L 0 u k
 rw [h21] at e
 have h2 : hf = 0 \/ hf = 1 := by omega
 rw [if_neg (by rcases h2 with rfl | rfl <;> omega)] at e
 have e2 : jPos 4 1 hf = fun k : Nat => 8 + (hf : Int) * ((21 : Nat) : Int) + (k : Int) := by funext k; unfold jPos; rw [h21]
 rw [e2,e]
 exact x k hk h
def Put0 (H : Nat) (L0 : List (List Nat)) (l : List (Img × Bool × Bool)) : Prop := l.length = 4 /\ ∀ (j : Nat) x,l[j]? = some x -> x.2.1 = false /\ Uq x.1 /\ Holds 4 1 H x.1 L0 /\ Out x.1
theorem Set0.put {l : List (Img × Bool × Bool)} (x : Set0 l 4 0) (H : Nat) (h1 : H <= 1) (L0 : List (List Nat)) (hL : L0.length <= 21) : Put0 H L0 (l.map (upC (jPos 4 1 H) L0)) := by
 refine ⟨by rw [List.length_map]; exact x.1,fun j y hy => ?_⟩
 rw [List.getElem?_map] at hy
 cases hl : l[j]? with
 | none => rw [hl] at hy; cases hy
 | some z =>
  rw [hl] at hy
  obtain ⟨D,f,hu⟩ := z
  obtain ⟨g1,g2,g3⟩ := x.2 j _ hl
  have hj : j < 4 := by rw [<- x.1]; exact (List.getElem?_eq_some_iff.1 hl).1
  cases hy
  simp only at g1
  subst g1
  exact ⟨rfl,putAll_uq _ _ _ g2,Holds.put g2 _,Out.put (fun k hk _ => g3 k hk (by omega)) g2 H h1 L0 hL⟩
def fl1L (f : Nat) (l : List (Img × Bool × Bool)) : List (Img × Bool × Bool) := l.modify f fun x => (x.1,true,true)
theorem fl1L_get (f j : Nat) (l : List (Img × Bool × Bool)) : (fl1L f l)[j]? = (l[j]?).map fun x => if j = f then (x.1,true,true) else x := by
 unfold fl1L
 rw [List.getElem?_modify]
 cases l[j]? with
 | none => rfl
 | some x =>
  by_cases e : f = j
  ·subst e; simp
  ·simp [e,Ne.symm e]
def Put1 (H f : Nat) (L0 L1 : List (List Nat)) (l : List (Img × Bool × Bool)) : Prop := l.length = 4 /\ ∀ (j : Nat) x,l[j]? = some x -> Holds 4 1 H x.1 L0 /\ (j ≠ f -> Holds 4 1 ((1 - H : Nat) : Int) x.1 L1) /\ Out x.1
theorem Put0.put {l : List (Img × Bool × Bool)} {H : Nat} {L0 : List (List Nat)} (x : Put0 H L0 l) (h1 : H <= 1) (h0 : L0.length <= 21) (f : Nat) (L1 : List (List Nat)) (hL : L1.length <= 21) : Put1 H f L0 L1 ((fl1L f l).map (upC (jPos 4 1 ((1 - H : Nat) : Int)) L1)) := by
 refine ⟨by rw [List.length_map]; unfold fl1L; rw [List.length_modify]; exact x.1,fun j y hy => ?_⟩
 rw [List.getElem?_map,fl1L_get] at hy
 cases hl : l[j]? with
 | none => rw [hl] at hy; cases hy
 | some z =>
  rw [hl] at hy
  obtain ⟨D,fa,hu⟩ := z
  obtain ⟨g1,g2,g3,g4⟩ := x.2 j _ hl
  simp only at g1 g2 g3 g4
  subst g1
  by_cases e : j = f
  ·simp only [Option.map_some,if_pos e,upC,if_true,Option.some.injEq] at hy
   subst hy
   exact ⟨g3,fun h => absurd e h,g4⟩
  ·simp only [Option.map_some,if_neg e,upC,if_neg (show ¬ false = true by decide),Option.some.injEq] at hy
   subst hy
   exact ⟨g3.other g2 (by rw [h21]; exact h0) L1 (by rw [h21]; exact hL) (by omega) (by omega),fun _ => Holds.put g2 _,g4.put g2 _ (by omega) L1 hL⟩
theorem took_lt : ∀ (l : List (Img × Bool × Bool)) (i : Nat),∀ t ∈ tookC i l,i <= t /\ ∃ x,l[t - i]? = some x /\ x.2.1 = false
 | [],i,t,h => by cases h
 | x :: r,i,t,h => by
  have go : t ∈ tookC (i + 1) r -> i <= t /\ ∃ y,(x :: r)[t - i]? = some y /\ y.2.1 = false := fun h => by
   obtain ⟨h1,y,h2,h3⟩ := took_lt r (i + 1) t h
   refine ⟨by omega,y, ?_,h3⟩
   rw [show t - i = (t - (i + 1)) + 1 by omega,List.getElem?_cons_succ]
   exact h2
  rw [tookC] at h
  split at h
  ·exact go h
  ·rename_i hx
   rcases List.mem_cons.1 h with rfl | h
   ·exact ⟨Nat.le_refl _,x,by simp,by simpa using hx⟩
   ·exact go h
theorem took_fl {l : List (Img × Bool × Bool)} {H : Nat} {L0 : List (List Nat)} (x : Put0 H L0 l) (f : Nat) : (tookC 0 (fl1L f l)).length = (if f < 4 then 3 else 4) /\ ∀ t ∈ tookC 0 (fl1L f l),t < 4 /\ t ≠ f := by
 refine ⟨?_,fun t ht => ?_⟩
 ·match l,x.1,x.2 with
  | [(a,fa,_),(b,fb,_),(c,fc,_),(e,fe,_)],_,g =>
   have g0 : fa = false := (g 0 _ rfl).1
   have g1 : fb = false := (g 1 _ rfl).1
   have g2 : fc = false := (g 2 _ rfl).1
   have g3 : fe = false := (g 3 _ rfl).1
   subst g0 g1 g2 g3
   match f with
   | 0 => rfl
   | 1 => rfl
   | 2 => rfl
   | 3 => rfl
   | f + 4 =>
    simp [fl1L,tookC]
 ·obtain ⟨_,y,h2,h3⟩ := took_lt _ 0 t ht
  rw [Nat.sub_zero,fl1L_get] at h2
  cases hl : l[t]? with
  | none => rw [hl] at h2; cases h2
  | some z =>
   rw [hl] at h2
   have ht4 : t < 4 := by rw [<- x.1]; exact (List.getElem?_eq_some_iff.1 hl).1
   refine ⟨ht4,fun e => ?_⟩
   rw [Option.map_some,if_pos e] at h2
   cases h2
   cases h3
theorem took_all {l : List (Img × Bool × Bool)} (h4 : l.length = 4) (h : ∀ (j : Nat) x,l[j]? = some x -> x.2.1 = false) : tookC 0 l = [0,1,2,3] /\ ∀ k,ioC k l = 4 * (k + 1) := by
 match l,h4,h with
 | [(a,fa,_),(b,fb,_),(c,fc,_),(e,fe,_)],_,g =>
  have g0 : fa = false := g 0 _ rfl
  have g1 : fb = false := g 1 _ rfl
  have g2 : fc = false := g 2 _ rfl
  have g3 : fe = false := g 3 _ rfl
  subst g0 g1 g2 g3
  exact ⟨rfl,fun k => by simp [ioC]; omega⟩
def stF (t f : Nat) : Stp := ⟨t,4,f,0,0,zz,[]⟩
theorem ahead_fl {b : BS} {n f : Nat} {l : List (Img × Bool × Bool)} (c : CB b n l) (hl : l.length = 4) (h : ∀ (j : Nat) x,l[j]? = some x -> x.2.1 = false) (hs : b.steps = if f < 4 then [stF b.log.length f] else []) : CB b.ahead n (fl1L f l) := by
 unfold BS.ahead
 rw [hs]
 by_cases hf : f < 4
 ·rw [if_pos hf,aheadL,aheadL,if_pos (show (stF b.log.length f).tm = (b.log.length : Int) from rfl)]
  unfold BS.step
  have hm : b.ms.length = 4 := by rw [c.ms,List.length_map,hl]
  rw [if_neg (by show ¬ (4 : Int) = 6; omega),if_neg (by show ¬ ((4 : Int) < 1 \/ 5 < (4 : Int) \/ (f : Int) < 0 \/ (b.ms.length : Int) <= f); omega)]
  refine ⟨?_,c.off⟩
  show b.ms.modify f _ = _
  rw [c.ms]
  apply List.ext_getElem?
  intro j
  rw [List.getElem?_modify,List.getElem?_map,List.getElem?_map,fl1L_get]
  cases hj : l[j]? with
  | none => rfl
  | some x =>
   by_cases e : f = j
   ·subst e
    simp [MS.did,stF,calmM,MS.fail]
   ·simp [e,Ne.symm e]
 ·rw [if_neg hf,aheadL]
  refine ⟨?_,c.off⟩
  rw [c.ms]
  congr 1
  apply List.ext_getElem?
  intro j
  rw [fl1L_get]
  cases hj : l[j]? with
  | none => rfl
  | some x =>
   have := (List.getElem?_eq_some_iff.1 hj).1
   rw [Option.map_some,if_neg (by omega)]
end Go.Proofs.Ytlnepbkeiianmaa
