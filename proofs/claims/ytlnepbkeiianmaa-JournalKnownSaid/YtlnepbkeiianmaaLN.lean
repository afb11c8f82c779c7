/- Of this program, for all inputs: contracts. No condition but those in the theorems. -/
import Derived.Test.YtlnepbkeiianmaaLM
import Derived.Test.YtlnepbkeiianmaaXA
namespace Go.Proofs.Ytlnepbkeiianmaa
open Go Go.Ai Go.Aw Go.Proofs
open Nat renaming reduceBEq -> uB,reduceEqDiff -> uE,reduceLT -> uL,reduceAdd -> uA,reduceMul -> uM,reduceSub -> uS,reduceAnd -> uN,reduceXor -> uX,reduceOr -> uO
open Int renaming reduceMod -> vR,reduceDiv -> vD,reduceLT -> vL,reduceLE -> vK,reduceEq -> vE,reduceAdd -> vA,reduceMul -> vM,reduceToNat -> vT,reduceSub -> vS
set_option linter.unusedSimpArgs false
set_option linter.unusedVariables false
set_option maxRecDepth 10000
/-! members of a bench,by themselves -/
theorem HB.setM {h h' : Heap} {C C' : Col} {kb β cp n i p : Nat} {ps : List Nat} {b : BS} {l : List (Img × Bool × Bool)} {x' : Img × Bool × Bool} (x : HB h C kb β cp ps b n l) (kb10 : 10 <= kb) (hp : ps[i]? = some p) (hi : i < l.length) (f : Fr (· = kb + 2 + i) C h h') (m' : MemI h' C' (kb + 2 + i) p (calmM n x')) (w' : (calmM n x').wf) (e : ∀ j,j < h.next -> C' j = C j) :
  HB h' C' kb β cp ps { b with ms := b.ms.set i (calmM n x') } n (l.set i x') := by
 obtain ⟨y,hy⟩ : ∃ y,l[i]? = some y := ⟨_,List.getElem?_eq_getElem hi⟩
 have hS : b.ms[i]? = some (calmM n y) := by rw [x.c.ms,List.getElem?_map,hy]; rfl
 refine ⟨x.I.setM x.w.w.msl kb10 hp hS (f.mono fun n hn => .inr hn) m' e,⟨⟨fun S hS' => ?_,by simpa using x.w.w.msl,by simpa using x.w.w.ms0,x.w.w.cell,x.w.w.celll,x.w.w.cell0,x.w.w.stl,x.w.w.st,x.w.w.logl,x.w.w.log⟩,fun S hS' => ?_⟩,⟨by simp only; rw [x.c.ms,List.map_set],x.c.off⟩⟩
 ·rcases List.mem_or_eq_of_mem_set hS' with q | rfl
  ·exact x.w.w.ms S q
  ·exact w'
 ·rcases List.mem_or_eq_of_mem_set hS' with q | rfl
  ·exact x.w.lg S q
  ·exact Nat.zero_le _
theorem HB.mem {h : Heap} {C : Col} {kb β cp n i p : Nat} {ps : List Nat} {b : BS} {l : List (Img × Bool × Bool)} {y : Img × Bool × Bool} (x : HB h C kb β cp ps b n l) (hp : ps[i]? = some p) (hy : l[i]? = some y) : MemI h C (kb + 2 + i) p (calmM n y) /\ (calmM n y).wf := by
 have hS : b.ms[i]? = some (calmM n y) := by rw [x.c.ms,List.getElem?_map,hy]; rfl
 obtain ⟨Ms,stv,lgv,l1,c1,l2,c2,n1,g1,g2,pl,mm,ce,st,lg⟩ := x.I
 exact ⟨mm i p _ hp hS,x.w.w.ms _ (List.mem_of_getElem? hS)⟩
theorem calm_set (n : Nat) (D : Img) (f hu : Bool) (i : Int) (s : List Nat) (h0 : 0 <= i) (h1 : i < n) : (calmM n (D,f,hu)).set i s = calmM n (mPut D i s,f,true) := by
 unfold MS.set
 rw [if_pos (by unfold MS.may mIO; rw [if_neg (by show ¬ (_ \/ _); simp [calmM]; omega)]; rfl)]
 rfl
theorem calm_fail (n : Nat) (D : Img) (f hu on : Bool) : (calmM n (D,f,hu)).fail on = calmM n (D,on,hu || on) := rfl
theorem calm_wf {n : Nat} {x : Img × Bool × Bool} (n0 : 0 < n) (h : Img.ok x.1) : (calmM n x).wf := ⟨n0,(show 0 < 4000 by omega),fun _ q => (by cases q),h,h,(show 0 <= 64 by omega),fun _ q => by cases q⟩
theorem calm_ok {n : Nat} {x : Img × Bool × Bool} (w : (calmM n x).wf) : Img.ok x.1 := w.dur
theorem hset (d : Nat) (h : Heap) (C : Col) (kb β cp n : Nat) (ps : List Nat) (b : BS) (l : List (Img × Bool × Bool)) (m p : Nat) (D : Img) (f hu : Bool) (kb10 : 10 <= kb) (B : HB h C kb β cp ps b n l) (hm : l[m]? = some (D,f,hu)) (hp : ps[m]? = some p) (i : Int) (s : List Nat) (hs : s.length = 64) (h0 : 0 <= i) (h1 : i < n) :
  G (callD env (d + 5) 15 [.ptr p 0, .int .i64 i, .agg (Aw.B s)] h) fun v h' => (∃ e,v = .int .i64 e) /\ ∃ C' b',HB h' C' kb β cp ps b' n (l.set m (mPut D i s,f,true)) /\ b'.steps = b.steps /\ b'.log = b.log /\ Fr (busK kb) C h h' /\ ∀ j,j < h.next -> C' j = C j := by
 obtain ⟨mm,ww⟩ := B.mem hp hm
 refine (m_set d h C (kb + 2 + m) p _ mm ww i s hs).mono ?_
 rintro v h' ⟨e,m',fr⟩
 rw [calm_set _ _ _ _ _ _ h0 h1] at m'
 have hml := (List.getElem?_eq_some_iff.1 hm).1
 have h64 : l.length <= 64 := by rw [<- B.len]; exact B.w.w.msl
 exact ⟨e,_,_,B.setM kb10 hp hml fr m' (calm_wf ww.n0 (mPut_ok (calm_ok ww) _ hs)) (fun j hj => pnt_lt hj),rfl,rfl,fr.mono fun n hn => by unfold busK; omega,fun j hj => pnt_lt hj⟩
theorem hfail (d : Nat) (h : Heap) (C : Col) (kb β cp n : Nat) (ps : List Nat) (b : BS) (l : List (Img × Bool × Bool)) (m p : Nat) (D : Img) (f hu : Bool) (on : Bool) (kb10 : 10 <= kb) (B : HB h C kb β cp ps b n l) (hm : l[m]? = some (D,f,hu)) (hp : ps[m]? = some p) :
  G (callD env (d + 3) 11 [.ptr p 0, .bool on] h) fun v h' => v = .int .i64 0 /\ ∃ C' b',HB h' C' kb β cp ps b' n (l.set m (D,on,hu || on)) /\ b'.steps = b.steps /\ b'.log = b.log /\ Fr (busK kb) C h h' /\ ∀ j,j < h.next -> C' j = C j := by
 obtain ⟨mm,ww⟩ := B.mem hp hm
 refine (m_fail d h C (kb + 2 + m) p _ mm ww on).mono ?_
 rintro v h' ⟨e,m',fr⟩
 rw [calm_fail] at m'
 have hml := (List.getElem?_eq_some_iff.1 hm).1
 have h64 : l.length <= 64 := by rw [<- B.len]; exact B.w.w.msl
 exact ⟨e,_,_,B.setM kb10 hp hml fr m' (calm_wf ww.n0 (x := (D,on,hu || on)) (show Img.ok D from ww.dur)) (fun j hj => pnt_lt hj),rfl,rfl,fr.mono fun n hn => by unfold busK; omega,fun j hj => pnt_lt hj⟩
def PickC (h : Heap) (c : Col) (k : Nat) (v : AV) (l : List Nat) : Prop := PickA h v l /\ (l ≠ [] -> ∀ K o n,v = .slice K o l.length n -> c K ≠ k)
theorem PickC.keep {h h' : Heap} {c : Col} {k : Nat} {v : AV} {l : List Nat} (x : PickC h c k v l) (n : h.next <= h'.next) (g : ∀ j,j < h.next -> c j ≠ k -> h'.get j = h.get j) : PickA h' v l := by
 obtain ⟨x,hc⟩ := x
 rcases x with x | ⟨K,o,i,cs,ext,ro,hl,rfl,h1,h3,h4⟩
 ·exact .inl x
 ·exact .inr ⟨K,o,i,cs,ext,ro,hl,rfl,by omega,(g K h1 (hc hl _ _ _ rfl)).trans h3,h4⟩
/-! JournalLasts: what it computes,no program in sight -/
def sec (k : Nat) : List Nat := k :: List.replicate 63 0
def Set0 (l : List (Img × Bool × Bool)) (m i : Nat) : Prop := l.length = 4 /\ ∀ (j : Nat) x,l[j]? = some x -> x.2.1 = false /\ Uq x.1 /\ ∀ k : Nat,k < 54 -> (j < m \/ j = m /\ k < i) -> M (mGet x.1 k zz) = M (sec k)
theorem Set0.nil : Set0 (c0l 4) 0 0 := ⟨rfl,fun j x hx => by
 have : x = ([],false,false) := by
  have := List.mem_of_getElem? hx
  exact (List.mem_replicate.1 this).2
 subst this
 exact ⟨rfl,trivial,fun k _ h => by omega⟩⟩
theorem Set0.step {l : List (Img × Bool × Bool)} {m i : Nat} (x : Set0 l m i) {D : Img} {f hu : Bool} (hm : l[m]? = some (D,f,hu)) : Set0 (l.set m (mPut D i (sec i),f,true)) m (i + 1) := by
 refine ⟨by rw [List.length_set]; exact x.1,fun j y hy => ?_⟩
 rw [List.getElem?_set] at hy
 split at hy
 ·rename_i e
  subst e
  split at hy
  ·cases hy
   obtain ⟨h1,h2,h3⟩ := x.2 m _ hm
   refine ⟨h1,Uq.put h2 _ _,fun k hk h => ?_⟩
   show M (mGet (mPut D i (sec i)) k zz) = _
   rw [mGet_put h2]
   by_cases e : (k : Int) = i
   ·rw [if_pos e,show k = i by omega]
   ·rw [if_neg e]
    exact h3 k hk (by omega)
  ·cases hy
 ·obtain ⟨h1,h2,h3⟩ := x.2 j _ hy
  exact ⟨h1,h2,fun k hk h => h3 k hk (by omega)⟩
theorem Set0.next {l : List (Img × Bool × Bool)} {m : Nat} (x : Set0 l m 54) : Set0 l (m + 1) 0 := ⟨x.1,fun j y hy => by
 obtain ⟨h1,h2,h3⟩ := x.2 j _ hy
 exact ⟨h1,h2,fun k hk h => h3 k hk (by omega)⟩⟩
def Out (D : Img) : Prop := ∀ k : Nat,k < 54 -> (k < 8 \/ 50 <= k) -> M (mGet D k zz) = M (sec k)
theorem Out.put {D : Img} (x : Out D) (u : Uq D) (hf : Nat) (h1 : hf <= 1) (L : List (List Nat)) (hL : L.length <= 21) : Out (putAll (jPos 4 1 hf) 0 L D) := by
 intro k hk h
 have e := putAll_get (8 + (hf : Int) * (gHalf 4 1 : Nat)) L 0 u k
 rw [h21] at e
 have h2 : hf = 0 \/ hf = 1 := by omega
 rw [if_neg (by rcases h2 with rfl | rfl <;> omega)] at e
 have e2 : jPos 4 1 hf = fun k : Nat => 8 + (hf : Int) * ((21 : Nat) : Int) + (k : Int) := by funext k; unfold jPos; rw [h21]
 rw [e2,e]
 exact x k hk h
def Put0 (H : Nat) (L0 : List (List Nat)) (l : List (Img × Bool × Bool)) : Prop := l.length = 4 /\ ∀ (j : Nat) x,l[j]? = some x -> x.2.1 = false /\ Uq x.1 /\ Holds 4 1 H x.1 L0 /\ Out x.1
theorem Set0.put {l : List (Img × Bool × Bool)} (x : Set0 l 4 0) (H : Nat) (h1 : H <= 1) (L0 : List (List Nat)) (hL : L0.length <= 21) : Put0 H L0 (l.map (upC (jPos 4 1 H) L0)) := by
 refine ⟨by rw [List.length_map]; exact x.1,fun j y hy => ?_⟩
 rw [List.getElem?_map] at hy
 cases hl : l[j]? with
 | none => rw [hl] at hy; cases hy
 | some z =>
  rw [hl] at hy
  obtain ⟨D,f,hu⟩ := z
  obtain ⟨g1,g2,g3⟩ := x.2 j _ hl
  have hj : j < 4 := by rw [<- x.1]; exact (List.getElem?_eq_some_iff.1 hl).1
  cases hy
  simp only at g1
  subst g1
  exact ⟨rfl,putAll_uq _ _ _ g2,Holds.put g2 _,Out.put (fun k hk _ => g3 k hk (by omega)) g2 H h1 L0 hL⟩
def fl1L (f : Nat) (l : List (Img × Bool × Bool)) : List (Img × Bool × Bool) := l.modify f fun x => (x.1,true,true)
theorem fl1L_get (f j : Nat) (l : List (Img × Bool × Bool)) : (fl1L f l)[j]? = (l[j]?).map fun x => if j = f then (x.1,true,true) else x := by
 unfold fl1L
 rw [List.getElem?_modify]
 cases l[j]? with
 | none => rfl
 | some x =>
  by_cases e : f = j
  ·subst e; simp
  ·simp [e,Ne.symm e]
def Put1 (H f : Nat) (L0 L1 : List (List Nat)) (l : List (Img × Bool × Bool)) : Prop := l.length = 4 /\ ∀ (j : Nat) x,l[j]? = some x -> Holds 4 1 H x.1 L0 /\ (j ≠ f -> Holds 4 1 ((1 - H : Nat) : Int) x.1 L1) /\ Out x.1
theorem Put0.put {l : List (Img × Bool × Bool)} {H : Nat} {L0 : List (List Nat)} (x : Put0 H L0 l) (h1 : H <= 1) (h0 : L0.length <= 21) (f : Nat) (L1 : List (List Nat)) (hL : L1.length <= 21) : Put1 H f L0 L1 ((fl1L f l).map (upC (jPos 4 1 ((1 - H : Nat) : Int)) L1)) := by
 refine ⟨by rw [List.length_map]; unfold fl1L; rw [List.length_modify]; exact x.1,fun j y hy => ?_⟩
 rw [List.getElem?_map,fl1L_get] at hy
 cases hl : l[j]? with
 | none => rw [hl] at hy; cases hy
 | some z =>
  rw [hl] at hy
  obtain ⟨D,fa,hu⟩ := z
  obtain ⟨g1,g2,g3,g4⟩ := x.2 j _ hl
  simp only at g1 g2 g3 g4
  subst g1
  by_cases e : j = f
  ·simp only [Option.map_some,if_pos e,upC,if_true,Option.some.injEq] at hy
   subst hy
   exact ⟨g3,fun h => absurd e h,g4⟩
  ·simp only [Option.map_some,if_neg e,upC,if_neg (show ¬ false = true by decide),Option.some.injEq] at hy
   subst hy
   exact ⟨g3.other g2 (by rw [h21]; exact h0) L1 (by rw [h21]; exact hL) (by omega) (by omega),fun _ => Holds.put g2 _,g4.put g2 _ (by omega) L1 hL⟩
def stF (t f : Nat) : Stp := ⟨t,4,f,0,0,zz,[]⟩
end Go.Proofs.Ytlnepbkeiianmaa
