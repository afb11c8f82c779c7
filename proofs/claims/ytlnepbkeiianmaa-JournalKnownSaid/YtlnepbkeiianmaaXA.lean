/- Of this program, for all inputs: contracts. No condition but those in the theorems. -/
import Derived.Test.YtlnepbkeiianmaaPA
import Derived.Test.YtlnepbkeiianmaaRA
namespace Go.Aw
open Go Go.Ai
set_option linter.unusedSimpArgs false
theorem over_mid {o : Nat} {a b b' c : List AV} (ho : o = a.length) (hb : b'.length = b.length) (hs : allSc b' = true) : overE o b' (a ++ (b ++ c)) = some (a ++ (b' ++ c)) := by
 subst ho
 unfold overE
 rw [if_pos ⟨by simp [hb],hs⟩]
 congr 1
 rw [List.take_left,hb,<- List.drop_drop,List.drop_left,List.drop_left,List.append_assoc]
theorem cut_mid {o n : Nat} {a b c : List AV} (ho : o = a.length) (hn : n = b.length) : cutE o n (a ++ (b ++ c)) = some b := by
 subst ho; subst hn
 rw [cutE_of (by simp),List.drop_left,List.take_left]
end Go.Aw
namespace Go.Proofs.Ytlnepbkeiianmaa
open Go Go.Ai Go.Aw Go.Proofs
open Nat renaming reduceBEq -> uB,reduceEqDiff -> uE,reduceLT -> uL,reduceAdd -> uA,reduceMul -> uM,reduceSub -> uS,reduceAnd -> uN,reduceXor -> uX,reduceOr -> uO
open Int renaming reduceMod -> vR,reduceDiv -> vD,reduceLT -> vL,reduceLE -> vK,reduceEq -> vE,reduceAdd -> vA,reduceMul -> vM,reduceToNat -> vT,reduceSub -> vS
set_option linter.unusedSimpArgs false
set_option linter.unusedVariables false
set_option maxRecDepth 10000
theorem filt_all {i : Int} {l : Img} (h : ∀ x ∈ l,x.1 ≠ i) : l.filter (fun x => decide (x.1 ≠ i)) = l := List.filter_eq_self.2 fun x hx => by simpa using h x hx
theorem filt_ok {i : Int} {l : Img} (h : Img.ok l) : Img.ok (l.filter fun x => decide (x.1 ≠ i)) := fun x hx => h x (List.mem_filter.1 hx).1
theorem logC_app (a b : Img) : logC (a ++ b) = logC a ++ logC b := by simp [logC]
theorem logC_one (x : Int × List Nat) : logC [x] = wrC x.1 x.2 := by simp [logC]
theorem drop_get {α : Type} {l : List α} {t : Nat} {y : α} (h : l[t]? = some y) : l.drop t = y :: l.drop (t + 1) := by
 obtain ⟨h1,h2⟩ := List.getElem?_eq_some_iff.1 h
 rw [List.drop_eq_getElem_cons h1,h2]
theorem filt_snoc {i : Int} {l : Img} {t : Nat} {y : Int × List Nat} (h : l[t]? = some y) : (l.take (t + 1)).filter (fun x => decide (x.1 ≠ i)) = (l.take t).filter (fun x => decide (x.1 ≠ i)) ++ if y.1 = i then [] else [y] := by
 rw [List.take_add_one,h,List.filter_append]
 congr 1
 by_cases e : y.1 = i <;> simp [e]
theorem repL_len (n : Nat) (l : List AV) : (repL n l).length = n * l.length := by
 induction n with
 | zero => simp [repL]
 | succ n ih => rw [repL,List.length_append,ih,Nat.succ_mul,Nat.add_comm]
theorem repL_sc (n : Nat) {l : List AV} (h : allSc l = true) : allSc (repL n l) = true := by
 induction n with
 | zero => rfl
 | succ n ih => rw [repL]; simp only [allSc,List.all_append] at h ih ⊢; rw [h,ih]; rfl
theorem MkI.ex' {h h' : Heap} {c c' : Col} {k : Nat} {v : AV} {ex ex' : List Nat} {l : List Img} (x : MkI h c k v ex l) (n : h.next <= h'.next) (g : ∀ j,j < h.next -> c j = k -> (∀ e ∈ ex,j ≠ e) -> (∀ q,h.get j ≠ some (.cells q 65 false)) -> h'.get j = h.get j) (e : ∀ j,j < h.next -> c j = k -> c' j = k) (hx : ∀ e ∈ ex',e ∈ ex \/ h.next <= e) : MkI h' c' k v ex' l := by
 have fx : ∀ j,j < h.next -> (∀ e ∈ ex,j ≠ e) -> ∀ e ∈ ex',j ≠ e := fun j hj x4 e he => by
  rcases hx e he with q | q
  ·exact x4 e q
  ·omega
 rcases x with x | ⟨K,ps,x0,x1,x2,x3,x4,x5,x6,x7⟩
 ·exact .inl x
 ·refine .inr ⟨K,ps,x0,x1,Nat.lt_of_lt_of_le x2 n,e _ x2 x3,fx K x2 x4,(g K x2 x3 x4 (fun q hq => by rw [x5] at hq; cases hq)).trans x5,x6,fun i p l hp hl => ?_⟩
  obtain ⟨q1,q2,q3,q4⟩ := x7 i p l hp hl
  exact ⟨Nat.lt_of_lt_of_le q1 n,e _ q1 q2,fx p q1 q3,(g p q1 q2 q3 (fun q hq => by rw [q4] at hq; cases hq)).trans q4⟩
theorem m_fail (d : Nat) (h : Heap) (c : Col) (k m : Nat) (S : MS) (I : MemI h c k m S) (w : S.wf) (on : Bool) :
  G (callD env (d + 3) 11 [.ptr m 0, .bool on] h) fun v h' => v = .int .i64 0 /\ MemI h' (pnt c h.next k) k m (S.fail on) /\ Fr (· = k) c h h' := by
 obtain ⟨a,b,lgv,mk,l1,l2,l3,c1,c2,c3,n1,n2,n3,hm,ha,hb,hlg,mks⟩ := I
 generalize hX : (fun (v : AV) (h' : Heap) => v = .int .i64 0 /\ MemI h' (pnt c h.next k) k m (S.fail on) /\ Fr (· = k) c h h') = Q
 unfold memG at hm
 have e1 : decide (0 < (S.n : Int)) = true := decide_eq_true (by have := w.n0; omega)
 have fin : ∀ H : Heap,H.next = h.next -> H.get m = some (.cells (memG S.n a b lgv mk on (S.hurt || on)) 0 false) -> (∀ j,j < h.next -> j ≠ m -> H.get j = h.get j) -> G (some (.int .i64 0,H)) Q := by
  intro H hn hg hf
  subst hX
  refine G.ok ⟨rfl,⟨a,b,lgv,mk,by omega,by omega,by omega,pnt_e _ l1 c1,pnt_e _ l2 c2,pnt_e _ l3 c3,n1,n2,n3,hg,(hf a l2 (Ne.symm n1)).trans ha,(hf b l3 (Ne.symm n2)).trans hb,hlg.keep' (by omega) (fun j hj _ je => hf j hj (je m (by simp))) pnt_e,mks.keep (by omega) (fun j hj _ je _ => hf j hj (je m (by simp))) pnt_e⟩,⟨by omega,fun j hj hc => hf j hj fun e => hc (e ▸ c1)⟩⟩
 cases hh : S.hurt with
 | true =>
  rw [hh] at hm fin
  rw [callD_run (E := env) [] (by kernel_rfl) Try.func11 rfl (by rw [Try.ntmps11]; simp) (by kernel_rfl)]; simp (maxSteps := 2000000) (implicitDefEqProofs := false) (disch := first | omega | (simp only [SD.down,uA,uL] <;> omega) | fail) only [Try.ntmps11,Try.results11,env_P,env_L,hm,in31,Try.f31,e1,TQ.down,resE,oneV, ↓reduceIte,reduceCtorEq,uB,uE,uL,uA,uM,uS,uN,uX,uO,vR,vD,vL,vK,vE,vA,vM,vT,vS]
  refine fin _ (by simp (maxSteps := 2000000) (implicitDefEqProofs := false) (disch := first | omega | (simp only [SD.down,uA,uL] <;> omega) | fail) only [TQ.down,resE,oneV, ↓reduceIte,reduceCtorEq,uB,uE,uL,uA,uM,uS,uN,uX,uO,vR,vD,vL,vK,vE,vA,vM,vT,vS]) (by simp (maxSteps := 2000000) (implicitDefEqProofs := false) (disch := first | omega | (simp only [SD.down,uA,uL] <;> omega) | fail) only [memG,Bool.true_or,TQ.down,resE,oneV, ↓reduceIte,reduceCtorEq,uB,uE,uL,uA,uM,uS,uN,uX,uO,vR,vD,vL,vK,vE,vA,vM,vT,vS]) fun j hj jm => by simp (maxSteps := 2000000) (implicitDefEqProofs := false) (disch := first | omega | (simp only [SD.down,uA,uL] <;> omega) | fail) only [TQ.down,resE,oneV, ↓reduceIte,reduceCtorEq,uB,uE,uL,uA,uM,uS,uN,uX,uO,vR,vD,vL,vK,vE,vA,vM,vT,vS]
 | false =>
  rw [hh] at hm fin
  rw [callD_run (E := env) [] (by kernel_rfl) Try.func11 rfl (by rw [Try.ntmps11]; simp) (by kernel_rfl)]; simp (maxSteps := 2000000) (implicitDefEqProofs := false) (disch := first | omega | (simp only [SD.down,uA,uL] <;> omega) | fail) only [Try.ntmps11,Try.results11,env_P,env_L,hm,in31,Try.f31,e1,TQ.down,resE,oneV, ↓reduceIte,reduceCtorEq,uB,uE,uL,uA,uM,uS,uN,uX,uO,vR,vD,vL,vK,vE,vA,vM,vT,vS]
  refine fin _ (by simp (maxSteps := 2000000) (implicitDefEqProofs := false) (disch := first | omega | (simp only [SD.down,uA,uL] <;> omega) | fail) only [TQ.down,resE,oneV, ↓reduceIte,reduceCtorEq,uB,uE,uL,uA,uM,uS,uN,uX,uO,vR,vD,vL,vK,vE,vA,vM,vT,vS]) (by simp (maxSteps := 2000000) (implicitDefEqProofs := false) (disch := first | omega | (simp only [SD.down,uA,uL] <;> omega) | fail) only [memG,Bool.false_or,TQ.down,resE,oneV, ↓reduceIte,reduceCtorEq,uB,uE,uL,uA,uM,uS,uN,uX,uO,vR,vD,vL,vK,vE,vA,vM,vT,vS]) fun j hj jm => by simp (maxSteps := 2000000) (implicitDefEqProofs := false) (disch := first | omega | (simp only [SD.down,uA,uL] <;> omega) | fail) only [TQ.down,resE,oneV, ↓reduceIte,reduceCtorEq,uB,uE,uL,uA,uM,uS,uN,uX,uO,vR,vD,vL,vK,vE,vA,vM,vT,vS]
theorem mfin {h H : Heap} {c : Col} {k m a b a' b' : Nat} {S S' : MS} {mk lgv' mk' : AV} (l1 : m < h.next) (c1 : c m = k) (hmk : MkI h c k mk [m,a,b] S.marks) (hn : h.next <= H.next) (e1 : S'.marks = S.marks) (em : mk' = mk)
  (ha' : a' = a \/ h.next <= a') (hb' : b' = b \/ h.next <= b') (la : a' < H.next) (lb : b' < H.next) (ca : pnt c h.next k a' = k) (cb : pnt c h.next k b' = k) (n1 : m ≠ a') (n2 : m ≠ b') (n3 : a' ≠ b')
  (gm : H.get m = some (.cells (memG S'.n a' b' lgv' mk' S'.fails S'.hurt) 0 false)) (ga : H.get a' = some (.map (mapC S'.seen) false)) (gb : H.get b' = some (.map (mapC S'.dur) false)) (hlg : LogJ H (pnt c h.next k) k lgv' [m,a',b'] S'.lg)
  (gf : ∀ j,j < h.next -> c j = k -> j ≠ m -> j ≠ a -> j ≠ b -> (∀ q,h.get j ≠ some (.cells q 65 false)) -> H.get j = h.get j) (gF : ∀ j,j < h.next -> c j ≠ k -> H.get j = h.get j) : MemI H (pnt c h.next k) k m S' /\ Fr (· = k) c h H := by
 subst em
 refine ⟨⟨a',b',lgv',mk',by omega,la,lb,pnt_e _ l1 c1,ca,cb,n1,n2,n3,gm,ga,gb,hlg, ?_⟩,⟨hn,gF⟩⟩
 rw [e1]
 refine hmk.ex' hn (fun j hj hc je jq => gf j hj hc (je m (by simp)) (je a (by simp)) (je b (by simp)) jq) pnt_e fun e he => ?_
 simp only [List.mem_cons,List.not_mem_nil,or_false] at he ⊢
 rcases he with rfl | rfl | rfl
 ·exact .inl (.inl rfl)
 ·rcases ha' with q | q
  ·exact .inl (.inr (.inl q))
  ·exact .inr q
 ·rcases hb' with q | q
  ·exact .inl (.inr (.inr q))
  ·exact .inr q
theorem set1_ok (d : Nat) (H : Heap) (p : Nat) (i : Int) (x : Int × List Nat) (hx : x.2.length = 64) (hp : H.get p = some (.cells [.int .i64 i] 0 false)) (pl : p < H.next) :
  G (callD env (d + 1) 34 [.agg (wrC x.1 x.2), .ptr p 0] H) fun v h' => v = .bool (decide (x.1 = i)) /\ Keeps H h' := by
 generalize hX : (fun (v : AV) (h' : Heap) => v = .bool (decide (x.1 = i)) /\ Keeps H h') = Q
 have hwl := wrC_len x.1 x.2 hx
 rw [callD_run (E := env) [] (by kernel_rfl) Try.func34 rfl (by rw [Try.ntmps34]; simp) (by kernel_rfl)]; simp (maxSteps := 2000000) (implicitDefEqProofs := false) (disch := first | omega | (simp only [SD.down,uA,uL] <;> omega) | fail) only [Try.ntmps34,Try.results34,env_P,env_L,hp,hwl,wrZ_fold,wr_over0 x.1 0 x.2 zz hx zz_len,wrC_0,wrC_d x.1 x.2 hx,wrC_cut x.1 x.2 hx,TQ.down,resE,oneV, ↓reduceIte,reduceCtorEq,uB,uE,uL,uA,uM,uS,uN,uX,uO,vR,vD,vL,vK,vE,vA,vM,vT,vS]
 subst hX
 exact G.ok ⟨rfl,⟨by simp (maxSteps := 2000000) (implicitDefEqProofs := false) (disch := first | omega | (simp only [SD.down,uA,uL] <;> omega) | fail) only [TQ.down,resE,oneV, ↓reduceIte,reduceCtorEq,uB,uE,uL,uA,uM,uS,uN,uX,uO,vR,vD,vL,vK,vE,vA,vM,vT,vS]; omega,fun j hj => by simp (maxSteps := 2000000) (implicitDefEqProofs := false) (disch := first | omega | (simp only [SD.down,uA,uL] <;> omega) | fail) only [TQ.down,resE,oneV, ↓reduceIte,reduceCtorEq,uB,uE,uL,uA,uM,uS,uN,uX,uO,vR,vD,vL,vK,vE,vA,vM,vT,vS]⟩⟩
theorem idx_ok (d : Nat) (h : Heap) (L p : Nat) (i : Int) (l : Img) (junk : List AV) (hl : Img.ok l) (hn : l.length < 4000) (hL : h.get L = some (.cells (logC l ++ junk) 65 false)) (Ll : L < h.next) (hp : h.get p = some (.cells [.int .i64 i] 0 false)) (pl : p < h.next) :
  G (callD env (d + 3) 57 [.eslice L 0 0 l.length, .func (.func 34) [] [.ptr p 0]] h) fun v h' => Keeps h h' /\ ((v = .int .i64 (-1) /\ ∀ x ∈ l,x.1 ≠ i) \/ ∃ q x,v = .int .i64 ((q : Nat) : Int) /\ l[q]? = some x /\ x.1 = i /\ ∀ y ∈ l.take q,y.1 ≠ i) := by
 generalize hX : (fun (v : AV) (h' : Heap) => Keeps h h' /\ ((v = .int .i64 (-1) /\ ∀ x ∈ l,x.1 ≠ i) \/ ∃ q x,v = .int .i64 ((q : Nat) : Int) /\ l[q]? = some x /\ x.1 = i /\ ∀ y ∈ l.take q,y.1 ≠ i)) = Q
 rw [callD_run (E := env) [] (by kernel_rfl) Try.func57 rfl (by rw [Try.ntmps57]; simp) (by kernel_rfl)]; simp (maxSteps := 2000000) (implicitDefEqProofs := false) (disch := first | omega | (simp only [SD.down,uA,uL] <;> omega) | fail) only [Try.ntmps57,Try.results57,env_P,env_L,TQ.down,resE,oneV, ↓reduceIte,reduceCtorEq,uB,uE,uL,uA,uM,uS,uN,uX,uO,vR,vD,vL,vK,vE,vA,vM,vT,vS]
 rw [run_loop]
 refine loop_ind (fun j σ hh => ∃ q,q + j = l.length /\ σ 0 = .eslice L 0 0 l.length /\ σ 1 = .func (.func 34) [] [.ptr p 0] /\ σ 6 = .eslice L 0 0 l.length /\ σ 7 = .int .i64 (l.length : Int) /\ σ 8 = .int .i64 (q : Int) /\ Keeps h hh /\ ∀ y ∈ l.take q,y.1 ≠ i) ?_ ?_ l.length _ _ _ (by simp; omega) ?_
 ·rintro mm σ hh ⟨q,hq,s0,s1,s6,s7,s8,kp,hno⟩
  obtain rfl : q = l.length := by omega
  rw [List.take_of_length_le (Nat.le_refl _)] at hno
  simp (maxSteps := 2000000) (implicitDefEqProofs := false) (disch := first | omega | (simp only [SD.down,uA,uL] <;> omega) | fail) only [run_it,s0,s1,s6,s7,s8,env_P,env_L,TQ.down,resE,oneV, ↓reduceIte,reduceCtorEq,uB,uE,uL,uA,uM,uS,uN,uX,uO,vR,vD,vL,vK,vE,vA,vM,vT,vS]
  subst hX
  exact G.ok ⟨kp, .inl ⟨rfl,hno⟩⟩
 ·rintro j mm σ hh ⟨q,hq,s0,s1,s6,s7,s8,kp,hno⟩ ih
  have hql : q < l.length := by omega
  obtain ⟨x,hx⟩ : ∃ x,l[q]? = some x := ⟨_,List.getElem?_eq_getElem hql⟩
  have hcut := logC_cutj hl junk hx
  have hxl := hl x (List.mem_of_getElem? hx)
  have hwl := wrC_len x.1 x.2 hxl
  have gL := (kp.2 L Ll).trans hL
  have kpn := kp.1
  simp (maxSteps := 2000000) (implicitDefEqProofs := false) (disch := first | omega | (simp only [SD.down,uA,uL] <;> omega) | fail) only [run_it,s0,s1,s6,s7,s8,gL,hcut,hwl,wrZ_fold,wr_over0 x.1 0 x.2 zz hxl zz_len,wrC_0,wrC_d x.1 x.2 hxl,wrC_cut x.1 x.2 hxl,env_P,env_L,TQ.down,resE,oneV, ↓reduceIte,reduceCtorEq,uB,uE,uL,uA,uM,uS,uN,uX,uO,vR,vD,vL,vK,vE,vA,vM,vT,vS]
  first | refine G.call (set1_ok (d + 1) hh p i x hxl ((kp.2 p pl).trans hp) (by omega)) ?_ | refine G.callC (set1_ok (d + 1) hh p i x hxl ((kp.2 p pl).trans hp) (by omega)) ?_ | refine G.callL (set1_ok (d + 1) hh p i x hxl ((kp.2 p pl).trans hp) (by omega)) ?_
  rintro v h1 ⟨rfl,kp1⟩
  by_cases he : x.1 = i
  ·have de : decide (x.1 = i) = true := decide_eq_true he
   simp (maxSteps := 2000000) (implicitDefEqProofs := false) (disch := first | omega | (simp only [SD.down,uA,uL] <;> omega) | fail) only [run_it,de,s0,s1,s6,s7,s8,env_P,env_L,TQ.down,resE,oneV, ↓reduceIte,reduceCtorEq,uB,uE,uL,uA,uM,uS,uN,uX,uO,vR,vD,vL,vK,vE,vA,vM,vT,vS]
   subst hX
   exact G.ok ⟨kp.trans kp1, .inr ⟨q,x,rfl,hx,he,hno⟩⟩
  ·have de : decide (x.1 = i) = false := decide_eq_false he
   simp (maxSteps := 2000000) (implicitDefEqProofs := false) (disch := first | omega | (simp only [SD.down,uA,uL] <;> omega) | fail) only [run_it,de,s0,s1,s6,s7,s8,env_P,env_L,TQ.down,resE,oneV, ↓reduceIte,reduceCtorEq,uB,uE,uL,uA,uM,uS,uN,uX,uO,vR,vD,vL,vK,vE,vA,vM,vT,vS]
   refine ih _ _ ⟨q + 1,by omega,by simp (maxSteps := 2000000) (implicitDefEqProofs := false) (disch := first | omega | (simp only [SD.down,uA,uL] <;> omega) | fail) only [s0,TQ.down,resE,oneV, ↓reduceIte,reduceCtorEq,uB,uE,uL,uA,uM,uS,uN,uX,uO,vR,vD,vL,vK,vE,vA,vM,vT,vS],by simp (maxSteps := 2000000) (implicitDefEqProofs := false) (disch := first | omega | (simp only [SD.down,uA,uL] <;> omega) | fail) only [s1,TQ.down,resE,oneV, ↓reduceIte,reduceCtorEq,uB,uE,uL,uA,uM,uS,uN,uX,uO,vR,vD,vL,vK,vE,vA,vM,vT,vS],by simp (maxSteps := 2000000) (implicitDefEqProofs := false) (disch := first | omega | (simp only [SD.down,uA,uL] <;> omega) | fail) only [s6,TQ.down,resE,oneV, ↓reduceIte,reduceCtorEq,uB,uE,uL,uA,uM,uS,uN,uX,uO,vR,vD,vL,vK,vE,vA,vM,vT,vS],by simp (maxSteps := 2000000) (implicitDefEqProofs := false) (disch := first | omega | (simp only [SD.down,uA,uL] <;> omega) | fail) only [s7,TQ.down,resE,oneV, ↓reduceIte,reduceCtorEq,uB,uE,uL,uA,uM,uS,uN,uX,uO,vR,vD,vL,vK,vE,vA,vM,vT,vS],by simp (maxSteps := 2000000) (implicitDefEqProofs := false) (disch := first | omega | (simp only [SD.down,uA,uL] <;> omega) | fail) only [TQ.down,resE,oneV, ↓reduceIte,reduceCtorEq,uB,uE,uL,uA,uM,uS,uN,uX,uO,vR,vD,vL,vK,vE,vA,vM,vT,vS],kp.trans kp1,fun y hy => ?_⟩
   rw [List.take_add_one,hx] at hy
   rcases List.mem_append.1 hy with hy | hy
   ·exact hno y hy
   ·simp at hy; subst hy; exact he
 ·exact ⟨0,by omega,by simp (maxSteps := 2000000) (implicitDefEqProofs := false) (disch := first | omega | (simp only [SD.down,uA,uL] <;> omega) | fail) only [TQ.down,resE,oneV, ↓reduceIte,reduceCtorEq,uB,uE,uL,uA,uM,uS,uN,uX,uO,vR,vD,vL,vK,vE,vA,vM,vT,vS],by simp (maxSteps := 2000000) (implicitDefEqProofs := false) (disch := first | omega | (simp only [SD.down,uA,uL] <;> omega) | fail) only [TQ.down,resE,oneV, ↓reduceIte,reduceCtorEq,uB,uE,uL,uA,uM,uS,uN,uX,uO,vR,vD,vL,vK,vE,vA,vM,vT,vS],by simp (maxSteps := 2000000) (implicitDefEqProofs := false) (disch := first | omega | (simp only [SD.down,uA,uL] <;> omega) | fail) only [TQ.down,resE,oneV, ↓reduceIte,reduceCtorEq,uB,uE,uL,uA,uM,uS,uN,uX,uO,vR,vD,vL,vK,vE,vA,vM,vT,vS],by simp (maxSteps := 2000000) (implicitDefEqProofs := false) (disch := first | omega | (simp only [SD.down,uA,uL] <;> omega) | fail) only [TQ.down,resE,oneV, ↓reduceIte,reduceCtorEq,uB,uE,uL,uA,uM,uS,uN,uX,uO,vR,vD,vL,vK,vE,vA,vM,vT,vS],by simp (maxSteps := 2000000) (implicitDefEqProofs := false) (disch := first | omega | (simp only [SD.down,uA,uL] <;> omega) | fail) only [TQ.down,resE,oneV, ↓reduceIte,reduceCtorEq,uB,uE,uL,uA,uM,uS,uN,uX,uO,vR,vD,vL,vK,vE,vA,vM,vT,vS], .refl _,by simp⟩
end Go.Proofs.Ytlnepbkeiianmaa
namespace Go.Aw
open Go Go.Ai
set_option linter.unusedSimpArgs false
set_option linter.unusedVariables false
section
variable {P : Program} {β : Type} {call : CallK} {ρ : Operand -> AV} {h : Heap} {dd : Option Tmp} {t : TypeId} {p : String} {a : Array Edge} {g : Option (Nat × Bool)}
theorem cls_clear (xs : Array Operand) (ts : Array TypeId) : cls P ⟨dd, .call ⟨.builtin .clear,xs,ts⟩,t,p,a,g⟩ = .e := rfl
theorem opE_clear (T : TypeId) (x : Operand) : opE P call ρ ⟨dd, .call ⟨.builtin .clear,#[x],#[T]⟩,t,p,a,g⟩ h = th (okv (ρ x)) fun u => th (clearE P h T u) fun h => some (undefA,h) := by
 unfold opE opK
 rw [cls_clear]
 simp only [effK,List.getElem?_toArray,List.getElem?_cons_zero,okK_E,clearK_E]
 rfl
theorem clear_es {T e : TypeId} (hu : P.underlying T = some (.slice e)) {z : AV} (hz : zeroE P e = some z) {k off i n ext : Nat} {cs cs' : List AV} (hg : h.get k = some (.cells cs ext false)) (ho : overE off (repL (n + 1) z.cells) cs = some cs') (hne : repL (n + 1) z.cells ≠ []) :
  clearE P h T (.eslice k off i (n + 1)) = some (h.put k (some (.cells cs' ext false))) := by
 unfold clearE clearK
 simp only [unK_E,hu,th_some,zeroK_E,hz,cellsK_eq,repK_eq,storeCK_E]
 cases hr : repL (n + 1) z.cells with
 | nil => exact absurd hr hne
 | cons v vs =>
  rw [hr] at ho
  simp only [storeCE,hg,ho,th_some]
end
end Go.Aw
namespace Go.Proofs.Ytlnepbkeiianmaa
open Go Go.Ai Go.Aw Go.Proofs
open Nat renaming reduceBEq -> uB,reduceEqDiff -> uE,reduceLT -> uL,reduceAdd -> uA,reduceMul -> uM,reduceSub -> uS,reduceAnd -> uN,reduceXor -> uX,reduceOr -> uO
open Int renaming reduceMod -> vR,reduceDiv -> vD,reduceLT -> vL,reduceLE -> vK,reduceEq -> vE,reduceAdd -> vA,reduceMul -> vM,reduceToNat -> vT,reduceSub -> vS
set_option linter.unusedSimpArgs false
set_option linter.unusedVariables false
set_option maxRecDepth 10000
theorem z133 : ∃ z,zeroE Try.prog 103 = some z /\ z.cells.length = 65 /\ allSc z.cells = true := ⟨(zeroE Try.prog 103).getD .nilptr,by kernel_rfl,by kernel_rfl,by kernel_rfl⟩
theorem del_ok (d : Nat) (h : Heap) (L p : Nat) (i : Int) (l : Img) (junk : List AV) (hl : Img.ok l) (hn : l.length < 4000) (hL : h.get L = some (.cells (logC l ++ junk) 65 false)) (Ll : L < h.next) (hp : h.get p = some (.cells [.int .i64 i] 0 false)) (pl : p < h.next) (hpL : p ≠ L) :
  G (callD env (d + 4) 33 [.eslice L 0 0 l.length, .func (.func 34) [] [.ptr p 0]] h) fun v h' => v = .eslice L 0 0 (l.filter fun x => decide (x.1 ≠ i)).length /\ (∃ junk',h'.get L = some (.cells (logC (l.filter fun x => decide (x.1 ≠ i)) ++ junk') 65 false)) /\ h.next <= h'.next /\ ∀ j,j < h.next -> j ≠ L -> h'.get j = h.get j := by
 generalize hX : (fun (v : AV) (h' : Heap) => v = .eslice L 0 0 (l.filter fun x => decide (x.1 ≠ i)).length /\ (∃ junk',h'.get L = some (.cells (logC (l.filter fun x => decide (x.1 ≠ i)) ++ junk') 65 false)) /\ h.next <= h'.next /\ ∀ j,j < h.next -> j ≠ L -> h'.get j = h.get j) = Q
 rw [callD_run (E := env) [] (by kernel_rfl) Try.func33 rfl (by rw [Try.ntmps33]; simp) (by kernel_rfl)]; simp (maxSteps := 2000000) (implicitDefEqProofs := false) (disch := first | omega | (simp only [SD.down,uA,uL] <;> omega) | fail) only [Try.ntmps33,Try.results33,env_P,env_L,TQ.down,resE,oneV, ↓reduceIte,reduceCtorEq,uB,uE,uL,uA,uM,uS,uN,uX,uO,vR,vD,vL,vK,vE,vA,vM,vT,vS]
 first | refine G.call (idx_ok d h L p i l junk hl hn hL Ll hp pl) ?_ | refine G.callC (idx_ok d h L p i l junk hl hn hL Ll hp pl) ?_ | refine G.callL (idx_ok d h L p i l junk hl hn hL Ll hp pl) ?_
 rintro v h1 ⟨kp,⟨rfl,hno⟩ | ⟨q,x,rfl,hx,he,hno⟩⟩
 ·simp (maxSteps := 2000000) (implicitDefEqProofs := false) (disch := first | omega | (simp only [SD.down,uA,uL] <;> omega) | fail) only [TQ.down,resE,oneV, ↓reduceIte,reduceCtorEq,uB,uE,uL,uA,uM,uS,uN,uX,uO,vR,vD,vL,vK,vE,vA,vM,vT,vS]
  rw [filt_all hno] at hX
  subst hX
  exact G.ok ⟨rfl,⟨junk,(kp.2 L Ll).trans hL⟩,kp.1,fun j hj _ => kp.2 j hj⟩
 have kpn := kp.1
 have dq : decide (((q : Nat) : Int) = -1) = false := decide_eq_false (by omega)
 have hql := (List.getElem?_eq_some_iff.1 hx).1
 simp (maxSteps := 2000000) (implicitDefEqProofs := false) (disch := first | omega | (simp only [SD.down,uA,uL] <;> omega) | fail) only [dq,TQ.down,resE,oneV, ↓reduceIte,reduceCtorEq,uB,uE,uL,uA,uM,uS,uN,uX,uO,vR,vD,vL,vK,vE,vA,vM,vT,vS]
 rw [run_loop]
 refine loop_ind (fun j σ hh => ∃ t f mid C,t + j = l.length /\ f = (l.take t).filter (fun x => decide (x.1 ≠ i)) /\ f.length < t /\ σ 0 = .eslice L 0 0 l.length /\ σ 1 = .func (.func 34) [] [.ptr p 0] /\ σ 5 = .int .i64 (f.length : Int) /\ σ 6 = .int .i64 (t : Int) /\ hh.get L = some (.cells C 65 false) /\ C = logC f ++ (mid ++ (logC (l.drop t) ++ junk)) /\ mid.length = (t - f.length) * 65 /\ h.next <= hh.next /\ ∀ j,j < h.next -> j ≠ L -> hh.get j = h.get j) ?_ ?_ (l.length - (q + 1)) _ _ _ (by simp; omega) ?_
 ·rintro mm σ hh ⟨t,f,mid,C,ht,hf,hft,s0,s1,s5,s6,gL,hC,hmid,gn,gf⟩
  obtain rfl : t = l.length := by omega
  rw [List.take_of_length_le (Nat.le_refl _)] at hf
  obtain ⟨z,hz,hzl,hzs⟩ := z133
  obtain ⟨n,hn1⟩ : ∃ n,l.length - f.length = n + 1 := ⟨l.length - f.length - 1,by omega⟩
  have fok : Img.ok f := hf ▸ filt_ok hl
  have fll := logC_len fok
  have hd0 : logC (l.drop l.length) = [] := by rw [List.drop_length]; rfl
  rw [hd0,List.nil_append] at hC
  have hsz : szE Try.prog 103 = some 65 := by kernel_rfl
  have hsl := sl_es_lo (P := Try.prog) Try.underlying97 hsz L 0 0 l.length (q := .i64) f.length hft
  rw [Nat.zero_add,Nat.zero_add,hn1] at hsl
  have hsh := sl_es_hi (P := Try.prog) Try.underlying97 hsz L 0 0 l.length (q := .i64) f.length (by omega)
  have hrl : (repL (n + 1) z.cells).length = (n + 1) * 65 := by rw [repL_len,hzl]
  have hcl := clear_es (h := hh) (i := f.length) Try.underlying97 hz gL (by rw [hC]; exact over_mid fll.symm (by rw [hrl,hmid,hn1]) (repL_sc _ hzs)) (fun e => by rw [e] at hrl; simp at hrl)
  simp (maxSteps := 2000000) (implicitDefEqProofs := false) (disch := first | omega | (simp only [SD.down,uA,uL] <;> omega) | fail) only [run_it,s0,s1,s5,s6,cls_clear,opE_clear,hsl,hsh,hcl,env_P,env_L,TQ.down,resE,oneV, ↓reduceIte,reduceCtorEq,uB,uE,uL,uA,uM,uS,uN,uX,uO,vR,vD,vL,vK,vE,vA,vM,vT,vS]
  subst hX
  rw [hf]
  exact G.ok ⟨rfl,⟨repL (n + 1) z.cells ++ junk,by simp (maxSteps := 2000000) (implicitDefEqProofs := false) (disch := first | omega | (simp only [SD.down,uA,uL] <;> omega) | fail) only [TQ.down,resE,oneV, ↓reduceIte,reduceCtorEq,uB,uE,uL,uA,uM,uS,uN,uX,uO,vR,vD,vL,vK,vE,vA,vM,vT,vS]⟩,by simp (maxSteps := 2000000) (implicitDefEqProofs := false) (disch := first | omega | (simp only [SD.down,uA,uL] <;> omega) | fail) only [TQ.down,resE,oneV, ↓reduceIte,reduceCtorEq,uB,uE,uL,uA,uM,uS,uN,uX,uO,vR,vD,vL,vK,vE,vA,vM,vT,vS]; omega,fun j hj jL => by simp (maxSteps := 2000000) (implicitDefEqProofs := false) (disch := first | omega | (simp only [SD.down,uA,uL] <;> omega) | fail) only [TQ.down,resE,oneV, ↓reduceIte,reduceCtorEq,uB,uE,uL,uA,uM,uS,uN,uX,uO,vR,vD,vL,vK,vE,vA,vM,vT,vS]; exact gf j hj jL⟩
 ·rintro j mm σ hh ⟨t,f,mid,C,ht,hf,hft,s0,s1,s5,s6,gL,hC,hmid,gn,gf⟩ ih
  have htl : t < l.length := by omega
  obtain ⟨y,hy⟩ : ∃ y,l[t]? = some y := ⟨_,List.getElem?_eq_getElem htl⟩
  have hyl := hl y (List.mem_of_getElem? hy)
  have hwl := wrC_len y.1 y.2 hyl
  have fok : Img.ok f := hf ▸ filt_ok fun z hz => hl z (List.mem_of_mem_take hz)
  have fll := logC_len fok
  have hdr : logC (l.drop t) = wrC y.1 y.2 ++ logC (l.drop (t + 1)) := by
   rw [drop_get hy,<- List.singleton_append,logC_app,logC_one]
  have hcut : cutE (t * 65) 65 C = some (wrC y.1 y.2) := by
   rw [hC,hdr,<- List.append_assoc,List.append_assoc (wrC y.1 y.2)]
   refine cut_mid ?_ hwl.symm
   rw [List.length_append,fll,hmid,<- Nat.add_mul]
   congr 1; omega
  simp (maxSteps := 2000000) (implicitDefEqProofs := false) (disch := first | omega | (simp only [SD.down,uA,uL] <;> omega) | fail) only [run_it,s0,s1,s5,s6,gL,hcut,hwl,wrZ_fold,wr_over0 y.1 0 y.2 zz hyl zz_len,wrC_0,wrC_d y.1 y.2 hyl,wrC_cut y.1 y.2 hyl,env_P,env_L,TQ.down,resE,oneV, ↓reduceIte,reduceCtorEq,uB,uE,uL,uA,uM,uS,uN,uX,uO,vR,vD,vL,vK,vE,vA,vM,vT,vS]
  first | refine G.call (set1_ok (d + 2) _ p i y hyl (by simp (maxSteps := 2000000) (implicitDefEqProofs := false) (disch := first | omega | (simp only [SD.down,uA,uL] <;> omega) | fail) only [TQ.down,resE,oneV, ↓reduceIte,reduceCtorEq,uB,uE,uL,uA,uM,uS,uN,uX,uO,vR,vD,vL,vK,vE,vA,vM,vT,vS]; exact (gf p pl hpL).trans hp) (by simp (maxSteps := 2000000) (implicitDefEqProofs := false) (disch := first | omega | (simp only [SD.down,uA,uL] <;> omega) | fail) only [TQ.down,resE,oneV, ↓reduceIte,reduceCtorEq,uB,uE,uL,uA,uM,uS,uN,uX,uO,vR,vD,vL,vK,vE,vA,vM,vT,vS]; omega)) ?_ | refine G.callC (set1_ok (d + 2) _ p i y hyl (by simp (maxSteps := 2000000) (implicitDefEqProofs := false) (disch := first | omega | (simp only [SD.down,uA,uL] <;> omega) | fail) only [TQ.down,resE,oneV, ↓reduceIte,reduceCtorEq,uB,uE,uL,uA,uM,uS,uN,uX,uO,vR,vD,vL,vK,vE,vA,vM,vT,vS]; exact (gf p pl hpL).trans hp) (by simp (maxSteps := 2000000) (implicitDefEqProofs := false) (disch := first | omega | (simp only [SD.down,uA,uL] <;> omega) | fail) only [TQ.down,resE,oneV, ↓reduceIte,reduceCtorEq,uB,uE,uL,uA,uM,uS,uN,uX,uO,vR,vD,vL,vK,vE,vA,vM,vT,vS]; omega)) ?_ | refine G.callL (set1_ok (d + 2) _ p i y hyl (by simp (maxSteps := 2000000) (implicitDefEqProofs := false) (disch := first | omega | (simp only [SD.down,uA,uL] <;> omega) | fail) only [TQ.down,resE,oneV, ↓reduceIte,reduceCtorEq,uB,uE,uL,uA,uM,uS,uN,uX,uO,vR,vD,vL,vK,vE,vA,vM,vT,vS]; exact (gf p pl hpL).trans hp) (by simp (maxSteps := 2000000) (implicitDefEqProofs := false) (disch := first | omega | (simp only [SD.down,uA,uL] <;> omega) | fail) only [TQ.down,resE,oneV, ↓reduceIte,reduceCtorEq,uB,uE,uL,uA,uM,uS,uN,uX,uO,vR,vD,vL,vK,vE,vA,vM,vT,vS]; omega)) ?_
  rintro v h2 ⟨rfl,kp2⟩
  have kn2 := kp2.1
  simp (maxSteps := 2000000) (implicitDefEqProofs := false) (disch := first | omega | (simp only [SD.down,uA,uL] <;> omega) | fail) only [TQ.down,resE,oneV, ↓reduceIte,reduceCtorEq,uB,uE,uL,uA,uM,uS,uN,uX,uO,vR,vD,vL,vK,vE,vA,vM,vT,vS] at kn2
  have gL2 : h2.get L = some (.cells C 65 false) := (kp2.2 L (by simp (maxSteps := 2000000) (implicitDefEqProofs := false) (disch := first | omega | (simp only [SD.down,uA,uL] <;> omega) | fail) only [TQ.down,resE,oneV, ↓reduceIte,reduceCtorEq,uB,uE,uL,uA,uM,uS,uN,uX,uO,vR,vD,vL,vK,vE,vA,vM,vT,vS]; omega)).trans (by simp (maxSteps := 2000000) (implicitDefEqProofs := false) (disch := first | omega | (simp only [SD.down,uA,uL] <;> omega) | fail) only [TQ.down,resE,oneV, ↓reduceIte,reduceCtorEq,uB,uE,uL,uA,uM,uS,uN,uX,uO,vR,vD,vL,vK,vE,vA,vM,vT,vS]; exact gL)
  have gv2 : h2.get hh.next = some (.cells (wrC y.1 y.2) 0 false) := (kp2.2 hh.next (by simp (maxSteps := 2000000) (implicitDefEqProofs := false) (disch := first | omega | (simp only [SD.down,uA,uL] <;> omega) | fail) only [TQ.down,resE,oneV, ↓reduceIte,reduceCtorEq,uB,uE,uL,uA,uM,uS,uN,uX,uO,vR,vD,vL,vK,vE,vA,vM,vT,vS]; omega)).trans (by simp (maxSteps := 2000000) (implicitDefEqProofs := false) (disch := first | omega | (simp only [SD.down,uA,uL] <;> omega) | fail) only [TQ.down,resE,oneV, ↓reduceIte,reduceCtorEq,uB,uE,uL,uA,uM,uS,uN,uX,uO,vR,vD,vL,vK,vE,vA,vM,vT,vS])
  have gf2 : ∀ j,j < h.next -> j ≠ L -> h2.get j = h.get j := fun j hj jL => (kp2.2 j (by simp (maxSteps := 2000000) (implicitDefEqProofs := false) (disch := first | omega | (simp only [SD.down,uA,uL] <;> omega) | fail) only [TQ.down,resE,oneV, ↓reduceIte,reduceCtorEq,uB,uE,uL,uA,uM,uS,uN,uX,uO,vR,vD,vL,vK,vE,vA,vM,vT,vS]; omega)).trans (by simp (maxSteps := 2000000) (implicitDefEqProofs := false) (disch := first | omega | (simp only [SD.down,uA,uL] <;> omega) | fail) only [TQ.down,resE,oneV, ↓reduceIte,reduceCtorEq,uB,uE,uL,uA,uM,uS,uN,uX,uO,vR,vD,vL,vK,vE,vA,vM,vT,vS]; exact gf j hj jL)
  have efs := filt_snoc (i := i) hy
  rw [<- hf] at efs
  by_cases he2 : y.1 = i
  ·have de : decide (y.1 = i) = true := decide_eq_true he2
   rw [if_pos he2,List.append_nil] at efs
   simp (maxSteps := 2000000) (implicitDefEqProofs := false) (disch := first | omega | (simp only [SD.down,uA,uL] <;> omega) | fail) only [run_it,de,s0,s1,s5,s6,gv2,gL2,hwl,wrC_cut y.1 y.2 hyl,env_P,env_L,TQ.down,resE,oneV, ↓reduceIte,reduceCtorEq,uB,uE,uL,uA,uM,uS,uN,uX,uO,vR,vD,vL,vK,vE,vA,vM,vT,vS]
   refine ih _ _ ⟨t + 1,f,mid ++ wrC y.1 y.2,C,by omega,efs.symm,by omega,by simp (maxSteps := 2000000) (implicitDefEqProofs := false) (disch := first | omega | (simp only [SD.down,uA,uL] <;> omega) | fail) only [s0,TQ.down,resE,oneV, ↓reduceIte,reduceCtorEq,uB,uE,uL,uA,uM,uS,uN,uX,uO,vR,vD,vL,vK,vE,vA,vM,vT,vS],by simp (maxSteps := 2000000) (implicitDefEqProofs := false) (disch := first | omega | (simp only [SD.down,uA,uL] <;> omega) | fail) only [s1,TQ.down,resE,oneV, ↓reduceIte,reduceCtorEq,uB,uE,uL,uA,uM,uS,uN,uX,uO,vR,vD,vL,vK,vE,vA,vM,vT,vS],by simp (maxSteps := 2000000) (implicitDefEqProofs := false) (disch := first | omega | (simp only [SD.down,uA,uL] <;> omega) | fail) only [s5,TQ.down,resE,oneV, ↓reduceIte,reduceCtorEq,uB,uE,uL,uA,uM,uS,uN,uX,uO,vR,vD,vL,vK,vE,vA,vM,vT,vS],by simp (maxSteps := 2000000) (implicitDefEqProofs := false) (disch := first | omega | (simp only [SD.down,uA,uL] <;> omega) | fail) only [TQ.down,resE,oneV, ↓reduceIte,reduceCtorEq,uB,uE,uL,uA,uM,uS,uN,uX,uO,vR,vD,vL,vK,vE,vA,vM,vT,vS],gL2,by rw [hC,hdr]; simp only [List.append_assoc],by rw [List.length_append,hmid,hwl,<- Nat.succ_mul]; congr 1; omega,by omega,gf2⟩
  ·have de : decide (y.1 = i) = false := decide_eq_false he2
   rw [if_neg he2] at efs
   have hms : mid = mid.take 65 ++ mid.drop 65 := (List.take_append_drop 65 mid).symm
   have hover : overE (f.length * 65) (wrC y.1 y.2) C = some (logC f ++ (wrC y.1 y.2 ++ (mid.drop 65 ++ (logC (l.drop t) ++ junk)))) := by
    rw [hC]
    conv => lhs; rw [hms,List.append_assoc]
    refine over_mid fll.symm ?_ (wrC_sc y.1 y.2)
    rw [hwl,List.length_take,hmid]; omega
   simp (maxSteps := 2000000) (implicitDefEqProofs := false) (disch := first | omega | (simp only [SD.down,uA,uL] <;> omega) | fail) only [run_it,de,s0,s1,s5,s6,gv2,gL2,hover,hwl,wrC_cut y.1 y.2 hyl,env_P,env_L,TQ.down,resE,oneV, ↓reduceIte,reduceCtorEq,uB,uE,uL,uA,uM,uS,uN,uX,uO,vR,vD,vL,vK,vE,vA,vM,vT,vS]
   refine ih _ _ ⟨t + 1,f ++ [y],mid.drop 65 ++ wrC y.1 y.2,logC f ++ (wrC y.1 y.2 ++ (mid.drop 65 ++ (logC (l.drop t) ++ junk))),by omega,efs.symm,by simp; omega,by simp (maxSteps := 2000000) (implicitDefEqProofs := false) (disch := first | omega | (simp only [SD.down,uA,uL] <;> omega) | fail) only [s0,TQ.down,resE,oneV, ↓reduceIte,reduceCtorEq,uB,uE,uL,uA,uM,uS,uN,uX,uO,vR,vD,vL,vK,vE,vA,vM,vT,vS],by simp (maxSteps := 2000000) (implicitDefEqProofs := false) (disch := first | omega | (simp only [SD.down,uA,uL] <;> omega) | fail) only [s1,TQ.down,resE,oneV, ↓reduceIte,reduceCtorEq,uB,uE,uL,uA,uM,uS,uN,uX,uO,vR,vD,vL,vK,vE,vA,vM,vT,vS],by simp (maxSteps := 2000000) (implicitDefEqProofs := false) (disch := first | omega | (simp only [SD.down,uA,uL] <;> omega) | fail) only [TQ.down,resE,oneV, ↓reduceIte,reduceCtorEq,uB,uE,uL,uA,uM,uS,uN,uX,uO,vR,vD,vL,vK,vE,vA,vM,vT,vS]; simp,by simp (maxSteps := 2000000) (implicitDefEqProofs := false) (disch := first | omega | (simp only [SD.down,uA,uL] <;> omega) | fail) only [TQ.down,resE,oneV, ↓reduceIte,reduceCtorEq,uB,uE,uL,uA,uM,uS,uN,uX,uO,vR,vD,vL,vK,vE,vA,vM,vT,vS],by simp (maxSteps := 2000000) (implicitDefEqProofs := false) (disch := first | omega | (simp only [SD.down,uA,uL] <;> omega) | fail) only [TQ.down,resE,oneV, ↓reduceIte,reduceCtorEq,uB,uE,uL,uA,uM,uS,uN,uX,uO,vR,vD,vL,vK,vE,vA,vM,vT,vS],by rw [hdr,logC_app,logC_one]; simp only [List.append_assoc],by rw [List.length_append,List.length_drop,hmid,hwl]; simp; omega,by simp (maxSteps := 2000000) (implicitDefEqProofs := false) (disch := first | omega | (simp only [SD.down,uA,uL] <;> omega) | fail) only [TQ.down,resE,oneV, ↓reduceIte,reduceCtorEq,uB,uE,uL,uA,uM,uS,uN,uX,uO,vR,vD,vL,vK,vE,vA,vM,vT,vS]; omega,fun j hj jL => by simp (maxSteps := 2000000) (implicitDefEqProofs := false) (disch := first | omega | (simp only [SD.down,uA,uL] <;> omega) | fail) only [TQ.down,resE,oneV, ↓reduceIte,reduceCtorEq,uB,uE,uL,uA,uM,uS,uN,uX,uO,vR,vD,vL,vK,vE,vA,vM,vT,vS]; exact gf2 j hj jL⟩
 ·have e1 : (l.take (q + 1)).filter (fun x => decide (x.1 ≠ i)) = l.take q := by
   rw [filt_snoc hx,if_pos he,List.append_nil,filt_all hno]
  refine ⟨q + 1,l.take q,wrC x.1 x.2,logC l ++ junk,by omega,e1.symm,by rw [List.length_take]; omega,by simp (maxSteps := 2000000) (implicitDefEqProofs := false) (disch := first | omega | (simp only [SD.down,uA,uL] <;> omega) | fail) only [TQ.down,resE,oneV, ↓reduceIte,reduceCtorEq,uB,uE,uL,uA,uM,uS,uN,uX,uO,vR,vD,vL,vK,vE,vA,vM,vT,vS],by simp (maxSteps := 2000000) (implicitDefEqProofs := false) (disch := first | omega | (simp only [SD.down,uA,uL] <;> omega) | fail) only [TQ.down,resE,oneV, ↓reduceIte,reduceCtorEq,uB,uE,uL,uA,uM,uS,uN,uX,uO,vR,vD,vL,vK,vE,vA,vM,vT,vS],by simp (maxSteps := 2000000) (implicitDefEqProofs := false) (disch := first | omega | (simp only [SD.down,uA,uL] <;> omega) | fail) only [TQ.down,resE,oneV, ↓reduceIte,reduceCtorEq,uB,uE,uL,uA,uM,uS,uN,uX,uO,vR,vD,vL,vK,vE,vA,vM,vT,vS]; rw [List.length_take,Nat.min_eq_left (by omega)],by simp (maxSteps := 2000000) (implicitDefEqProofs := false) (disch := first | omega | (simp only [SD.down,uA,uL] <;> omega) | fail) only [TQ.down,resE,oneV, ↓reduceIte,reduceCtorEq,uB,uE,uL,uA,uM,uS,uN,uX,uO,vR,vD,vL,vK,vE,vA,vM,vT,vS],(kp.2 L Ll).trans hL, ?_, ?_,kpn,fun j hj _ => kp.2 j hj⟩
  ·have hxl := hl x (List.mem_of_getElem? hx)
   have e2 : l = l.take q ++ (x :: l.drop (q + 1)) := by rw [<- drop_get hx,List.take_append_drop]
   have e3 : logC l = logC (l.take q) ++ (wrC x.1 x.2 ++ logC (l.drop (q + 1))) := by
    conv => lhs; rw [e2]
    rw [logC_app,<- List.singleton_append,logC_app,logC_one]
   rw [e3]; simp only [List.append_assoc]
  ·rw [wrC_len x.1 x.2 (hl x (List.mem_of_getElem? hx)),List.length_take,Nat.min_eq_left (by omega)]; omega
theorem LogJ.cells {h : Heap} {c : Col} {k : Nat} {v : AV} {ex : List Nat} {l : Img} (x : LogJ h c k v ex l) : v.cells = [v] /\ isSc v = true := by
 rcases x with ⟨_,rfl | ⟨q,o,rfl⟩⟩ | ⟨L,junk,rfl,_⟩ <;> exact ⟨rfl,rfl⟩
theorem over3 (x0 x1 x2 x3 x4 x5 x6 v : AV) (hv : isSc v = true) : overE 3 [v] [x0,x1,x2,x3,x4,x5,x6] = some [x0,x1,x2,v,x4,x5,x6] := by
 unfold overE
 rw [if_pos ⟨by simp,by simp [allSc,hv]⟩]
 rfl
theorem del_0 (d : Nat) (h : Heap) (p q o : Nat) : callD env (d + 2) 33 [.slice q o 0 0, .func (.func 34) [] [.ptr p 0]] h = some (.slice q o 0 0,h) := by
 rw [callD_run (E := env) [] (by kernel_rfl) Try.func33 rfl (by rw [Try.ntmps33]; simp) (by kernel_rfl)]; simp (maxSteps := 2000000) (implicitDefEqProofs := false) (disch := first | omega | (simp only [SD.down,uA,uL] <;> omega) | fail) only [Try.ntmps33,Try.results33,env_P,env_L,in57,Try.f57,TQ.down,resE,oneV, ↓reduceIte,reduceCtorEq,uB,uE,uL,uA,uM,uS,uN,uX,uO,vR,vD,vL,vK,vE,vA,vM,vT,vS,run_loop,run_it]
theorem del_J (d : Nat) (H : Heap) (c : Col) (k p : Nat) (i : Int) (lgv : AV) (ex : List Nat) (l : Img) (x : LogJ H c k lgv ex l) (hl : Img.ok l) (hn : l.length < 4000) (hp : H.get p = some (.cells [.int .i64 i] 0 false)) (pl : p < H.next) (hpc : c p ≠ k) :
  G (callD env (d + 4) 33 [lgv, .func (.func 34) [] [.ptr p 0]] H) fun v h' => LogJ h' c k v ex (l.filter fun x => decide (x.1 ≠ i)) /\ H.next <= h'.next /\ ∀ j,j < H.next -> (c j ≠ k \/ j ∈ ex \/ (∀ q,H.get j ≠ some (.cells q 65 false))) -> h'.get j = H.get j := by
 rcases x with ⟨rfl,rfl | ⟨q,o,rfl⟩⟩ | ⟨L,junk,rfl,h1,h2,h3,h4⟩
 ·rw [del_nil (d + 2) H p]
  exact G.ok ⟨.inl ⟨rfl, .inl rfl⟩,Nat.le_refl _,fun _ _ _ => rfl⟩
 ·rw [del_0 (d + 2) H p q o]
  exact G.ok ⟨.inl ⟨rfl, .inr ⟨q,o,rfl⟩⟩,Nat.le_refl _,fun _ _ _ => rfl⟩
 ·refine (del_ok d H L p i l junk hl hn h4 h1 hp pl (fun e => hpc (e ▸ h2))).mono ?_
  rintro v h' ⟨rfl,⟨junk',g1⟩,g2,g3⟩
  refine ⟨.inr ⟨L,junk',rfl,by omega,h2,h3,g1⟩,g2,fun j hj hq => g3 j hj ?_⟩
  rintro rfl
  rcases hq with q | q | q
  ·exact q h2
  ·exact h3 _ q rfl
  ·exact q _ h4
theorem m_set (d : Nat) (h : Heap) (c : Col) (k m : Nat) (S : MS) (I : MemI h c k m S) (w : S.wf) (i : Int) (s : List Nat) (hs : s.length = 64) :
  G (callD env (d + 5) 15 [.ptr m 0, .int .i64 i, .agg (B s)] h) fun v h' => (∃ e,v = .int .i64 e) /\ MemI h' (pnt c h.next k) k m (S.set i s) /\ Fr (· = k) c h h' := by
 have I0 := I
 obtain ⟨a,b,lgv,mk,l1,l2,l3,c1,c2,c3,n1,n2,n3,hm,ha,hb,hlg,mks⟩ := I
 generalize hX : (fun (v : AV) (h' : Heap) => (∃ e,v = .int .i64 e) /\ MemI h' (pnt c h.next k) k m (S.set i s) /\ Fr (· = k) c h h') = Q
 unfold memG at hm
 have e1 : decide (0 < (S.n : Int)) = true := decide_eq_true (by have := w.n0; omega)
 have hz := zz_len
 have same : S.set i s = S -> ∀ H : Heap,Keeps h H -> G (some (.int .i64 2,H)) Q := fun e H kH => by
  subst hX
  rw [e]
  exact G.ok ⟨⟨_,rfl⟩,I0.keeps kH pnt_e, .of kH⟩
 have kH : Keeps h ((h.new (Blk.cells [AV.int IntKind.i64 i] 0 false)).new (Blk.cells (B s) 0 false)) := ⟨by simp (maxSteps := 2000000) (implicitDefEqProofs := false) (disch := first | omega | (simp only [SD.down,uA,uL] <;> omega) | fail) only [TQ.down,resE,oneV, ↓reduceIte,reduceCtorEq,uB,uE,uL,uA,uM,uS,uN,uX,uO,vR,vD,vL,vK,vE,vA,vM,vT,vS]; omega,fun j hj => by simp (maxSteps := 2000000) (implicitDefEqProofs := false) (disch := first | omega | (simp only [SD.down,uA,uL] <;> omega) | fail) only [TQ.down,resE,oneV, ↓reduceIte,reduceCtorEq,uB,uE,uL,uA,uM,uS,uN,uX,uO,vR,vD,vL,vK,vE,vA,vM,vT,vS]⟩
 by_cases h0 : i < 0
 ·have d0 : decide (i < 0) = true := decide_eq_true h0
  rw [callD_run (E := env) [] (by kernel_rfl) Try.func15 rfl (by rw [Try.ntmps15]; simp) (by kernel_rfl)]; simp (maxSteps := 2000000) (implicitDefEqProofs := false) (disch := first | omega | (simp only [SD.down,uA,uL] <;> omega) | fail) only [Try.ntmps15,Try.results15,env_P,env_L,hm,in32,Try.f32,in31,Try.f31,e1,d0,hz,hs,zz_fold,cutB_all,over_B,TQ.down,resE,oneV, ↓reduceIte,reduceCtorEq,uB,uE,uL,uA,uM,uS,uN,uX,uO,vR,vD,vL,vK,vE,vA,vM,vT,vS]
  exact same (if_neg (by unfold MS.may mIO; rw [if_pos (.inl h0)]; decide)) _ kH
 have d0 : decide (i < 0) = false := decide_eq_false h0
 by_cases h1 : (S.n : Int) <= i
 ·have d1 : decide ((S.n : Int) <= i) = true := decide_eq_true h1
  rw [callD_run (E := env) [] (by kernel_rfl) Try.func15 rfl (by rw [Try.ntmps15]; simp) (by kernel_rfl)]; simp (maxSteps := 2000000) (implicitDefEqProofs := false) (disch := first | omega | (simp only [SD.down,uA,uL] <;> omega) | fail) only [Try.ntmps15,Try.results15,env_P,env_L,hm,in32,Try.f32,in31,Try.f31,e1,d0,d1,hz,hs,zz_fold,cutB_all,over_B,TQ.down,resE,oneV, ↓reduceIte,reduceCtorEq,uB,uE,uL,uA,uM,uS,uN,uX,uO,vR,vD,vL,vK,vE,vA,vM,vT,vS]
  exact same (if_neg (by unfold MS.may mIO; rw [if_pos (.inr h1)]; decide)) _ kH
 have d1 : decide ((S.n : Int) <= i) = false := decide_eq_false h1
 have e : S.set i s = { S with lg := S.lg.filter fun x => decide (x.1 ≠ i),seen := mPut S.seen i s,dur := mPut S.dur i s,hurt := true } := if_pos (by unfold MS.may mIO; rw [if_neg (by omega)]; rfl)
 rw [e] at hX
 rw [callD_run (E := env) [] (by kernel_rfl) Try.func15 rfl (by rw [Try.ntmps15]; simp) (by kernel_rfl)]; simp (maxSteps := 2000000) (implicitDefEqProofs := false) (disch := first | omega | (simp only [SD.down,uA,uL] <;> omega) | fail) only [Try.ntmps15,Try.results15,env_P,env_L,hm,in32,Try.f32,in31,Try.f31,e1,d0,d1,hz,hs,zz_fold,cutB_all,over_B,hlg.ok,hlg.same,TQ.down,resE,oneV, ↓reduceIte,reduceCtorEq,uB,uE,uL,uA,uM,uS,uN,uX,uO,vR,vD,vL,vK,vE,vA,vM,vT,vS]
 have hn0 : ((h.new (Blk.cells [AV.int IntKind.i64 i] 0 false)).new (Blk.cells (B s) 0 false)).next = h.next + 2 := by simp (maxSteps := 2000000) (implicitDefEqProofs := false) (disch := first | omega | (simp only [SD.down,uA,uL] <;> omega) | fail) only [TQ.down,resE,oneV, ↓reduceIte,reduceCtorEq,uB,uE,uL,uA,uM,uS,uN,uX,uO,vR,vD,vL,vK,vE,vA,vM,vT,vS]
 have gp : ((h.new (Blk.cells [AV.int IntKind.i64 i] 0 false)).new (Blk.cells (B s) 0 false)).get h.next = some (.cells [.int .i64 i] 0 false) := by simp (maxSteps := 2000000) (implicitDefEqProofs := false) (disch := first | omega | (simp only [SD.down,uA,uL] <;> omega) | fail) only [TQ.down,resE,oneV, ↓reduceIte,reduceCtorEq,uB,uE,uL,uA,uM,uS,uN,uX,uO,vR,vD,vL,vK,vE,vA,vM,vT,vS]
 have gs : ((h.new (Blk.cells [AV.int IntKind.i64 i] 0 false)).new (Blk.cells (B s) 0 false)).get (h.next + 1) = some (.cells (B s) 0 false) := by simp (maxSteps := 2000000) (implicitDefEqProofs := false) (disch := first | omega | (simp only [SD.down,uA,uL] <;> omega) | fail) only [TQ.down,resE,oneV, ↓reduceIte,reduceCtorEq,uB,uE,uL,uA,uM,uS,uN,uX,uO,vR,vD,vL,vK,vE,vA,vM,vT,vS]
 generalize ((h.new (Blk.cells [AV.int IntKind.i64 i] 0 false)).new (Blk.cells (B s) 0 false)) = H at kH hn0 gp gs ⊢
 have lgH : LogJ H (pnt c h.next (k + 1)) k lgv [m,a,b] S.lg := hlg.keep' kH.1 (fun j hj _ _ => kH.2 j hj) (fun j hj hc => (pnt_lt hj).trans hc)
 first | refine G.call (del_J d H (pnt c h.next (k + 1)) k h.next i lgv [m,a,b] S.lg lgH w.lg w.lgl gp (by omega) (by rw [pnt_ge (Nat.le_refl _)]; omega)) ?_ | refine G.callC (del_J d H (pnt c h.next (k + 1)) k h.next i lgv [m,a,b] S.lg lgH w.lg w.lgl gp (by omega) (by rw [pnt_ge (Nat.le_refl _)]; omega)) ?_ | refine G.callL (del_J d H (pnt c h.next (k + 1)) k h.next i lgv [m,a,b] S.lg lgH w.lg w.lgl gp (by omega) (by rw [pnt_ge (Nat.le_refl _)]; omega)) ?_
 rintro v h2 ⟨J,le2,fr2⟩
 have f2 : ∀ j,j < h.next -> (j ∈ [m,a,b] \/ c j ≠ k \/ (∀ q,h.get j ≠ some (.cells q 65 false))) -> h2.get j = h.get j := fun j hj hq => by
  rw [fr2 j (by omega) ?_,kH.2 j hj]
  rcases hq with q | q | q
  ·exact .inr (.inl q)
  ·exact .inl (by rw [pnt_lt hj]; exact q)
  ·exact .inr (.inr (by rw [kH.2 j hj]; exact q))
 have gp2 := (fr2 h.next (by omega) (.inl (by rw [pnt_ge (Nat.le_refl _)]; omega))).trans gp
 have gs2 := (fr2 (h.next + 1) (by omega) (.inl (by rw [pnt_ge (by omega)]; omega))).trans gs
 have gm2 := (f2 m l1 (.inl (by simp))).trans hm
 have ga2 := (f2 a l2 (.inl (by simp))).trans ha
 have gb2 := (f2 b l3 (.inl (by simp))).trans hb
 have okJ := J.ok
 have smJ := J.same
 have clJ := J.cells.1
 have ov := fun x0 x1 x2 x3 x4 x5 x6 => over3 x0 x1 x2 x3 x4 x5 x6 v J.cells.2
 simp (maxSteps := 2000000) (implicitDefEqProofs := false) (disch := first | omega | (simp only [SD.down,uA,uL] <;> omega) | fail) only [gm2,gp2,gs2,okJ,smJ,clJ,ov,cutB_all,hs,TQ.down,resE,oneV, ↓reduceIte,reduceCtorEq,uB,uE,uL,uA,uM,uS,uN,uX,uO,vR,vD,vL,vK,vE,vA,vM,vT,vS]
 first | refine G.call (put_ok (d + 3) _ a i s S.seen hs (by simp (maxSteps := 2000000) (implicitDefEqProofs := false) (disch := first | omega | (simp only [SD.down,uA,uL] <;> omega) | fail) only [TQ.down,resE,oneV, ↓reduceIte,reduceCtorEq,uB,uE,uL,uA,uM,uS,uN,uX,uO,vR,vD,vL,vK,vE,vA,vM,vT,vS]; omega) (by simp (maxSteps := 2000000) (implicitDefEqProofs := false) (disch := first | omega | (simp only [SD.down,uA,uL] <;> omega) | fail) only [ga2,TQ.down,resE,oneV, ↓reduceIte,reduceCtorEq,uB,uE,uL,uA,uM,uS,uN,uX,uO,vR,vD,vL,vK,vE,vA,vM,vT,vS])) ?_ | refine G.callC (put_ok (d + 3) _ a i s S.seen hs (by simp (maxSteps := 2000000) (implicitDefEqProofs := false) (disch := first | omega | (simp only [SD.down,uA,uL] <;> omega) | fail) only [TQ.down,resE,oneV, ↓reduceIte,reduceCtorEq,uB,uE,uL,uA,uM,uS,uN,uX,uO,vR,vD,vL,vK,vE,vA,vM,vT,vS]; omega) (by simp (maxSteps := 2000000) (implicitDefEqProofs := false) (disch := first | omega | (simp only [SD.down,uA,uL] <;> omega) | fail) only [ga2,TQ.down,resE,oneV, ↓reduceIte,reduceCtorEq,uB,uE,uL,uA,uM,uS,uN,uX,uO,vR,vD,vL,vK,vE,vA,vM,vT,vS])) ?_ | refine G.callL (put_ok (d + 3) _ a i s S.seen hs (by simp (maxSteps := 2000000) (implicitDefEqProofs := false) (disch := first | omega | (simp only [SD.down,uA,uL] <;> omega) | fail) only [TQ.down,resE,oneV, ↓reduceIte,reduceCtorEq,uB,uE,uL,uA,uM,uS,uN,uX,uO,vR,vD,vL,vK,vE,vA,vM,vT,vS]; omega) (by simp (maxSteps := 2000000) (implicitDefEqProofs := false) (disch := first | omega | (simp only [SD.down,uA,uL] <;> omega) | fail) only [ga2,TQ.down,resE,oneV, ↓reduceIte,reduceCtorEq,uB,uE,uL,uA,uM,uS,uN,uX,uO,vR,vD,vL,vK,vE,vA,vM,vT,vS])) ?_
 rintro u h3 ⟨rfl,g1,g2,g3⟩
 simp (maxSteps := 2000000) (implicitDefEqProofs := false) (disch := first | omega | (simp only [SD.down,uA,uL] <;> omega) | fail) only [TQ.down,resE,oneV, ↓reduceIte,reduceCtorEq,uB,uE,uL,uA,uM,uS,uN,uX,uO,vR,vD,vL,vK,vE,vA,vM,vT,vS] at g2 g3
 have gm3 : h3.get m = some (.cells [AV.int IntKind.i64 ↑S.n,AV.map a,AV.map b,v,mk,AV.bool S.fails,AV.bool S.hurt] 0 false) := by rw [g3 m (by omega) n1]; simp (maxSteps := 2000000) (implicitDefEqProofs := false) (disch := first | omega | (simp only [SD.down,uA,uL] <;> omega) | fail) only [TQ.down,resE,oneV, ↓reduceIte,reduceCtorEq,uB,uE,uL,uA,uM,uS,uN,uX,uO,vR,vD,vL,vK,vE,vA,vM,vT,vS]
 have gp3 : h3.get h.next = some (.cells [.int .i64 i] 0 false) := by rw [g3 _ (by omega) (by omega)]; simp (maxSteps := 2000000) (implicitDefEqProofs := false) (disch := first | omega | (simp only [SD.down,uA,uL] <;> omega) | fail) only [TQ.down,resE,oneV, ↓reduceIte,reduceCtorEq,uB,uE,uL,uA,uM,uS,uN,uX,uO,vR,vD,vL,vK,vE,vA,vM,vT,vS]; exact gp2
 have gs3 : h3.get (h.next + 1) = some (.cells (B s) 0 false) := by rw [g3 _ (by omega) (by omega)]; simp (maxSteps := 2000000) (implicitDefEqProofs := false) (disch := first | omega | (simp only [SD.down,uA,uL] <;> omega) | fail) only [TQ.down,resE,oneV, ↓reduceIte,reduceCtorEq,uB,uE,uL,uA,uM,uS,uN,uX,uO,vR,vD,vL,vK,vE,vA,vM,vT,vS]; exact gs2
 have gb3 : h3.get b = some (.map (mapC S.dur) false) := by rw [g3 b (by omega) (Ne.symm n3)]; simp (maxSteps := 2000000) (implicitDefEqProofs := false) (disch := first | omega | (simp only [SD.down,uA,uL] <;> omega) | fail) only [TQ.down,resE,oneV, ↓reduceIte,reduceCtorEq,uB,uE,uL,uA,uM,uS,uN,uX,uO,vR,vD,vL,vK,vE,vA,vM,vT,vS]; exact gb2
 simp (maxSteps := 2000000) (implicitDefEqProofs := false) (disch := first | omega | (simp only [SD.down,uA,uL] <;> omega) | fail) only [gm3,gp3,gs3,okJ,smJ,clJ,ov,cutB_all,hs,TQ.down,resE,oneV, ↓reduceIte,reduceCtorEq,uB,uE,uL,uA,uM,uS,uN,uX,uO,vR,vD,vL,vK,vE,vA,vM,vT,vS]
 first | refine G.call (put_ok (d + 3) _ b i s S.dur hs (by first | omega | (simp (maxSteps := 2000000) (implicitDefEqProofs := false) (disch := first | omega | (simp only [SD.down,uA,uL] <;> omega) | fail) only [TQ.down,resE,oneV, ↓reduceIte,reduceCtorEq,uB,uE,uL,uA,uM,uS,uN,uX,uO,vR,vD,vL,vK,vE,vA,vM,vT,vS]; omega)) (by first | exact gb3 | simp (maxSteps := 2000000) (implicitDefEqProofs := false) (disch := first | omega | (simp only [SD.down,uA,uL] <;> omega) | fail) only [gb3,TQ.down,resE,oneV, ↓reduceIte,reduceCtorEq,uB,uE,uL,uA,uM,uS,uN,uX,uO,vR,vD,vL,vK,vE,vA,vM,vT,vS])) ?_ | refine G.callC (put_ok (d + 3) _ b i s S.dur hs (by first | omega | (simp (maxSteps := 2000000) (implicitDefEqProofs := false) (disch := first | omega | (simp only [SD.down,uA,uL] <;> omega) | fail) only [TQ.down,resE,oneV, ↓reduceIte,reduceCtorEq,uB,uE,uL,uA,uM,uS,uN,uX,uO,vR,vD,vL,vK,vE,vA,vM,vT,vS]; omega)) (by first | exact gb3 | simp (maxSteps := 2000000) (implicitDefEqProofs := false) (disch := first | omega | (simp only [SD.down,uA,uL] <;> omega) | fail) only [gb3,TQ.down,resE,oneV, ↓reduceIte,reduceCtorEq,uB,uE,uL,uA,uM,uS,uN,uX,uO,vR,vD,vL,vK,vE,vA,vM,vT,vS])) ?_ | refine G.callL (put_ok (d + 3) _ b i s S.dur hs (by first | omega | (simp (maxSteps := 2000000) (implicitDefEqProofs := false) (disch := first | omega | (simp only [SD.down,uA,uL] <;> omega) | fail) only [TQ.down,resE,oneV, ↓reduceIte,reduceCtorEq,uB,uE,uL,uA,uM,uS,uN,uX,uO,vR,vD,vL,vK,vE,vA,vM,vT,vS]; omega)) (by first | exact gb3 | simp (maxSteps := 2000000) (implicitDefEqProofs := false) (disch := first | omega | (simp only [SD.down,uA,uL] <;> omega) | fail) only [gb3,TQ.down,resE,oneV, ↓reduceIte,reduceCtorEq,uB,uE,uL,uA,uM,uS,uN,uX,uO,vR,vD,vL,vK,vE,vA,vM,vT,vS])) ?_
 rintro u h4 ⟨rfl,k1,k2,k3⟩
 have gm4 := (k3 m (by omega) n2).trans gm3
 have ga4 := (k3 a (by omega) n3).trans g1
 simp (maxSteps := 2000000) (implicitDefEqProofs := false) (disch := first | omega | (simp only [SD.down,uA,uL] <;> omega) | fail) only [gm4,okJ,smJ,clJ,ov,cutB_all,hs,TQ.down,resE,oneV, ↓reduceIte,reduceCtorEq,uB,uE,uL,uA,uM,uS,uN,uX,uO,vR,vD,vL,vK,vE,vA,vM,vT,vS]
 subst hX
 have f4 : ∀ j,j < h2.next -> j ≠ m -> j ≠ a -> j ≠ b -> (h4.put m (some (Blk.cells [AV.int IntKind.i64 ↑S.n,AV.map a,AV.map b,v,mk,AV.bool S.fails,AV.bool true] 0 false))).get j = h2.get j := fun j hj jm ja jb => by
  simp (maxSteps := 2000000) (implicitDefEqProofs := false) (disch := first | omega | (simp only [SD.down,uA,uL] <;> omega) | fail) only [TQ.down,resE,oneV, ↓reduceIte,reduceCtorEq,uB,uE,uL,uA,uM,uS,uN,uX,uO,vR,vD,vL,vK,vE,vA,vM,vT,vS]
  rw [k3 j (by omega) jb,g3 j (by omega) ja]
  simp (maxSteps := 2000000) (implicitDefEqProofs := false) (disch := first | omega | (simp only [SD.down,uA,uL] <;> omega) | fail) only [TQ.down,resE,oneV, ↓reduceIte,reduceCtorEq,uB,uE,uL,uA,uM,uS,uN,uX,uO,vR,vD,vL,vK,vE,vA,vM,vT,vS]
 exact G.ok ⟨⟨_,rfl⟩,mfin (a := a) (b := b) (a' := a) (b' := b) (lgv' := v) l1 c1 mks (by simp (maxSteps := 2000000) (implicitDefEqProofs := false) (disch := first | omega | (simp only [SD.down,uA,uL] <;> omega) | fail) only [TQ.down,resE,oneV, ↓reduceIte,reduceCtorEq,uB,uE,uL,uA,uM,uS,uN,uX,uO,vR,vD,vL,vK,vE,vA,vM,vT,vS]; omega) rfl rfl (.inl rfl) (.inl rfl) (by simp (maxSteps := 2000000) (implicitDefEqProofs := false) (disch := first | omega | (simp only [SD.down,uA,uL] <;> omega) | fail) only [TQ.down,resE,oneV, ↓reduceIte,reduceCtorEq,uB,uE,uL,uA,uM,uS,uN,uX,uO,vR,vD,vL,vK,vE,vA,vM,vT,vS]; omega) (by simp (maxSteps := 2000000) (implicitDefEqProofs := false) (disch := first | omega | (simp only [SD.down,uA,uL] <;> omega) | fail) only [TQ.down,resE,oneV, ↓reduceIte,reduceCtorEq,uB,uE,uL,uA,uM,uS,uN,uX,uO,vR,vD,vL,vK,vE,vA,vM,vT,vS]; omega) (pnt_e _ l2 c2) (pnt_e _ l3 c3) n1 n2 n3 (by simp (maxSteps := 2000000) (implicitDefEqProofs := false) (disch := first | omega | (simp only [SD.down,uA,uL] <;> omega) | fail) only [memG,TQ.down,resE,oneV, ↓reduceIte,reduceCtorEq,uB,uE,uL,uA,uM,uS,uN,uX,uO,vR,vD,vL,vK,vE,vA,vM,vT,vS]) (by simp (maxSteps := 2000000) (implicitDefEqProofs := false) (disch := first | omega | (simp only [SD.down,uA,uL] <;> omega) | fail) only [TQ.down,resE,oneV, ↓reduceIte,reduceCtorEq,uB,uE,uL,uA,uM,uS,uN,uX,uO,vR,vD,vL,vK,vE,vA,vM,vT,vS]; exact ga4) (by simp (maxSteps := 2000000) (implicitDefEqProofs := false) (disch := first | omega | (simp only [SD.down,uA,uL] <;> omega) | fail) only [TQ.down,resE,oneV, ↓reduceIte,reduceCtorEq,uB,uE,uL,uA,uM,uS,uN,uX,uO,vR,vD,vL,vK,vE,vA,vM,vT,vS]; exact k1)
  (J.keep' (by simp (maxSteps := 2000000) (implicitDefEqProofs := false) (disch := first | omega | (simp only [SD.down,uA,uL] <;> omega) | fail) only [TQ.down,resE,oneV, ↓reduceIte,reduceCtorEq,uB,uE,uL,uA,uM,uS,uN,uX,uO,vR,vD,vL,vK,vE,vA,vM,vT,vS]; omega) (fun j hj hc je => f4 j hj (je m (by simp)) (je a (by simp)) (je b (by simp))) (fun j hj hc => by
   by_cases hjn : j < h.next
   ·rw [pnt_lt hjn] at hc ⊢; exact hc
   ·rw [pnt_ge (by omega)] at hc; omega))
  (fun j hj hc jm ja jb jq => (f4 j (by omega) jm ja jb).trans (f2 j hj (.inr (.inr jq))))
  (fun j hj hc => (f4 j (by omega) (fun e => hc (e ▸ c1)) (fun e => hc (e ▸ c2)) (fun e => hc (e ▸ c3))).trans (f2 j hj (.inr (.inl hc))))⟩
end Go.Proofs.Ytlnepbkeiianmaa
