/- Of this program, for all inputs: contracts. No condition but those in the theorems. -/
import Derived.Test.YtlnepbkeiianmaaRB
import Derived.Test.YtlnepbkeiianmaaPC
import Derived.Test.YtlnepbkeiianmaaHH
namespace Go.Proofs.Ytlnepbkeiianmaa
open Go Go.Ai Go.Aw Go.Proofs
open Nat renaming reduceBEq -> uB,reduceEqDiff -> uE,reduceLT -> uL,reduceAdd -> uA,reduceMul -> uM,reduceSub -> uS,reduceAnd -> uN,reduceXor -> uX,reduceOr -> uO
open Int renaming reduceMod -> vR,reduceDiv -> vD,reduceLT -> vL,reduceLE -> vK,reduceEq -> vE,reduceAdd -> vA,reduceMul -> vM,reduceToNat -> vT,reduceSub -> vS
set_option linter.unusedSimpArgs false
set_option linter.unusedVariables false
set_option maxRecDepth 10000
def refG (n : Nat) (dv lv mv : AV) (f hu : Bool) : List AV := [.int .i64 (n : Int),dv,lv,mv, .bool f, .bool hu]
def RCellI (h : Heap) (c : Col) (k cx N : Nat) (x : Nat × List Nat) : Prop := ∃ (lv : AV) (K : Nat) (l : List (Nat × List Nat)),cx < h.next /\ c cx = k /\ h.get cx = some (.cells (cC x.1 x.2 ++ [lv]) 0 false) /\ HisIs h lv K l /\ c K = k /\ l.length <= N /\ (∀ y ∈ l,y.2.length = 32) /\ 0 < l.length
theorem cC_app_over (n : Nat) (t u : List Nat) (ht : t.length = 32) (hu : u.length = 32) (v : AV) : overE 1 (B u) (cC n t ++ [v]) = some (cC n u ++ [v]) := by
 unfold overE
 rw [if_pos ⟨by simp [cC,B_len,ht,hu],allSc_B _⟩]
 unfold cC
 simp only [List.cons_append,List.take_succ_cons,List.take_zero,B_len,hu]
 rw [show 1 + 32 = 32 + 1 from rfl,List.drop_succ_cons,List.drop_append_of_le_length (by rw [B_len]; omega),List.drop_of_length_le (by rw [B_len]; omega)]
 simp
theorem RCellI.fr {K : Nat -> Prop} {h h' : Heap} {c c' : Col} {k cx N : Nat} {x : Nat × List Nat} (I : RCellI h c k cx N x) (f : Fr K c h h') (hk : ¬ K k) (e : ∀ j,j < h.next -> c' j = c j) : RCellI h' c' k cx N x := by
 obtain ⟨lv,L,l,l1,c1,g1,hh,cK,hl⟩ := I
 exact ⟨lv,L,l,Nat.lt_of_lt_of_le l1 f.le,(e _ l1).trans c1,(f.get cx l1 (by rw [c1]; exact hk)).trans g1,hh.keep f.le (fun hK => f.get L hK (by rw [cK]; exact hk)),(e _ hh.lt).trans cK,hl⟩
theorem mnewN (d : Nat) (h : Heap) (n : Nat) (h0 : 1 <= n) (h1 : n <= 65536) : callD env (d + 1) 19 [.int .i64 (n : Int)] h = some (.tup [.ptr (h.next + 2) 0, .int .i64 0],((h.new (.map [] false)).new (.map [] false)).new (.cells (memG n h.next (h.next + 1) .nilslice .nilslice false false) 0 false)) := by
 have d0 : decide ((n : Int) < 1) = false := decide_eq_false (by omega)
 have d1 : decide ((65536 : Int) < (n : Int)) = false := decide_eq_false (by omega)
 rw [callD_run (E := env) [] (by kernel_rfl) Try.func19 rfl (by rw [Try.ntmps19]; simp) (by kernel_rfl)]; simp (maxSteps := 2000000) (implicitDefEqProofs := false) (disch := first | omega | (simp only [SD.down,uA,uL] <;> omega) | fail) only [Try.ntmps19,Try.results19,env_P,env_L,d0,d1,TQ.down,resE,oneV, ↓reduceIte,reduceCtorEq,uB,uE,uL,uA,uM,uS,uN,uX,uO,vR,vD,vL,vK,vE,vA,vM,vT,vS]
 rfl
theorem rmade (d : Nat) (h : Heap) (n : Nat) : callD env (d + 1) 20 [.int .i64 (n : Int)] h = some (.ptr h.next 0,h.new (.cells (refG n .nilslice .nilslice .nilslice false false) 0 false)) := by
 rw [callD_run (E := env) [] (by kernel_rfl) Try.func20 rfl (by rw [Try.ntmps20]; simp) (by kernel_rfl)]; simp (maxSteps := 2000000) (implicitDefEqProofs := false) (disch := first | omega | (simp only [SD.down,uA,uL] <;> omega) | fail) only [Try.ntmps20,Try.results20,env_P,env_L,TQ.down,resE,oneV, ↓reduceIte,reduceCtorEq,uB,uE,uL,uA,uM,uS,uN,uX,uO,vR,vD,vL,vK,vE,vA,vM,vT,vS]
 rfl
theorem cnewN (d : Nat) (h : Heap) (n : Nat) (t : List Nat) (ht : t.length = 32) (hn : n <= 4611686018427387904) : callD env (d + 1) 21 [.agg (cC n t)] h = some (.tup [.ptr (h.next + 2) 0, .int .i64 0],((h.new (.cells (cC n t) 0 false)).new (.cells (cC n t) 0 false)).new (.cells [.slice (h.next + 1) 0 1 1] 0 false)) := by
 have d0 : decide ((4611686018427387904 : Int) < (n : Int)) = false := decide_eq_false (by omega)
 have cl := cC_len n t ht
 have czl : czz.length = 32 := rfl
 have hzc := cC_len 0 czz czl
 rw [callD_run (E := env) [] (by kernel_rfl) Try.func21 rfl (by rw [Try.ntmps21]; simp) (by kernel_rfl)]; simp (maxSteps := 2000000) (implicitDefEqProofs := false) (disch := first | omega | (simp only [SD.down,uA,uL] <;> omega) | fail) only [Try.ntmps21,Try.results21,env_P,env_L,d0,cl,hzc,c33_fold,cz_fold,cC_over _ _ _ czz ht czl,cC_cut _ _ ht,cC_0,bs141G _ _ ht,TQ.down,resE,oneV, ↓reduceIte,reduceCtorEq,uB,uE,uL,uA,uM,uS,uN,uX,uO,vR,vD,vL,vK,vE,vA,vM,vT,vS]
theorem rcnew (d : Nat) (h : Heap) (n : Nat) (t : List Nat) (ht : t.length = 32) (hn : n <= 4611686018427387904) : G (callD env (d + 1) 22 [.agg (cC n t)] h) fun v h' => ∃ cx,v = .tup [.ptr cx 0, .int .i64 0] /\ Keeps h h' /\ h.next <= cx /\ cx < h'.next /\ ∀ (C : Col) (k : Nat),(∀ j,h.next <= j -> j < h'.next -> C j = k) -> RCellI h' C k cx 1 (n,t) := by
 generalize hX : (fun (v : AV) (h' : Heap) => ∃ cx,v = .tup [.ptr cx 0, .int .i64 0] /\ Keeps h h' /\ h.next <= cx /\ cx < h'.next /\ ∀ (C : Col) (k : Nat),(∀ j,h.next <= j -> j < h'.next -> C j = k) -> RCellI h' C k cx 1 (n,t)) = Q
 have d0 : decide ((4611686018427387904 : Int) < (n : Int)) = false := decide_eq_false (by omega)
 have cl := cC_len n t ht
 have czl : czz.length = 32 := rfl
 have hzc := cC_len 0 czz czl
 have e0 : (cC 0 czz ++ [AV.nilslice]).set 0 (.int .u64 (n : Int)) = cC n czz ++ [AV.nilslice] := rfl
 have e1 := cC_app_over n czz t czl ht AV.nilslice
 have e2 : ∀ u : AV,(cC n t ++ [AV.nilslice]).set 33 u = cC n t ++ [u] := fun u => by
  rw [List.set_append_right _ _ (by rw [cl]; omega),cl]
  rfl
 rw [callD_run (E := env) [] (by kernel_rfl) Try.func22 rfl (by rw [Try.ntmps22]; simp) (by kernel_rfl)]; simp (maxSteps := 2000000) (implicitDefEqProofs := false) (disch := first | omega | (simp only [SD.down,uA,uL] <;> omega) | fail) only [Try.ntmps22,Try.results22,env_P,env_L,d0,ht,cl,hzc,e0,e1,e2,c33_fold,cz_fold,cC_over _ _ _ czz ht czl,cC_cut _ _ ht,cC_0,bs141G _ _ ht,cC_lab _ _ ht,TQ.down,resE,oneV, ↓reduceIte,reduceCtorEq,uB,uE,uL,uA,uM,uS,uN,uX,uO,vR,vD,vL,vK,vE,vA,vM,vT,vS]
 subst hX
 refine G.ok ⟨h.next + 2,rfl,⟨by simp (maxSteps := 2000000) (implicitDefEqProofs := false) (disch := first | omega | (simp only [SD.down,uA,uL] <;> omega) | fail) only [TQ.down,resE,oneV, ↓reduceIte,reduceCtorEq,uB,uE,uL,uA,uM,uS,uN,uX,uO,vR,vD,vL,vK,vE,vA,vM,vT,vS]; omega,fun j hj => by simp (maxSteps := 2000000) (implicitDefEqProofs := false) (disch := first | omega | (simp only [SD.down,uA,uL] <;> omega) | fail) only [TQ.down,resE,oneV, ↓reduceIte,reduceCtorEq,uB,uE,uL,uA,uM,uS,uN,uX,uO,vR,vD,vL,vK,vE,vA,vM,vT,vS]⟩,by omega,by simp (maxSteps := 2000000) (implicitDefEqProofs := false) (disch := first | omega | (simp only [SD.down,uA,uL] <;> omega) | fail) only [TQ.down,resE,oneV, ↓reduceIte,reduceCtorEq,uB,uE,uL,uA,uM,uS,uN,uX,uO,vR,vD,vL,vK,vE,vA,vM,vT,vS]; omega,fun C k hC => ⟨.slice (h.next + 1) 0 1 1,h.next + 1,[(n,t)],by simp (maxSteps := 2000000) (implicitDefEqProofs := false) (disch := first | omega | (simp only [SD.down,uA,uL] <;> omega) | fail) only [TQ.down,resE,oneV, ↓reduceIte,reduceCtorEq,uB,uE,uL,uA,uM,uS,uN,uX,uO,vR,vD,vL,vK,vE,vA,vM,vT,vS]; omega,hC _ (by omega) (by simp (maxSteps := 2000000) (implicitDefEqProofs := false) (disch := first | omega | (simp only [SD.down,uA,uL] <;> omega) | fail) only [TQ.down,resE,oneV, ↓reduceIte,reduceCtorEq,uB,uE,uL,uA,uM,uS,uN,uX,uO,vR,vD,vL,vK,vE,vA,vM,vT,vS]; omega),by simp (maxSteps := 2000000) (implicitDefEqProofs := false) (disch := first | omega | (simp only [SD.down,uA,uL] <;> omega) | fail) only [TQ.down,resE,oneV, ↓reduceIte,reduceCtorEq,uB,uE,uL,uA,uM,uS,uN,uX,uO,vR,vD,vL,vK,vE,vA,vM,vT,vS], .inl ⟨(n,t),rfl,rfl,by simp (maxSteps := 2000000) (implicitDefEqProofs := false) (disch := first | omega | (simp only [SD.down,uA,uL] <;> omega) | fail) only [TQ.down,resE,oneV, ↓reduceIte,reduceCtorEq,uB,uE,uL,uA,uM,uS,uN,uX,uO,vR,vD,vL,vK,vE,vA,vM,vT,vS],by simp (maxSteps := 2000000) (implicitDefEqProofs := false) (disch := first | omega | (simp only [SD.down,uA,uL] <;> omega) | fail) only [TQ.down,resE,oneV, ↓reduceIte,reduceCtorEq,uB,uE,uL,uA,uM,uS,uN,uX,uO,vR,vD,vL,vK,vE,vA,vM,vT,vS]; omega⟩,hC _ (by omega) (by simp (maxSteps := 2000000) (implicitDefEqProofs := false) (disch := first | omega | (simp only [SD.down,uA,uL] <;> omega) | fail) only [TQ.down,resE,oneV, ↓reduceIte,reduceCtorEq,uB,uE,uL,uA,uM,uS,uN,uX,uO,vR,vD,vL,vK,vE,vA,vM,vT,vS]; omega),by simp,by simp [ht],by simp⟩⟩
theorem cidxN (d : Nat) (h : Heap) (K : Nat) (ps : List Nat) (hn : ps.length <= 70) (hK : h.get K = some (.cells (ps.map (AV.ptr · 0)) 1 false)) (hm : ∀ (i p : Nat),ps[i]? = some p -> ∃ n a b lgv mk f hu,0 < n /\ h.get p = some (.cells (memG n a b lgv mk f hu) 0 false)) :
  G (callD env (d + 4) 62 [.eslice K 0 0 ps.length, .func (.func 43) [] []] h) fun v h' => v = .int .i64 (-1) /\ h' = h := by
 generalize hX : (fun (v : AV) (h' : Heap) => v = .int .i64 (-1) /\ h' = h) = Q
 rw [callD_run (E := env) [] (by kernel_rfl) Try.func62 rfl (by rw [Try.ntmps62]; simp) (by kernel_rfl)]; simp (maxSteps := 2000000) (implicitDefEqProofs := false) (disch := first | omega | (simp only [SD.down,uA,uL] <;> omega) | fail) only [Try.ntmps62,Try.results62,env_P,env_L,env_P,TQ.down,resE,oneV, ↓reduceIte,reduceCtorEq,uB,uE,uL,uA,uM,uS,uN,uX,uO,vR,vD,vL,vK,vE,vA,vM,vT,vS]
 rw [run_loop]
 refine loop_ind (fun j σ hh => ∃ q,q + j = ps.length /\ σ 0 = .eslice K 0 0 ps.length /\ σ 1 = .func (.func 43) [] [] /\ σ 6 = .eslice K 0 0 ps.length /\ σ 7 = .int .i64 (ps.length : Int) /\ σ 8 = .int .i64 (q : Int) /\ hh = h) ?_ ?_ ps.length _ _ _ (by simp; omega) ?_
 ·rintro mm σ hh ⟨q,hq,s0,s1,s6,s7,s8,rfl⟩
  obtain rfl : q = ps.length := by omega
  simp (maxSteps := 2000000) (implicitDefEqProofs := false) (disch := first | omega | (simp only [SD.down,uA,uL] <;> omega) | fail) only [run_it,s0,s1,s6,s7,s8,env_P,env_L,TQ.down,resE,oneV, ↓reduceIte,reduceCtorEq,uB,uE,uL,uA,uM,uS,uN,uX,uO,vR,vD,vL,vK,vE,vA,vM,vT,vS]
  subst hX
  exact G.ok ⟨rfl,rfl⟩
 ·rintro j mm σ hh ⟨q,hq,s0,s1,s6,s7,s8,rfl⟩ ih
  have hql : q < ps.length := by omega
  obtain ⟨p,hp⟩ : ∃ p,ps[q]? = some p := ⟨_,List.getElem?_eq_getElem hql⟩
  have hpm := ptrs_get hp
  obtain ⟨n,a,b,lgv,mk,f,hu,n0,gp⟩ := hm q p hp
  unfold memG at gp
  have d0 : decide (0 < (n : Int)) = true := decide_eq_true (by omega)
  have d1 : decide ((n : Int) = 0) = false := decide_eq_false (by omega)
  simp (maxSteps := 2000000) (implicitDefEqProofs := false) (disch := first | omega | (simp only [SD.down,uA,uL] <;> omega) | fail) only [run_it,s0,s1,s6,s7,s8,hK,hpm,hql,gp,d0,d1,in43,Try.f43,in44,Try.f44,in31,Try.f31,env_P,env_L,TQ.down,resE,oneV, ↓reduceIte,reduceCtorEq,uB,uE,uL,uA,uM,uS,uN,uX,uO,vR,vD,vL,vK,vE,vA,vM,vT,vS]
  exact ih _ _ ⟨q + 1,by omega,by simp (maxSteps := 2000000) (implicitDefEqProofs := false) (disch := first | omega | (simp only [SD.down,uA,uL] <;> omega) | fail) only [s0,TQ.down,resE,oneV, ↓reduceIte,reduceCtorEq,uB,uE,uL,uA,uM,uS,uN,uX,uO,vR,vD,vL,vK,vE,vA,vM,vT,vS],by simp (maxSteps := 2000000) (implicitDefEqProofs := false) (disch := first | omega | (simp only [SD.down,uA,uL] <;> omega) | fail) only [s1,TQ.down,resE,oneV, ↓reduceIte,reduceCtorEq,uB,uE,uL,uA,uM,uS,uN,uX,uO,vR,vD,vL,vK,vE,vA,vM,vT,vS],by simp (maxSteps := 2000000) (implicitDefEqProofs := false) (disch := first | omega | (simp only [SD.down,uA,uL] <;> omega) | fail) only [s6,TQ.down,resE,oneV, ↓reduceIte,reduceCtorEq,uB,uE,uL,uA,uM,uS,uN,uX,uO,vR,vD,vL,vK,vE,vA,vM,vT,vS],by simp (maxSteps := 2000000) (implicitDefEqProofs := false) (disch := first | omega | (simp only [SD.down,uA,uL] <;> omega) | fail) only [s7,TQ.down,resE,oneV, ↓reduceIte,reduceCtorEq,uB,uE,uL,uA,uM,uS,uN,uX,uO,vR,vD,vL,vK,vE,vA,vM,vT,vS],by simp (maxSteps := 2000000) (implicitDefEqProofs := false) (disch := first | omega | (simp only [SD.down,uA,uL] <;> omega) | fail) only [TQ.down,resE,oneV, ↓reduceIte,reduceCtorEq,uB,uE,uL,uA,uM,uS,uN,uX,uO,vR,vD,vL,vK,vE,vA,vM,vT,vS],rfl⟩
 ·exact ⟨0,by omega,by simp (maxSteps := 2000000) (implicitDefEqProofs := false) (disch := first | omega | (simp only [SD.down,uA,uL] <;> omega) | fail) only [TQ.down,resE,oneV, ↓reduceIte,reduceCtorEq,uB,uE,uL,uA,uM,uS,uN,uX,uO,vR,vD,vL,vK,vE,vA,vM,vT,vS],by simp (maxSteps := 2000000) (implicitDefEqProofs := false) (disch := first | omega | (simp only [SD.down,uA,uL] <;> omega) | fail) only [TQ.down,resE,oneV, ↓reduceIte,reduceCtorEq,uB,uE,uL,uA,uM,uS,uN,uX,uO,vR,vD,vL,vK,vE,vA,vM,vT,vS],by simp (maxSteps := 2000000) (implicitDefEqProofs := false) (disch := first | omega | (simp only [SD.down,uA,uL] <;> omega) | fail) only [TQ.down,resE,oneV, ↓reduceIte,reduceCtorEq,uB,uE,uL,uA,uM,uS,uN,uX,uO,vR,vD,vL,vK,vE,vA,vM,vT,vS],by simp (maxSteps := 2000000) (implicitDefEqProofs := false) (disch := first | omega | (simp only [SD.down,uA,uL] <;> omega) | fail) only [TQ.down,resE,oneV, ↓reduceIte,reduceCtorEq,uB,uE,uL,uA,uM,uS,uN,uX,uO,vR,vD,vL,vK,vE,vA,vM,vT,vS],by simp (maxSteps := 2000000) (implicitDefEqProofs := false) (disch := first | omega | (simp only [SD.down,uA,uL] <;> omega) | fail) only [TQ.down,resE,oneV, ↓reduceIte,reduceCtorEq,uB,uE,uL,uA,uM,uS,uN,uX,uO,vR,vD,vL,vK,vE,vA,vM,vT,vS],rfl⟩
theorem ccfN (d : Nat) (h : Heap) (K : Nat) (ps : List Nat) (hn : ps.length <= 70) (hK : h.get K = some (.cells (ps.map (AV.ptr · 0)) 1 false)) (hm : ∀ (i p : Nat),ps[i]? = some p -> ∃ n a b lgv mk f hu,0 < n /\ h.get p = some (.cells (memG n a b lgv mk f hu) 0 false)) :
  G (callD env (d + 5) 42 [.eslice K 0 0 ps.length, .func (.func 43) [] []] h) fun v h' => v = .bool false /\ h' = h := by
 generalize hX : (fun (v : AV) (h' : Heap) => v = .bool false /\ h' = h) = Q
 rw [callD_run (E := env) [] (by kernel_rfl) Try.func42 rfl (by rw [Try.ntmps42]; simp) (by kernel_rfl)]; simp (maxSteps := 2000000) (implicitDefEqProofs := false) (disch := first | omega | (simp only [SD.down,uA,uL] <;> omega) | fail) only [Try.ntmps42,Try.results42,env_P,env_L,TQ.down,resE,oneV, ↓reduceIte,reduceCtorEq,uB,uE,uL,uA,uM,uS,uN,uX,uO,vR,vD,vL,vK,vE,vA,vM,vT,vS]
 first | refine G.call (cidxN d h K ps hn hK hm) ?_ | refine G.callC (cidxN d h K ps hn hK hm) ?_ | refine G.callL (cidxN d h K ps hn hK hm) ?_
 rintro v h1 ⟨rfl,rfl⟩
 simp (maxSteps := 2000000) (implicitDefEqProofs := false) (disch := first | omega | (simp only [SD.down,uA,uL] <;> omega) | fail) only [TQ.down,resE,oneV, ↓reduceIte,reduceCtorEq,uB,uE,uL,uA,uM,uS,uN,uX,uO,vR,vD,vL,vK,vE,vA,vM,vT,vS]
 subst hX
 exact G.ok ⟨rfl,rfl⟩
theorem clnN (d : Nat) (h : Heap) (K : Nat) (ps : List Nat) (h0 : 0 < ps.length) (hn : ps.length <= 70) (Kl : K < h.next) (hK : h.get K = some (.cells (ps.map (AV.ptr · 0)) 1 false)) : ∃ h',callD env (d + 1) 47 [.eslice K 0 0 ps.length] h = some (.eslice (h.next + 1) 0 0 ps.length,h') /\ h'.next = h.next + 2 /\ h'.get (h.next + 1) = some (.cells (ps.map (AV.ptr · 0)) 1 false) /\ Keeps h h' := by
 obtain ⟨n,hn1⟩ : ∃ n,ps.length = n + 1 := ⟨ps.length - 1,by omega⟩
 have hq' : (h.new (.cells [] 0 false)).get K = some (.cells (ps.map (AV.ptr · 0)) 1 false) := by simp (maxSteps := 2000000) (implicitDefEqProofs := false) (disch := first | omega | (simp only [SD.down,uA,uL] <;> omega) | fail) only [TQ.down,resE,oneV, ↓reduceIte,reduceCtorEq,uB,uE,uL,uA,uM,uS,uN,uX,uO,vR,vD,vL,vK,vE,vA,vM,vT,vS]; exact hK
 have hsc : allSc (ps.map (AV.ptr · 0)) = true := by
  simp only [allSc,List.all_map]
  rw [List.all_eq_true]
  exact fun x _ => rfl
 have ea := fun k o => app_capE (P := Try.prog) (h := h.new (.cells [] 0 false)) (k := k) (o := o) (i := 0) (n := n) el39 (by omega) hq' (cut_all (by simp [hn1])) (by simp [hn1]) hsc
 rw [hn1]
 have nqe : ∀ q o l c,binE Try.prog .eql 39 (.eslice q o l c) .nilslice = some (.bool false) := fun q o l c => by kernel_rfl
 refine ⟨_,by rw [callD_run (E := env) [] (by kernel_rfl) Try.func47 rfl (by rw [Try.ntmps47]; simp) (by kernel_rfl)]; simp (maxSteps := 2000000) (implicitDefEqProofs := false) (disch := first | omega | (simp only [SD.down,uA,uL] <;> omega) | fail) only [Try.ntmps47,Try.results47,env_P,env_L,nqe,b050,cls_append,ap39,ea,TQ.down,resE,oneV, ↓reduceIte,reduceCtorEq,uB,uE,uL,uA,uM,uS,uN,uX,uO,vR,vD,vL,vK,vE,vA,vM,vT,vS]; rfl, ?_, ?_, ?_⟩
 ·simp (maxSteps := 2000000) (implicitDefEqProofs := false) (disch := first | omega | (simp only [SD.down,uA,uL] <;> omega) | fail) only [TQ.down,resE,oneV, ↓reduceIte,reduceCtorEq,uB,uE,uL,uA,uM,uS,uN,uX,uO,vR,vD,vL,vK,vE,vA,vM,vT,vS]
 ·simp (maxSteps := 2000000) (implicitDefEqProofs := false) (disch := first | omega | (simp only [SD.down,uA,uL] <;> omega) | fail) only [TQ.down,resE,oneV, ↓reduceIte,reduceCtorEq,uB,uE,uL,uA,uM,uS,uN,uX,uO,vR,vD,vL,vK,vE,vA,vM,vT,vS]
 ·exact ⟨by simp (maxSteps := 2000000) (implicitDefEqProofs := false) (disch := first | omega | (simp only [SD.down,uA,uL] <;> omega) | fail) only [TQ.down,resE,oneV, ↓reduceIte,reduceCtorEq,uB,uE,uL,uA,uM,uS,uN,uX,uO,vR,vD,vL,vK,vE,vA,vM,vT,vS]; omega,fun j hj => by simp (maxSteps := 2000000) (implicitDefEqProofs := false) (disch := first | omega | (simp only [SD.down,uA,uL] <;> omega) | fail) only [TQ.down,resE,oneV, ↓reduceIte,reduceCtorEq,uB,uE,uL,uA,uM,uS,uN,uX,uO,vR,vD,vL,vK,vE,vA,vM,vT,vS]⟩
set_option maxHeartbeats 1000000 in
theorem bnewN (d : Nat) (h : Heap) (KM : Nat) (ps : List Nat) (n0 : 0 < ps.length) (n64 : ps.length <= 64) (Kl : KM < h.next) (hKM : h.get KM = some (.cells (ps.map (AV.ptr · 0)) 1 false)) (hm : ∀ (i p : Nat),ps[i]? = some p -> p < h.next /\ ∃ n a b lgv mk f hu,0 < n /\ h.get p = some (.cells (memG n a b lgv mk f hu) 0 false)) (cp Kc : Nat) (hv : AV) (x : Nat × List Nat) (hcn : cp < h.next) (hc : h.get cp = some (.cells [hv] 0 false)) (hh0 : HisIs h hv Kc [x]) (hx : x.2.length = 32) (sv : AV) (l : List Stp) (hsd : ∀ s ∈ l,s.data.length = 64) (hsn : l.length < 4000) (hpk : ∀ s ∈ l,s.picks.length <= 140737488351232) (hst : StA h sv l) (kb : Nat) : G (callD env (d + 7) 23 [.eslice KM 0 0 ps.length, .ptr cp 0,sv] h) fun v h' => ∃ β Ms stv,v = .tup [.ptr β 0, .int .i64 0] /\ h.next <= β /\ h.next <= Ms /\ β < h'.next /\ Ms < h'.next /\ β ≠ Ms /\ h'.get β = some (.cells [.eslice Ms 0 0 ps.length, .ptr cp 0,stv, .bool false, .nilslice] 0 false) /\ h'.get Ms = some (.cells (ps.map (AV.ptr · 0)) 1 false) /\ Keeps h h' /\ ∀ C : Col,(∀ j,h.next <= j -> C j = kb) -> StI h' C kb stv [β,Ms] l := by
 generalize hX : (fun (v : AV) (h' : Heap) => ∃ β Ms stv,v = .tup [.ptr β 0, .int .i64 0] /\ h.next <= β /\ h.next <= Ms /\ β < h'.next /\ Ms < h'.next /\ β ≠ Ms /\ h'.get β = some (.cells [.eslice Ms 0 0 ps.length, .ptr cp 0,stv, .bool false, .nilslice] 0 false) /\ h'.get Ms = some (.cells (ps.map (AV.ptr · 0)) 1 false) /\ Keeps h h' /\ ∀ C : Col,(∀ j,h.next <= j -> C j = kb) -> StI h' C kb stv [β,Ms] l) = Q
 have czl : czz.length = 32 := rfl
 have hvc := cC_len x.1 x.2 hx
 have hvo := cC_over x.1 0 x.2 czz hx czl
 have hvcut := cC_cut x.1 x.2 hx
 have hzc := cC_len 0 czz czl
 have dl0 : decide ((ps.length : Int) < 1) = false := decide_eq_false (by omega)
 have dl1 : decide ((64 : Int) < (ps.length : Int)) = false := decide_eq_false (by omega)
 have svok : okv sv = some sv := by
  rcases hst with ⟨_,rfl | ⟨q,o,n,rfl⟩⟩ | ⟨K,vs,junk,ext,ro,_,⟨n,rfl⟩ | rfl,_⟩ <;> rfl
 rw [callD_run (E := env) [] (by kernel_rfl) Try.func23 rfl (by rw [Try.ntmps23]; simp) (by kernel_rfl)]; simp (maxSteps := 2000000) (implicitDefEqProofs := false) (disch := first | omega | (simp only [SD.down,uA,uL] <;> omega) | fail) only [Try.ntmps23,Try.results23,env_P,env_L,c33_fold,cz_fold,hvc,hvo,hvcut,hzc,TQ.down,resE,oneV, ↓reduceIte,reduceCtorEq,uB,uE,uL,uA,uM,uS,uN,uX,uO,vR,vD,vL,vK,vE,vA,vM,vT,vS]
 first | refine G.call (cell_read (d + 4) h cp Kc hv [x] x hc hh0 (by simp [hx]) rfl hcn (by simp)) ?_ | refine G.callC (cell_read (d + 4) h cp Kc hv [x] x hc hh0 (by simp [hx]) rfl hcn (by simp)) ?_ | refine G.callL (cell_read (d + 4) h cp Kc hv [x] x hc hh0 (by simp [hx]) rfl hcn (by simp)) ?_
 rintro v h1 ⟨rfl,k1⟩
 have n1 := k1.1
 simp (maxSteps := 2000000) (implicitDefEqProofs := false) (disch := first | omega | (simp only [SD.down,uA,uL] <;> omega) | fail) only [c33_fold,cz_fold,hvc,hvo,hvcut,hzc,TQ.down,resE,oneV, ↓reduceIte,reduceCtorEq,uB,uE,uL,uA,uM,uS,uN,uX,uO,vR,vD,vL,vK,vE,vA,vM,vT,vS]
 have kp0 : Keeps h ((h1.new (Blk.cells (cC 0 czz) 0 false)).put h1.next (some (Blk.cells (cC x.1 x.2) 0 false))) := ⟨by simp (maxSteps := 2000000) (implicitDefEqProofs := false) (disch := first | omega | (simp only [SD.down,uA,uL] <;> omega) | fail) only [TQ.down,resE,oneV, ↓reduceIte,reduceCtorEq,uB,uE,uL,uA,uM,uS,uN,uX,uO,vR,vD,vL,vK,vE,vA,vM,vT,vS]; omega,fun j hj => by simp (maxSteps := 2000000) (implicitDefEqProofs := false) (disch := first | omega | (simp only [SD.down,uA,uL] <;> omega) | fail) only [TQ.down,resE,oneV, ↓reduceIte,reduceCtorEq,uB,uE,uL,uA,uM,uS,uN,uX,uO,vR,vD,vL,vK,vE,vA,vM,vT,vS]; exact k1.2 j hj⟩
 generalize (h1.new (Blk.cells (cC 0 czz) 0 false)).put h1.next (some (Blk.cells (cC x.1 x.2) 0 false)) = g0 at kp0 ⊢
 first | refine G.call (ccfN (d + 1) g0 KM ps (by omega) ((kp0.2 KM Kl).trans hKM) (fun i p hp => by obtain ⟨pl,n,a,b,lgv,mk,f,hu,n0,g⟩ := hm i p hp; exact ⟨n,a,b,lgv,mk,f,hu,n0,(kp0.2 p pl).trans g⟩)) ?_ | refine G.callC (ccfN (d + 1) g0 KM ps (by omega) ((kp0.2 KM Kl).trans hKM) (fun i p hp => by obtain ⟨pl,n,a,b,lgv,mk,f,hu,n0,g⟩ := hm i p hp; exact ⟨n,a,b,lgv,mk,f,hu,n0,(kp0.2 p pl).trans g⟩)) ?_ | refine G.callL (ccfN (d + 1) g0 KM ps (by omega) ((kp0.2 KM Kl).trans hKM) (fun i p hp => by obtain ⟨pl,n,a,b,lgv,mk,f,hu,n0,g⟩ := hm i p hp; exact ⟨n,a,b,lgv,mk,f,hu,n0,(kp0.2 p pl).trans g⟩)) ?_
 rintro v h2x ⟨rfl,e2⟩
 rw [e2]
 clear e2 h2x
 simp (maxSteps := 2000000) (implicitDefEqProofs := false) (disch := first | omega | (simp only [SD.down,uA,uL] <;> omega) | fail) only [env_P,dl0,dl1,svok,TQ.down,resE,oneV, ↓reduceIte,reduceCtorEq,uB,uE,uL,uA,uM,uS,uN,uX,uO,vR,vD,vL,vK,vE,vA,vM,vT,vS]
 first | refine G.call (clone_st (d + 5) g0 sv l hsd hsn (hst.keep kp0)) ?_ | refine G.callC (clone_st (d + 5) g0 sv l hsd hsn (hst.keep kp0)) ?_ | refine G.callL (clone_st (d + 5) g0 sv l hsd hsn (hst.keep kp0)) ?_
 rintro v h2 ⟨k2,hcs⟩
 have hlen : lenE Try.prog 49 v = some (.int .i64 (l.length : Int)) := by
  rcases hcs with ⟨rfl,rfl | ⟨q,o,n,rfl⟩⟩ | ⟨K,vs,_,rfl,_⟩
  ·exact lnn49
  ·exact lns49 ..
  ·exact lne49 ..
 have vok : okv v = some v := by
  rcases hcs with ⟨rfl,rfl | ⟨q,o,n,rfl⟩⟩ | ⟨K,vs,_,rfl,_⟩ <;> rfl
 have vcl : v.cells = [v] := by
  rcases hcs with ⟨rfl,rfl | ⟨q,o,n,rfl⟩⟩ | ⟨K,vs,_,rfl,_⟩ <;> rfl
 have vsc : isSc v = true := by
  rcases hcs with ⟨rfl,rfl | ⟨q,o,n,rfl⟩⟩ | ⟨K,vs,_,rfl,_⟩ <;> rfl
 simp (maxSteps := 2000000) (implicitDefEqProofs := false) (disch := first | omega | (simp only [SD.down,uA,uL] <;> omega) | fail) only [hlen,vok,TQ.down,resE,oneV, ↓reduceIte,reduceCtorEq,uB,uE,uL,uA,uM,uS,uN,uX,uO,vR,vD,vL,vK,vE,vA,vM,vT,vS]
 rw [run_loop]
 have kp2 : Keeps h h2 := kp0.trans k2
 refine loop_ind (fun j σ hh => ∃ q,q + j = l.length /\ σ 0 = .eslice KM 0 0 ps.length /\ σ 1 = .ptr cp 0 /\ σ 10 = v /\ σ 34 = .int .i64 (l.length : Int) /\ σ 35 = .int .i64 (q : Int) /\ Keeps g0 hh /\ ((l = [] /\ (v = .nilslice \/ ∃ q o n,v = .slice q o 0 n)) \/ ∃ (K : Nat) (ws : List AV),v = .eslice K 0 0 l.length /\ g0.next <= K /\ K < hh.next /\ ws.length = l.length /\ hh.get K = some (.cells (stpsC (l.zip ws)) 70 false) /\ ∀ (i : Nat) (s : Stp) (u : AV),l[i]? = some s -> ws[i]? = some u -> (i < q -> PkN h.next hh K u s.picks) /\ (q <= i -> PickA g0 u s.picks))) ?_ ?_ l.length _ _ _ (by simp; omega) ?_
 ·rintro mm σ hh ⟨q,hq,s0,s1,s10,s34,s35,kg,hst2⟩
  have kh := kp0.trans kg
  obtain rfl : q = l.length := by omega
  simp (maxSteps := 2000000) (implicitDefEqProofs := false) (disch := first | omega | (simp only [SD.down,uA,uL] <;> omega) | fail) only [run_it,s0,s1,s10,s34,s35,env_P,env_L,TQ.down,resE,oneV, ↓reduceIte,reduceCtorEq,uB,uE,uL,uA,uM,uS,uN,uX,uO,vR,vD,vL,vK,vE,vA,vM,vT,vS]
  have kn := kh.1
  obtain ⟨hc2,q1,qn,qg,qk⟩ := clnN (d + 5) hh KM ps n0 (by omega) (by omega) ((kh.2 _ Kl).trans hKM)
  simp (maxSteps := 2000000) (implicitDefEqProofs := false) (disch := first | omega | (simp only [SD.down,uA,uL] <;> omega) | fail) only [q1,s0,s1,s10,s34,s35,vok,vcl,vsc,env_P,env_L,TQ.down,resE,oneV, ↓reduceIte,reduceCtorEq,uB,uE,uL,uA,uM,uS,uN,uX,uO,vR,vD,vL,vK,vE,vA,vM,vT,vS]
  subst hX
  refine G.ok ⟨hc2.next,hh.next + 1,v,rfl,by omega,by omega,by simp (maxSteps := 2000000) (implicitDefEqProofs := false) (disch := first | omega | (simp only [SD.down,uA,uL] <;> omega) | fail) only [TQ.down,resE,oneV, ↓reduceIte,reduceCtorEq,uB,uE,uL,uA,uM,uS,uN,uX,uO,vR,vD,vL,vK,vE,vA,vM,vT,vS]; omega,by simp (maxSteps := 2000000) (implicitDefEqProofs := false) (disch := first | omega | (simp only [SD.down,uA,uL] <;> omega) | fail) only [TQ.down,resE,oneV, ↓reduceIte,reduceCtorEq,uB,uE,uL,uA,uM,uS,uN,uX,uO,vR,vD,vL,vK,vE,vA,vM,vT,vS]; omega,by omega,by simp (maxSteps := 2000000) (implicitDefEqProofs := false) (disch := first | omega | (simp only [SD.down,uA,uL] <;> omega) | fail) only [TQ.down,resE,oneV, ↓reduceIte,reduceCtorEq,uB,uE,uL,uA,uM,uS,uN,uX,uO,vR,vD,vL,vK,vE,vA,vM,vT,vS],by simp (maxSteps := 2000000) (implicitDefEqProofs := false) (disch := first | omega | (simp only [SD.down,uA,uL] <;> omega) | fail) only [TQ.down,resE,oneV, ↓reduceIte,reduceCtorEq,uB,uE,uL,uA,uM,uS,uN,uX,uO,vR,vD,vL,vK,vE,vA,vM,vT,vS]; exact qg,⟨by simp (maxSteps := 2000000) (implicitDefEqProofs := false) (disch := first | omega | (simp only [SD.down,uA,uL] <;> omega) | fail) only [TQ.down,resE,oneV, ↓reduceIte,reduceCtorEq,uB,uE,uL,uA,uM,uS,uN,uX,uO,vR,vD,vL,vK,vE,vA,vM,vT,vS]; omega,fun j hj => by simp (maxSteps := 2000000) (implicitDefEqProofs := false) (disch := first | omega | (simp only [SD.down,uA,uL] <;> omega) | fail) only [TQ.down,resE,oneV, ↓reduceIte,reduceCtorEq,uB,uE,uL,uA,uM,uS,uN,uX,uO,vR,vD,vL,vK,vE,vA,vM,vT,vS]; exact (qk.2 j (by omega)).trans (kh.2 j hj)⟩,fun C hC => ?_⟩
  rcases hst2 with ⟨e0,e1⟩ | ⟨K,ws,rfl,x1,x2,x3,x4,x5⟩
  ·exact .inl ⟨e0,e1⟩
  ·refine .inr ⟨K,ws,rfl,by simp (maxSteps := 2000000) (implicitDefEqProofs := false) (disch := first | omega | (simp only [SD.down,uA,uL] <;> omega) | fail) only [TQ.down,resE,oneV, ↓reduceIte,reduceCtorEq,uB,uE,uL,uA,uM,uS,uN,uX,uO,vR,vD,vL,vK,vE,vA,vM,vT,vS]; omega,hC _ (by have := kp0.1; omega),fun e he => ?_,x3,by simp (maxSteps := 2000000) (implicitDefEqProofs := false) (disch := first | omega | (simp only [SD.down,uA,uL] <;> omega) | fail) only [TQ.down,resE,oneV, ↓reduceIte,reduceCtorEq,uB,uE,uL,uA,uM,uS,uN,uX,uO,vR,vD,vL,vK,vE,vA,vM,vT,vS]; exact (qk.2 K (by omega)).trans x4,fun i s u h1 h2 => ?_⟩
   ·simp only [List.mem_cons,List.not_mem_nil,or_false] at he; omega
   ·rcases (x5 i s u h1 h2).1 (List.getElem?_eq_some_iff.1 h1).1 with y | ⟨K',rfl,y1,y2,y3,y4⟩
    ·exact .inl y
    ·refine .inr ⟨K',rfl,by simp (maxSteps := 2000000) (implicitDefEqProofs := false) (disch := first | omega | (simp only [SD.down,uA,uL] <;> omega) | fail) only [TQ.down,resE,oneV, ↓reduceIte,reduceCtorEq,uB,uE,uL,uA,uM,uS,uN,uX,uO,vR,vD,vL,vK,vE,vA,vM,vT,vS]; omega,hC _ y1,fun e he => ?_,by simp (maxSteps := 2000000) (implicitDefEqProofs := false) (disch := first | omega | (simp only [SD.down,uA,uL] <;> omega) | fail) only [TQ.down,resE,oneV, ↓reduceIte,reduceCtorEq,uB,uE,uL,uA,uM,uS,uN,uX,uO,vR,vD,vL,vK,vE,vA,vM,vT,vS]; exact (qk.2 K' (by omega)).trans y4⟩
     simp only [List.mem_cons,List.not_mem_nil,or_false] at he; omega
 ·rintro j mm σ hh ⟨q,hq,s0,s1,s10,s34,s35,kg,hst2⟩ ih
  have kh := kp0.trans kg
  have hql : q < l.length := by omega
  rcases hst2 with ⟨e0,_⟩ | ⟨K,ws,rfl,x1,x2,x3,x4,x5⟩
  ·rw [e0] at hql; simp at hql
  obtain ⟨s,hs⟩ : ∃ s,l[q]? = some s := ⟨l[q]'hql,List.getElem?_eq_getElem hql⟩
  obtain ⟨u,hu⟩ : ∃ u,ws[q]? = some u := ⟨ws[q]'(by omega),List.getElem?_eq_getElem (by omega)⟩
  have hsl := hsd s (List.mem_of_getElem? hs)
  have hsp := hpk s (List.mem_of_getElem? hs)
  have hzip : (l.zip ws)[q]? = some (s,u) := by rw [List.getElem?_zip_eq_some]; exact ⟨hs,hu⟩
  have hzl : ∀ x ∈ l.zip ws,(x.1.C x.2).length = 70 := fun x hx => x.1.C_len x.2 (hsd _ (List.of_mem_zip hx).1)
  have hpu := (x5 q s u hs hu).2 (Nat.le_refl _)
  obtain ⟨uok,usc,usm⟩ := hpu.ok
  have h69 : (stpsC (l.zip ws))[q * 70 + 69]? = some u := by
   have := flat_get (fun x : Stp × AV => x.1.C x.2) 70 (l.zip ws) q 69 (s,u) hzl hzip (by omega)
   refine this.trans ?_
   show (B s.data ++ [u])[64]? = _
   rw [List.getElem?_append_right (by simp [B_len,hsl])]
   simp [B_len,hsl]
  have hll := stps_len hsd x3
  have hlt : q * 70 + 69 < (stpsC (l.zip ws)).length := by rw [hll]; omega
  simp (maxSteps := 2000000) (implicitDefEqProofs := false) (disch := first | omega | (simp only [SD.down,uA,uL] <;> omega) | fail) only [run_it,s0,s1,s10,s34,s35,x4,h69,uok,env_P,env_L,TQ.down,resE,oneV, ↓reduceIte,reduceCtorEq,uB,uE,uL,uA,uM,uS,uN,uX,uO,vR,vD,vL,vK,vE,vA,vM,vT,vS]
  first | refine G.call (clone_b (d + 5) hh u s.picks hsp (hpu.keep kg)) ?_ | refine G.callC (clone_b (d + 5) hh u s.picks hsp (hpu.keep kg)) ?_ | refine G.callL (clone_b (d + 5) hh u s.picks hsp (hpu.keep kg)) ?_
  rintro v3 h3 ⟨k3,hv3⟩
  have hn3 := k3.1
  have gK := (k3.2 _ x2).trans x4
  have v3ok : okv v3 = some v3 /\ isSc v3 = true /\ v3.cells = [v3] := by
   rcases hv3 with ⟨_,rfl | ⟨q,o,n,rfl⟩⟩ | ⟨K',rfl,_⟩ <;> exact ⟨rfl,rfl,rfl⟩
  obtain ⟨w1,w2,w3⟩ := v3ok
  have eset : (stpsC (l.zip ws)).set (q * 70 + 69) v3 = stpsC (l.zip (ws.set q v3)) := by
   rw [<- zip_set l ws q s v3 hs]
   exact flat_set (fun x : Stp × AV => x.1.C x.2) 70 (l.zip ws) q 69 (s,u) (s,v3) v3 hzl hzip (by omega) (s.C_set u v3 hsl)
  simp (maxSteps := 2000000) (implicitDefEqProofs := false) (disch := first | omega | (simp only [SD.down,uA,uL] <;> omega) | fail) only [s0,s1,s10,s34,s35,gK,w1,w2,w3,hlt,eset,env_P,env_L,TQ.down,resE,oneV, ↓reduceIte,reduceCtorEq,uB,uE,uL,uA,uM,uS,uN,uX,uO,vR,vD,vL,vK,vE,vA,vM,vT,vS]
  have kfin : Keeps g0 (h3.put K (some (Blk.cells (stpsC (l.zip (ws.set q v3))) 70 false))) := ⟨by have := kg.1; simp (maxSteps := 2000000) (implicitDefEqProofs := false) (disch := first | omega | (simp only [SD.down,uA,uL] <;> omega) | fail) only [TQ.down,resE,oneV, ↓reduceIte,reduceCtorEq,uB,uE,uL,uA,uM,uS,uN,uX,uO,vR,vD,vL,vK,vE,vA,vM,vT,vS]; omega,fun j hj => by
   have := kp0.1
   have e1 : j ≠ K := by omega
   simp (maxSteps := 2000000) (implicitDefEqProofs := false) (disch := first | omega | (simp only [SD.down,uA,uL] <;> omega) | fail) only [TQ.down,resE,oneV, ↓reduceIte,reduceCtorEq,uB,uE,uL,uA,uM,uS,uN,uX,uO,vR,vD,vL,vK,vE,vA,vM,vT,vS]
   exact (k3.2 j (by have := kg.1; omega)).trans (kg.2 j hj)⟩
  refine ih _ _ ⟨q + 1,by omega,by simp (maxSteps := 2000000) (implicitDefEqProofs := false) (disch := first | omega | (simp only [SD.down,uA,uL] <;> omega) | fail) only [s0,TQ.down,resE,oneV, ↓reduceIte,reduceCtorEq,uB,uE,uL,uA,uM,uS,uN,uX,uO,vR,vD,vL,vK,vE,vA,vM,vT,vS],by simp (maxSteps := 2000000) (implicitDefEqProofs := false) (disch := first | omega | (simp only [SD.down,uA,uL] <;> omega) | fail) only [s1,TQ.down,resE,oneV, ↓reduceIte,reduceCtorEq,uB,uE,uL,uA,uM,uS,uN,uX,uO,vR,vD,vL,vK,vE,vA,vM,vT,vS],by simp (maxSteps := 2000000) (implicitDefEqProofs := false) (disch := first | omega | (simp only [SD.down,uA,uL] <;> omega) | fail) only [s10,TQ.down,resE,oneV, ↓reduceIte,reduceCtorEq,uB,uE,uL,uA,uM,uS,uN,uX,uO,vR,vD,vL,vK,vE,vA,vM,vT,vS],by simp (maxSteps := 2000000) (implicitDefEqProofs := false) (disch := first | omega | (simp only [SD.down,uA,uL] <;> omega) | fail) only [s34,TQ.down,resE,oneV, ↓reduceIte,reduceCtorEq,uB,uE,uL,uA,uM,uS,uN,uX,uO,vR,vD,vL,vK,vE,vA,vM,vT,vS],by simp (maxSteps := 2000000) (implicitDefEqProofs := false) (disch := first | omega | (simp only [SD.down,uA,uL] <;> omega) | fail) only [TQ.down,resE,oneV, ↓reduceIte,reduceCtorEq,uB,uE,uL,uA,uM,uS,uN,uX,uO,vR,vD,vL,vK,vE,vA,vM,vT,vS],kfin, .inr ⟨K,ws.set q v3,rfl,x1,by simp (maxSteps := 2000000) (implicitDefEqProofs := false) (disch := first | omega | (simp only [SD.down,uA,uL] <;> omega) | fail) only [TQ.down,resE,oneV, ↓reduceIte,reduceCtorEq,uB,uE,uL,uA,uM,uS,uN,uX,uO,vR,vD,vL,vK,vE,vA,vM,vT,vS]; omega,by rw [List.length_set]; exact x3,by simp (maxSteps := 2000000) (implicitDefEqProofs := false) (disch := first | omega | (simp only [SD.down,uA,uL] <;> omega) | fail) only [TQ.down,resE,oneV, ↓reduceIte,reduceCtorEq,uB,uE,uL,uA,uM,uS,uN,uX,uO,vR,vD,vL,vK,vE,vA,vM,vT,vS],fun i s' u' h1 h2 => ?_⟩⟩
  rw [List.getElem?_set] at h2
  by_cases hiq : q = i
  ·subst hiq
   rw [if_pos rfl,if_pos (by omega)] at h2
   cases h2
   rw [hs] at h1; cases h1
   refine ⟨fun _ => ?_,fun h => by omega⟩
   rcases hv3 with y | ⟨K',rfl,y1,y2,y3⟩
   ·exact .inl y
   ·have hkn := kh.1
    exact .inr ⟨K',rfl,by omega,by simp (maxSteps := 2000000) (implicitDefEqProofs := false) (disch := first | omega | (simp only [SD.down,uA,uL] <;> omega) | fail) only [TQ.down,resE,oneV, ↓reduceIte,reduceCtorEq,uB,uE,uL,uA,uM,uS,uN,uX,uO,vR,vD,vL,vK,vE,vA,vM,vT,vS]; omega,by omega,by simp (maxSteps := 2000000) (implicitDefEqProofs := false) (disch := first | omega | (simp only [SD.down,uA,uL] <;> omega) | fail) only [TQ.down,resE,oneV, ↓reduceIte,reduceCtorEq,uB,uE,uL,uA,uM,uS,uN,uX,uO,vR,vD,vL,vK,vE,vA,vM,vT,vS]; exact y3⟩
  ·rw [if_neg hiq] at h2
   obtain ⟨z1,z2⟩ := x5 i s' u' h1 h2
   refine ⟨fun hi => ?_,fun hi => z2 (by omega)⟩
   rcases z1 (by omega) with y | ⟨K',rfl,y1,y2,y3,y4⟩
   ·exact .inl y
   ·refine .inr ⟨K',rfl,y1,by simp (maxSteps := 2000000) (implicitDefEqProofs := false) (disch := first | omega | (simp only [SD.down,uA,uL] <;> omega) | fail) only [TQ.down,resE,oneV, ↓reduceIte,reduceCtorEq,uB,uE,uL,uA,uM,uS,uN,uX,uO,vR,vD,vL,vK,vE,vA,vM,vT,vS]; omega,y3, ?_⟩
    simp (maxSteps := 2000000) (implicitDefEqProofs := false) (disch := first | omega | (simp only [SD.down,uA,uL] <;> omega) | fail) only [TQ.down,resE,oneV, ↓reduceIte,reduceCtorEq,uB,uE,uL,uA,uM,uS,uN,uX,uO,vR,vD,vL,vK,vE,vA,vM,vT,vS]
    exact (k3.2 _ y2).trans y4
 ·refine ⟨0,by omega,by simp (maxSteps := 2000000) (implicitDefEqProofs := false) (disch := first | omega | (simp only [SD.down,uA,uL] <;> omega) | fail) only [TQ.down,resE,oneV, ↓reduceIte,reduceCtorEq,uB,uE,uL,uA,uM,uS,uN,uX,uO,vR,vD,vL,vK,vE,vA,vM,vT,vS],by simp (maxSteps := 2000000) (implicitDefEqProofs := false) (disch := first | omega | (simp only [SD.down,uA,uL] <;> omega) | fail) only [TQ.down,resE,oneV, ↓reduceIte,reduceCtorEq,uB,uE,uL,uA,uM,uS,uN,uX,uO,vR,vD,vL,vK,vE,vA,vM,vT,vS],by simp (maxSteps := 2000000) (implicitDefEqProofs := false) (disch := first | omega | (simp only [SD.down,uA,uL] <;> omega) | fail) only [TQ.down,resE,oneV, ↓reduceIte,reduceCtorEq,uB,uE,uL,uA,uM,uS,uN,uX,uO,vR,vD,vL,vK,vE,vA,vM,vT,vS],by simp (maxSteps := 2000000) (implicitDefEqProofs := false) (disch := first | omega | (simp only [SD.down,uA,uL] <;> omega) | fail) only [TQ.down,resE,oneV, ↓reduceIte,reduceCtorEq,uB,uE,uL,uA,uM,uS,uN,uX,uO,vR,vD,vL,vK,vE,vA,vM,vT,vS],by simp (maxSteps := 2000000) (implicitDefEqProofs := false) (disch := first | omega | (simp only [SD.down,uA,uL] <;> omega) | fail) only [TQ.down,resE,oneV, ↓reduceIte,reduceCtorEq,uB,uE,uL,uA,uM,uS,uN,uX,uO,vR,vD,vL,vK,vE,vA,vM,vT,vS],k2, ?_⟩
  rcases hcs with x | ⟨K,vs,h0,rfl,y1,y2,y3,y4,y5⟩
  ·exact .inl x
  ·have := kp0.1
   exact .inr ⟨K,vs,rfl,y1,y2,y3,y4,fun i s u h1 h2 => ⟨fun h => by omega,fun _ => y5 i s u h1 h2⟩⟩
end Go.Proofs.Ytlnepbkeiianmaa
