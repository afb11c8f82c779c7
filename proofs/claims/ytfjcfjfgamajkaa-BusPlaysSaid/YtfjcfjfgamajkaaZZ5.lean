/- Of this program, for all inputs: contracts. No condition but those in the theorems. -/
import Derived.Test.YtfjcfjfgamajkaaZZ4
namespace Go.Proofs.Ytfjcfjfgamajkaa
open Go Go.Ai Go.Aw Go.Proofs
open Nat renaming reduceBEq -> uB,reduceEqDiff -> uE,reduceLT -> uL,reduceAdd -> uA,reduceMul -> uM,reduceSub -> uS,reduceAnd -> uN,reduceXor -> uX,reduceOr -> uO
open Int renaming reduceMod -> vR,reduceDiv -> vD,reduceLT -> vL,reduceLE -> vK,reduceEq -> vE,reduceAdd -> vA,reduceMul -> vM,reduceToNat -> vT,reduceSub -> vS
set_option linter.unusedSimpArgs false
set_option linter.unusedVariables false
set_option maxRecDepth 10000
theorem mnewN (d : Nat) (h : Heap) (n : Nat) (h0 : 1 <= n) (h1 : n <= 64) : callD env (d + 1) 38 [.int .i64 (n : Int)] h = some (.tup [.ptr (h.next + 2) 0, .int .i64 0],((h.new (.map [] false)).new (.map [] false)).new (.cells (memG n h.next (h.next + 1) .nilslice .nilslice false false) 0 false)) := by
 have d0 : decide ((n : Int) < 1) = false := decide_eq_false (by omega)
 have d1 : decide ((65536 : Int) < (n : Int)) = false := decide_eq_false (by omega)
 rw [callD_run (E := env) [] (by kernel_rfl) Try.func38 rfl (by rw [Try.ntmps38]; simp) (by kernel_rfl)]; simp (disch := first | omega | (simp only [SD.down,uA,uL] <;> omega) | fail) only [Try.ntmps38,Try.results38,env_P,env_L,d0,d1,TQ.down,resE,oneV, ↓reduceIte,reduceCtorEq,uB,uE,uL,uA,uM,uS,vL,vK,vE,vA,vS]
 rfl
theorem rmade (d : Nat) (h : Heap) (n : Nat) : callD env (d + 1) 81 [.int .i64 (n : Int)] h = some (.ptr h.next 0,h.new (.cells (refG n .nilslice .nilslice .nilslice false false) 0 false)) := by
 rw [callD_run (E := env) [] (by kernel_rfl) Try.func81 rfl (by rw [Try.ntmps81]; simp) (by kernel_rfl)]; simp (disch := first | omega | (simp only [SD.down,uA,uL] <;> omega) | fail) only [Try.ntmps81,Try.results81,env_P,env_L,TQ.down,resE,oneV, ↓reduceIte,reduceCtorEq,uB,uE,uL,uA,uM,uS,vL,vK,vE,vA,vS]
 rfl
theorem cnewN (d : Nat) (h : Heap) (n : Nat) (t : List Nat) (ht : t.length = 32) (hn : n <= 4611686018427387904) : callD env (d + 1) 37 [.agg (cC n t)] h = some (.tup [.ptr (h.next + 2) 0, .int .i64 0],((h.new (.cells (cC n t) 0 false)).new (.cells (cC n t) 0 false)).new (.cells [.slice (h.next + 1) 0 1 1] 0 false)) := by
 have d0 : decide ((4611686018427387904 : Int) < (n : Int)) = false := decide_eq_false (by omega)
 have cl := cC_len n t ht
 have czl : czz.length = 32 := rfl
 have hzc := cC_len 0 czz czl
 rw [callD_run (E := env) [] (by kernel_rfl) Try.func37 rfl (by rw [Try.ntmps37]; simp) (by kernel_rfl)]; simp (disch := first | omega | (simp only [SD.down,uA,uL] <;> omega) | fail) only [Try.ntmps37,Try.results37,env_P,env_L,d0,cl,hzc,c33_fold,cz_fold,cC_over _ _ _ czz ht czl,cC_cut _ _ ht,cC_0,bs141G _ _ ht,TQ.down,resE,oneV, ↓reduceIte,reduceCtorEq,uB,uE,uL,uA,uM,uS,vL,vK,vE,vA,vS]
theorem cnewF (d : Nat) (h : Heap) (n : Nat) (t : List Nat) (ht : t.length = 32) (hn : 4611686018427387904 < n) : ∃ h',callD env (d + 1) 37 [.agg (cC n t)] h = some (.tup [.nilptr, .int .i64 2],h') := by
 have d0 : decide ((4611686018427387904 : Int) < (n : Int)) = true := decide_eq_true (by omega)
 have cl := cC_len n t ht
 have czl : czz.length = 32 := rfl
 have hzc := cC_len 0 czz czl
 rw [callD_run (E := env) [] (by kernel_rfl) Try.func37 rfl (by rw [Try.ntmps37]; simp) (by kernel_rfl)]; simp (disch := first | omega | (simp only [SD.down,uA,uL] <;> omega) | fail) only [Try.ntmps37,Try.results37,env_P,env_L,d0,cl,hzc,c33_fold,cz_fold,cC_over _ _ _ czz ht czl,cC_cut _ _ ht,cC_0,TQ.down,resE,oneV, ↓reduceIte,reduceCtorEq,uB,uE,uL,uA,uM,uS,vL,vK,vE,vA,vS]
 exact ⟨_,rfl⟩
theorem rcnew (d : Nat) (h : Heap) (n : Nat) (t : List Nat) (ht : t.length = 32) (hn : n <= 4611686018427387904) : G (callD env (d + 1) 82 [.agg (cC n t)] h) fun v h' => ∃ cx,v = .tup [.ptr cx 0, .int .i64 0] /\ Keeps h h' /\ h.next <= cx /\ cx < h'.next /\ ∀ (C : Col) (k : Nat),(∀ j,h.next <= j -> j < h'.next -> C j = k) -> RCellI h' C k cx 1 (n,t) := by
 refine G.gen fun Q hX => ?_
 have d0 : decide ((4611686018427387904 : Int) < (n : Int)) = false := decide_eq_false (by omega)
 have cl := cC_len n t ht
 have czl : czz.length = 32 := rfl
 have hzc := cC_len 0 czz czl
 have e0 : (cC 0 czz ++ [AV.nilslice]).set 0 (.int .u64 (n : Int)) = cC n czz ++ [AV.nilslice] := rfl
 have e1 := cC_app_over n czz t czl ht AV.nilslice
 have e2 : ∀ u : AV,(cC n t ++ [AV.nilslice]).set 33 u = cC n t ++ [u] := fun u => by
  rw [List.set_append_right _ _ (by rw [cl]; omega),cl]
  rfl
 rw [callD_run (E := env) [] (by kernel_rfl) Try.func82 rfl (by rw [Try.ntmps82]; simp) (by kernel_rfl)]; simp (disch := first | omega | (simp only [SD.down,uA,uL] <;> omega) | fail) only [Try.ntmps82,Try.results82,env_P,env_L,d0,ht,cl,hzc,e0,e1,e2,c33_fold,cz_fold,cC_over _ _ _ czz ht czl,cC_cut _ _ ht,cC_0,bs141G _ _ ht,cC_lab _ _ ht,TQ.down,resE,oneV, ↓reduceIte,reduceCtorEq,uB,uE,uL,uA,uM,uS,vL,vK,vE,vA,vS]
 subst hX
 refine G.ok ⟨h.next + 2,rfl,⟨by simp (disch := first | omega | (simp only [SD.down,uA,uL] <;> omega) | fail) only [TQ.down,resE,oneV, ↓reduceIte,reduceCtorEq,uB,uE,uL,uA,uM,uS,vL,vK,vE,vA,vS]; omega,fun j hj => by simp (disch := first | omega | (simp only [SD.down,uA,uL] <;> omega) | fail) only [TQ.down,resE,oneV, ↓reduceIte,reduceCtorEq,uB,uE,uL,uA,uM,uS,vL,vK,vE,vA,vS]⟩,by omega,by simp (disch := first | omega | (simp only [SD.down,uA,uL] <;> omega) | fail) only [TQ.down,resE,oneV, ↓reduceIte,reduceCtorEq,uB,uE,uL,uA,uM,uS,vL,vK,vE,vA,vS]; omega,fun C k hC => ⟨.slice (h.next + 1) 0 1 1,h.next + 1,[(n,t)],by simp (disch := first | omega | (simp only [SD.down,uA,uL] <;> omega) | fail) only [TQ.down,resE,oneV, ↓reduceIte,reduceCtorEq,uB,uE,uL,uA,uM,uS,vL,vK,vE,vA,vS]; omega,hC _ (by omega) (by simp (disch := first | omega | (simp only [SD.down,uA,uL] <;> omega) | fail) only [TQ.down,resE,oneV, ↓reduceIte,reduceCtorEq,uB,uE,uL,uA,uM,uS,vL,vK,vE,vA,vS]; omega),by simp (disch := first | omega | (simp only [SD.down,uA,uL] <;> omega) | fail) only [TQ.down,resE,oneV, ↓reduceIte,reduceCtorEq,uB,uE,uL,uA,uM,uS,vL,vK,vE,vA,vS], .inl ⟨(n,t),rfl,rfl,by simp (disch := first | omega | (simp only [SD.down,uA,uL] <;> omega) | fail) only [TQ.down,resE,oneV, ↓reduceIte,reduceCtorEq,uB,uE,uL,uA,uM,uS,vL,vK,vE,vA,vS],by simp (disch := first | omega | (simp only [SD.down,uA,uL] <;> omega) | fail) only [TQ.down,resE,oneV, ↓reduceIte,reduceCtorEq,uB,uE,uL,uA,uM,uS,vL,vK,vE,vA,vS]; omega⟩,hC _ (by omega) (by simp (disch := first | omega | (simp only [SD.down,uA,uL] <;> omega) | fail) only [TQ.down,resE,oneV, ↓reduceIte,reduceCtorEq,uB,uE,uL,uA,uM,uS,vL,vK,vE,vA,vS]; omega),by simp,by simp [ht],by simp⟩⟩
theorem cidxN (d : Nat) (h : Heap) (K : Nat) (ps : List Nat) (hn : ps.length <= 70) (hK : h.get K = some (.cells (ps.map (AV.ptr · 0)) 1 false)) (hm : ∀ (i p : Nat),ps[i]? = some p -> ∃ n a b lgv mk f hu,0 < n /\ h.get p = some (.cells (memG n a b lgv mk f hu) 0 false)) :
  G (callD env (d + 4) 101 [.eslice K 0 0 ps.length, .func (.func 77) [] []] h) fun v h' => v = .int .i64 (-1) /\ h' = h := by
 refine G.gen fun Q hX => ?_
 rw [callD_run (E := env) [] (by kernel_rfl) Try.func101 rfl (by rw [Try.ntmps101]; simp) (by kernel_rfl)]; simp (disch := first | omega | (simp only [SD.down,uA,uL] <;> omega) | fail) only [Try.ntmps101,Try.results101,env_P,env_L,lncL,lnoL,lneL,TQ.down,resE,oneV, ↓reduceIte,reduceCtorEq,uB,uE,uL,uA,uM,uS,vL,vK,vE,vA,vS]
 rw [run_loop]
 refine loop_ind (fun j σ hh => ∃ q,q + j = ps.length /\ σ 0 = .eslice K 0 0 ps.length /\ σ 1 = .func (.func 77) [] [] /\ σ 6 = .eslice K 0 0 ps.length /\ σ 7 = .int .i64 (ps.length : Int) /\ σ 8 = .int .i64 (q : Int) /\ hh = h) ?_ ?_ ps.length _ _ _ (by simp; omega) ?_
 ·rintro mm σ hh ⟨q,hq,s0,s1,s6,s7,s8,rfl⟩
  obtain rfl : q = ps.length := by omega
  simp (disch := first | omega | (simp only [SD.down,uA,uL] <;> omega) | fail) only [run_it,s0,s1,s6,s7,s8,env_P,env_L,TQ.down,resE,oneV, ↓reduceIte,reduceCtorEq,uB,uE,uL,uA,uM,uS,vL,vK,vE,vA,vS]
  subst hX
  exact G.ok ⟨rfl,rfl⟩
 ·rintro j mm σ hh ⟨q,hq,s0,s1,s6,s7,s8,rfl⟩ ih
  have hql : q < ps.length := by omega
  obtain ⟨p,hp⟩ : ∃ p,ps[q]? = some p := ⟨_,List.getElem?_eq_getElem hql⟩
  have hpm := ptrs_get hp
  obtain ⟨n,a,b,lgv,mk,f,hu,n0,gp⟩ := hm q p hp
  unfold memG at gp
  have d0 : decide (0 < (n : Int)) = true := decide_eq_true (by omega)
  have d1 : decide ((n : Int) = 0) = false := decide_eq_false (by omega)
  simp (disch := first | omega | (simp only [SD.down,uA,uL] <;> omega) | fail) only [run_it,s0,s1,s6,s7,s8,hK,hpm,hql,gp,d0,d1,in77,Try.f77,in50,Try.f50,in59,Try.f59,env_P,env_L,TQ.down,resE,oneV, ↓reduceIte,reduceCtorEq,uB,uE,uL,uA,uM,uS,vL,vK,vE,vA,vS]
  exact ih _ _ ⟨q + 1,by omega,by simp (disch := omega) only [s0,TH.down,uA,uB],by simp (disch := omega) only [s1,TH.down,uA,uB],by simp (disch := omega) only [s6,TH.down,uA,uB],by simp (disch := omega) only [s7,TH.down,uA,uB],by simp (disch := omega) only [TH.down,uA,uB],rfl⟩
 ·exact ⟨0,by omega,by simp (disch := omega) only [TQ.down,resE,oneV, ↓reduceIte,reduceCtorEq,uB,uE,uL,uA,uM,vE],by simp (disch := omega) only [TQ.down,resE,oneV, ↓reduceIte,reduceCtorEq,uB,uE,uL,uA,uM,vE],by simp (disch := omega) only [TQ.down,resE,oneV, ↓reduceIte,reduceCtorEq,uB,uE,uL,uA,uM,vE],by simp (disch := omega) only [TQ.down,resE,oneV, ↓reduceIte,reduceCtorEq,uB,uE,uL,uA,uM,vE],by simp (disch := omega) only [TQ.down,resE,oneV, ↓reduceIte,reduceCtorEq,uB,uE,uL,uA,uM,vE],rfl⟩
theorem ccfN (d : Nat) (h : Heap) (K : Nat) (ps : List Nat) (hn : ps.length <= 70) (hK : h.get K = some (.cells (ps.map (AV.ptr · 0)) 1 false)) (hm : ∀ (i p : Nat),ps[i]? = some p -> ∃ n a b lgv mk f hu,0 < n /\ h.get p = some (.cells (memG n a b lgv mk f hu) 0 false)) :
  G (callD env (d + 5) 76 [.eslice K 0 0 ps.length, .func (.func 77) [] []] h) fun v h' => v = .bool false /\ h' = h := by
 refine G.gen fun Q hX => ?_
 rw [callD_run (E := env) [] (by kernel_rfl) Try.func76 rfl (by rw [Try.ntmps76]; simp) (by kernel_rfl)]; simp (disch := first | omega | (simp only [SD.down,uA,uL] <;> omega) | fail) only [Try.ntmps76,Try.results76,env_P,env_L,TQ.down,resE,oneV, ↓reduceIte,reduceCtorEq,uB,uE,uL,uA,uM,uS,vL,vK,vE,vA,vS]
 refine G.call (cidxN d h K ps hn hK hm) ?_
 rintro v h1 ⟨rfl,rfl⟩
 simp (disch := omega) only [TQ.down,resE,oneV, ↓reduceIte,reduceCtorEq,uB,uE,uL,uA,uM,vE]
 subst hX
 exact G.ok ⟨rfl,rfl⟩
theorem ccf0 (d : Nat) (h : Heap) : callD env (d + 5) 76 [.nilslice, .func (.func 77) [] []] h = some (.bool false,h) := by
 rw [callD_run (E := env) [] (by kernel_rfl) Try.func76 rfl (by rw [Try.ntmps76]; simp) (by kernel_rfl)]; simp (maxSteps := 2000000) (implicitDefEqProofs := false) (disch := first | omega | (simp only [SD.down,uA,uL] <;> omega) | fail) only [Try.ntmps76,Try.results76,env_P,env_L,in101,Try.f101,TA.down,TL.down,same_nilslice,resE,oneV, ↓reduceIte,reduceCtorEq,uB,uE,uL,uA,uM,uS,uN,uX,uO,vR,vD,vL,vK,vE,vA,vM,vT,vS,run_loop,run_it]
theorem clnN (d : Nat) (h : Heap) (K : Nat) (ps : List Nat) (h0 : 0 < ps.length) (hn : ps.length <= 70) (Kl : K < h.next) (hK : h.get K = some (.cells (ps.map (AV.ptr · 0)) 1 false)) : ∃ h',callD env (d + 1) 80 [.eslice K 0 0 ps.length] h = some (.eslice (h.next + 1) 0 0 ps.length,h') /\ h'.next = h.next + 2 /\ h'.get (h.next + 1) = some (.cells (ps.map (AV.ptr · 0)) 1 false) /\ Keeps h h' := by
 obtain ⟨n,hn1⟩ : ∃ n,ps.length = n + 1 := ⟨ps.length - 1,by omega⟩
 have hq' : (h.new (.cells [] 0 false)).get K = some (.cells (ps.map (AV.ptr · 0)) 1 false) := by simp (disch := omega) only [TH.down,uA,uB]; exact hK
 have hsc : allSc (ps.map (AV.ptr · 0)) = true := by
  simp only [allSc,List.all_map]
  rw [List.all_eq_true]
  exact fun x _ => rfl
 have ea := fun k o => app_capE (P := Try.prog) (h := h.new (.cells [] 0 false)) (k := k) (o := o) (i := 0) (n := n) el50 (by omega) hq' (cut_all (by simp [hn1])) (by simp [hn1]) hsc
 rw [hn1]
 have nqe : ∀ q o l c,binE Try.prog .eql 50 (.eslice q o l c) .nilslice = some (.bool false) := fun q o l c => by kernel_rfl
 refine ⟨_,by rw [callD_run (E := env) [] (by kernel_rfl) Try.func80 rfl (by rw [Try.ntmps80]; simp) (by kernel_rfl)]; simp (disch := first | omega | (simp only [SD.down,uA,uL] <;> omega) | fail) only [Try.ntmps80,Try.results80,env_P,env_L,nqe,b050,cls_append,ap50,ea,TQ.down,resE,oneV, ↓reduceIte,reduceCtorEq,uB,uE,uL,uA,uM,uS,vL,vK,vE,vA,vS]; rfl, ?_, ?_, ?_⟩
 ·simp (disch := omega) only [TH.down,uA,uB]
 ·simp (disch := first | omega | (simp only [SD.down,uA,uL] <;> omega) | fail) only [TQ.down,resE,oneV, ↓reduceIte,reduceCtorEq,uB,uE,uL,uA,uM,uS,vL,vK,vE,vA,vS]
 ·exact ⟨by simp (disch := first | omega | (simp only [SD.down,uA,uL] <;> omega) | fail) only [TQ.down,resE,oneV, ↓reduceIte,reduceCtorEq,uB,uE,uL,uA,uM,uS,vL,vK,vE,vA,vS]; omega,fun j hj => by simp (disch := first | omega | (simp only [SD.down,uA,uL] <;> omega) | fail) only [TQ.down,resE,oneV, ↓reduceIte,reduceCtorEq,uB,uE,uL,uA,uM,uS,vL,vK,vE,vA,vS]⟩
set_option maxHeartbeats 1000000 in
theorem bnewN (d : Nat) (h : Heap) (KM : Nat) (ps : List Nat) (n0 : 0 < ps.length) (n64 : ps.length <= 64) (Kl : KM < h.next) (hKM : h.get KM = some (.cells (ps.map (AV.ptr · 0)) 1 false)) (hm : ∀ (i p : Nat),ps[i]? = some p -> p < h.next /\ ∃ n a b lgv mk f hu,0 < n /\ h.get p = some (.cells (memG n a b lgv mk f hu) 0 false)) (cp Kc : Nat) (hv : AV) (x : Nat × List Nat) (hcn : cp < h.next) (hc : h.get cp = some (.cells [hv] 0 false)) (hh0 : HisIs h hv Kc [x]) (hx : x.2.length = 32) (sv : AV) (l : List Stp) (hsd : ∀ s ∈ l,s.data.length = 64) (hsn : l.length < 4000) (hpk : ∀ s ∈ l,s.picks.length <= 140737488351232) (hst : StA h sv l) (kb : Nat) : G (callD env (d + 7) 39 [.eslice KM 0 0 ps.length, .ptr cp 0,sv] h) fun v h' => ∃ β Ms stv,v = .tup [.ptr β 0, .int .i64 0] /\ h.next <= β /\ h.next <= Ms /\ β < h'.next /\ Ms < h'.next /\ β ≠ Ms /\ h'.get β = some (.cells [.eslice Ms 0 0 ps.length, .ptr cp 0,stv, .bool false, .nilslice] 0 false) /\ h'.get Ms = some (.cells (ps.map (AV.ptr · 0)) 1 false) /\ Keeps h h' /\ ∀ C : Col,(∀ j,h.next <= j -> C j = kb) -> StI h' C kb stv [β,Ms] l := by
 refine G.gen fun Q hX => ?_
 have czl : czz.length = 32 := rfl
 have hvc := cC_len x.1 x.2 hx
 have hvo := cC_over x.1 0 x.2 czz hx czl
 have hvcut := cC_cut x.1 x.2 hx
 have hzc := cC_len 0 czz czl
 have dl0 : decide ((ps.length : Int) < 1) = false := decide_eq_false (by omega)
 have dl1 : decide ((64 : Int) < (ps.length : Int)) = false := decide_eq_false (by omega)
 have svok : okv sv = some sv := by
  rcases hst with ⟨_,rfl | ⟨q,o,n,rfl⟩⟩ | ⟨K,vs,junk,ext,ro,_,⟨n,rfl⟩ | rfl,_⟩ <;> rfl
 rw [callD_run (E := env) [] (by kernel_rfl) Try.func39 rfl (by rw [Try.ntmps39]; simp) (by kernel_rfl)]; simp (disch := first | omega | (simp only [SD.down,uA,uL] <;> omega) | fail) only [Try.ntmps39,Try.results39,env_P,env_L,c33_fold,cz_fold,hvc,hvo,hvcut,hzc,TQ.down,resE,oneV, ↓reduceIte,reduceCtorEq,uB,uE,uL,uA,uM,uS,vL,vK,vE,vA,vS]
 refine G.call (cell_read (d + 4) h cp Kc hv [x] x hc hh0 (by simp [hx]) rfl hcn (by simp)) ?_
 rintro v h1 ⟨rfl,k1⟩
 have n1 := k1.1
 simp (disch := first | omega | (simp only [SD.down,uA,uL] <;> omega) | fail) only [c33_fold,cz_fold,hvc,hvo,hvcut,hzc,TQ.down,resE,oneV, ↓reduceIte,reduceCtorEq,uB,uE,uL,uA,uM,uS,vL,vK,vE,vA,vS]
 have kp0 : Keeps h ((h1.new (Blk.cells (cC 0 czz) 0 false)).put h1.next (some (Blk.cells (cC x.1 x.2) 0 false))) := ⟨by simp (maxSteps := 2000000) (implicitDefEqProofs := false) (disch := first | omega | (simp only [SD.down,uA,uL] <;> omega) | fail) only [TQ.down,resE,oneV, ↓reduceIte,reduceCtorEq,uB,uE,uL,uA,uM,uS,uN,uX,uO,vR,vD,vL,vK,vE,vA,vM,vT,vS]; omega,fun j hj => by simp (maxSteps := 2000000) (implicitDefEqProofs := false) (disch := first | omega | (simp only [SD.down,uA,uL] <;> omega) | fail) only [TQ.down,resE,oneV, ↓reduceIte,reduceCtorEq,uB,uE,uL,uA,uM,uS,uN,uX,uO,vR,vD,vL,vK,vE,vA,vM,vT,vS]; exact k1.2 j hj⟩
 generalize (h1.new (Blk.cells (cC 0 czz) 0 false)).put h1.next (some (Blk.cells (cC x.1 x.2) 0 false)) = g0 at kp0 ⊢
 refine G.call (ccfN (d + 1) g0 KM ps (by omega) ((kp0.2 KM Kl).trans hKM) (fun i p hp => by obtain ⟨pl,n,a,b,lgv,mk,f,hu,n0,g⟩ := hm i p hp; exact ⟨n,a,b,lgv,mk,f,hu,n0,(kp0.2 p pl).trans g⟩)) ?_
 rintro v h2x ⟨rfl,e2⟩
 rw [e2]
 clear e2 h2x
 simp (disch := omega) only [lncL,lnoL,lneL,dl0,dl1,svok,TQ.down,resE,oneV, ↓reduceIte,reduceCtorEq,uB,uE,uL,uA,uM,vE]
 refine G.call (clone_st (d + 5) g0 sv l hsd hsn (hst.keep kp0)) ?_
 rintro v h2 ⟨k2,hcs⟩
 have hlen : lenE Try.prog 43 v = some (.int .i64 (l.length : Int)) := by
  rcases hcs with ⟨rfl,rfl | ⟨q,o,n,rfl⟩⟩ | ⟨K,vs,_,rfl,_⟩
  ·exact lnn43
  ·exact lns43 ..
  ·exact lne43 ..
 have vok : okv v = some v := by
  rcases hcs with ⟨rfl,rfl | ⟨q,o,n,rfl⟩⟩ | ⟨K,vs,_,rfl,_⟩ <;> rfl
 have vcl : v.cells = [v] := by
  rcases hcs with ⟨rfl,rfl | ⟨q,o,n,rfl⟩⟩ | ⟨K,vs,_,rfl,_⟩ <;> rfl
 have vsc : isSc v = true := by
  rcases hcs with ⟨rfl,rfl | ⟨q,o,n,rfl⟩⟩ | ⟨K,vs,_,rfl,_⟩ <;> rfl
 simp (disch := omega) only [hlen,vok,TQ.down,resE,oneV, ↓reduceIte,reduceCtorEq,uB,uE,uL,uA,uM,vE]
 rw [run_loop]
 have kp2 : Keeps h h2 := kp0.trans k2
 refine loop_ind (fun j σ hh => ∃ q,q + j = l.length /\ σ 0 = .eslice KM 0 0 ps.length /\ σ 1 = .ptr cp 0 /\ σ 10 = v /\ σ 34 = .int .i64 (l.length : Int) /\ σ 35 = .int .i64 (q : Int) /\ Keeps g0 hh /\ ((l = [] /\ (v = .nilslice \/ ∃ q o n,v = .slice q o 0 n)) \/ ∃ (K : Nat) (ws : List AV),v = .eslice K 0 0 l.length /\ g0.next <= K /\ K < hh.next /\ ws.length = l.length /\ hh.get K = some (.cells (stpsC (l.zip ws)) 70 false) /\ ∀ (i : Nat) (s : Stp) (u : AV),l[i]? = some s -> ws[i]? = some u -> (i < q -> PkN h.next hh K u s.picks) /\ (q <= i -> PickA g0 u s.picks))) ?_ ?_ l.length _ _ _ (by simp; omega) ?_
 ·rintro mm σ hh ⟨q,hq,s0,s1,s10,s34,s35,kg,hst2⟩
  have kh := kp0.trans kg
  obtain rfl : q = l.length := by omega
  simp (disch := first | omega | (simp only [SD.down,uA,uL] <;> omega) | fail) only [run_it,s0,s1,s10,s34,s35,env_P,env_L,TQ.down,resE,oneV, ↓reduceIte,reduceCtorEq,uB,uE,uL,uA,uM,uS,vL,vK,vE,vA,vS]
  have kn := kh.1
  obtain ⟨hc2,q1,qn,qg,qk⟩ := clnN (d + 5) hh KM ps n0 (by omega) (by omega) ((kh.2 _ Kl).trans hKM)
  simp (disch := first | omega | (simp only [SD.down,uA,uL] <;> omega) | fail) only [q1,s0,s1,s10,s34,s35,vok,vcl,vsc,env_P,env_L,TQ.down,resE,oneV, ↓reduceIte,reduceCtorEq,uB,uE,uL,uA,uM,uS,vL,vK,vE,vA,vS]
  subst hX
  refine G.ok ⟨hc2.next,hh.next + 1,v,rfl,by omega,by omega,by simp (disch := omega) only [TH.down,uA,uB]; omega,by simp (disch := omega) only [TH.down,uA,uB]; omega,by omega,by simp (disch := omega) only [TH.down,uA,uB],by simp (disch := omega) only [TH.down,uA,uB]; exact qg,⟨by simp (disch := omega) only [TH.down,uA,uB]; omega,fun j hj => by simp (disch := omega) only [TH.down,uA,uB]; exact (qk.2 j (by omega)).trans (kh.2 j hj)⟩,fun C hC => ?_⟩
  rcases hst2 with ⟨e0,e1⟩ | ⟨K,ws,rfl,x1,x2,x3,x4,x5⟩
  ·exact .inl ⟨e0,e1⟩
  ·refine .inr ⟨K,ws,rfl,by simp (disch := omega) only [TH.down,uA,uB]; omega,hC _ (by have := kp0.1; omega),fun e he => ?_,x3,by simp (disch := omega) only [TH.down,uA,uB]; exact (qk.2 K (by omega)).trans x4,fun i s u h1 h2 => ?_⟩
   ·simp only [List.mem_cons,List.not_mem_nil,or_false] at he; omega
   ·rcases (x5 i s u h1 h2).1 (List.getElem?_eq_some_iff.1 h1).1 with y | ⟨K',rfl,y1,y2,y3,y4⟩
    ·exact .inl y
    ·refine .inr ⟨K',rfl,by simp (disch := omega) only [TH.down,uA,uB]; omega,hC _ y1,fun e he => ?_,by simp (disch := omega) only [TH.down,uA,uB]; exact (qk.2 K' (by omega)).trans y4⟩
     simp only [List.mem_cons,List.not_mem_nil,or_false] at he; omega
 ·rintro j mm σ hh ⟨q,hq,s0,s1,s10,s34,s35,kg,hst2⟩ ih
  have kh := kp0.trans kg
  have hql : q < l.length := by omega
  rcases hst2 with ⟨e0,_⟩ | ⟨K,ws,rfl,x1,x2,x3,x4,x5⟩
  ·rw [e0] at hql; simp at hql
  obtain ⟨s,hs⟩ : ∃ s,l[q]? = some s := ⟨l[q]'hql,List.getElem?_eq_getElem hql⟩
  obtain ⟨u,hu⟩ : ∃ u,ws[q]? = some u := ⟨ws[q]'(by omega),List.getElem?_eq_getElem (by omega)⟩
  have hsl := hsd s (List.mem_of_getElem? hs)
  have hsp := hpk s (List.mem_of_getElem? hs)
  have hzip : (l.zip ws)[q]? = some (s,u) := by rw [List.getElem?_zip_eq_some]; exact ⟨hs,hu⟩
  have hzl : ∀ x ∈ l.zip ws,(x.1.C x.2).length = 70 := fun x hx => x.1.C_len x.2 (hsd _ (List.of_mem_zip hx).1)
  have hpu := (x5 q s u hs hu).2 (Nat.le_refl _)
  obtain ⟨uok,usc,usm⟩ := hpu.ok
  have h69 : (stpsC (l.zip ws))[q * 70 + 69]? = some u := by
   have := flat_get (fun x : Stp × AV => x.1.C x.2) 70 (l.zip ws) q 69 (s,u) hzl hzip (by omega)
   refine this.trans ?_
   show (B s.data ++ [u])[64]? = _
   rw [List.getElem?_append_right (by simp [B_len,hsl])]
   simp [B_len,hsl]
  have hll := stps_len hsd x3
  have hlt : q * 70 + 69 < (stpsC (l.zip ws)).length := by rw [hll]; omega
  simp (disch := first | omega | (simp only [SD.down,uA,uL] <;> omega) | fail) only [run_it,s0,s1,s10,s34,s35,x4,h69,uok,env_P,env_L,TQ.down,resE,oneV, ↓reduceIte,reduceCtorEq,uB,uE,uL,uA,uM,uS,vL,vK,vE,vA,vS]
  refine G.call (clone_b (d + 5) hh u s.picks hsp (hpu.keep kg)) ?_
  rintro v3 h3 ⟨k3,hv3⟩
  have hn3 := k3.1
  have gK := (k3.2 _ x2).trans x4
  have v3ok : okv v3 = some v3 /\ isSc v3 = true /\ v3.cells = [v3] := by
   rcases hv3 with ⟨_,rfl | ⟨q,o,n,rfl⟩⟩ | ⟨K',rfl,_⟩ <;> exact ⟨rfl,rfl,rfl⟩
  obtain ⟨w1,w2,w3⟩ := v3ok
  have eset : (stpsC (l.zip ws)).set (q * 70 + 69) v3 = stpsC (l.zip (ws.set q v3)) := by
   rw [<- zip_set l ws q s v3 hs]
   exact flat_set (fun x : Stp × AV => x.1.C x.2) 70 (l.zip ws) q 69 (s,u) (s,v3) v3 hzl hzip (by omega) (s.C_set u v3 hsl)
  simp (disch := first | omega | (simp only [SD.down,uA,uL] <;> omega) | fail) only [s0,s1,s10,s34,s35,gK,w1,w2,w3,hlt,eset,env_P,env_L,TQ.down,resE,oneV, ↓reduceIte,reduceCtorEq,uB,uE,uL,uA,uM,uS,vL,vK,vE,vA,vS]
  have kfin : Keeps g0 (h3.put K (some (Blk.cells (stpsC (l.zip (ws.set q v3))) 70 false))) := ⟨by have := kg.1; simp (disch := omega) only [TH.down,uA,uB]; omega,fun j hj => by
   have := kp0.1
   have e1 : j ≠ K := by omega
   simp (disch := omega) only [TH.down,uA,uB]
   exact (k3.2 j (by have := kg.1; omega)).trans (kg.2 j hj)⟩
  refine ih _ _ ⟨q + 1,by omega,by simp (disch := omega) only [s0,TH.down,uA,uB],by simp (disch := omega) only [s1,TH.down,uA,uB],by simp (disch := omega) only [s10,TH.down,uA,uB],by simp (disch := omega) only [s34,TH.down,uA,uB],by simp (disch := omega) only [TH.down,uA,uB],kfin, .inr ⟨K,ws.set q v3,rfl,x1,by simp (disch := omega) only [TH.down,uA,uB]; omega,by rw [List.length_set]; exact x3,by simp (disch := omega) only [TH.down,uA,uB],fun i s' u' h1 h2 => ?_⟩⟩
  rw [List.getElem?_set] at h2
  by_cases hiq : q = i
  ·subst hiq
   rw [if_pos rfl,if_pos (by omega)] at h2
   cases h2
   rw [hs] at h1; cases h1
   refine ⟨fun _ => ?_,fun h => by omega⟩
   rcases hv3 with y | ⟨K',rfl,y1,y2,y3⟩
   ·exact .inl y
   ·have hkn := kh.1
    exact .inr ⟨K',rfl,by omega,by simp (disch := omega) only [TH.down,uA,uB]; omega,by omega,by simp (disch := omega) only [TQ.down,resE,oneV, ↓reduceIte,reduceCtorEq,uB,uE,uL,uA,uM,vE]; exact y3⟩
  ·rw [if_neg hiq] at h2
   obtain ⟨z1,z2⟩ := x5 i s' u' h1 h2
   refine ⟨fun hi => ?_,fun hi => z2 (by omega)⟩
   rcases z1 (by omega) with y | ⟨K',rfl,y1,y2,y3,y4⟩
   ·exact .inl y
   ·refine .inr ⟨K',rfl,y1,by simp (disch := omega) only [TQ.down,resE,oneV, ↓reduceIte,reduceCtorEq,uB,uE,uL,uA,uM,vE]; omega,y3, ?_⟩
    simp (disch := omega) only [TQ.down,resE,oneV, ↓reduceIte,reduceCtorEq,uB,uE,uL,uA,uM,vE]
    exact (k3.2 _ y2).trans y4
 ·refine ⟨0,by omega,by simp (disch := omega) only [TQ.down,resE,oneV, ↓reduceIte,reduceCtorEq,uB,uE,uL,uA,uM,vE],by simp (maxSteps := 2000000) (implicitDefEqProofs := false) (disch := first | omega | (simp only [SD.down,uA,uL] <;> omega) | fail) only [TQ.down,resE,oneV, ↓reduceIte,reduceCtorEq,uB,uE,uL,uA,uM,uS,uN,uX,uO,vR,vD,vL,vK,vE,vA,vM,vT,vS],by simp (maxSteps := 2000000) (implicitDefEqProofs := false) (disch := first | omega | (simp only [SD.down,uA,uL] <;> omega) | fail) only [TQ.down,resE,oneV, ↓reduceIte,reduceCtorEq,uB,uE,uL,uA,uM,uS,uN,uX,uO,vR,vD,vL,vK,vE,vA,vM,vT,vS],by simp (maxSteps := 2000000) (implicitDefEqProofs := false) (disch := first | omega | (simp only [SD.down,uA,uL] <;> omega) | fail) only [TQ.down,resE,oneV, ↓reduceIte,reduceCtorEq,uB,uE,uL,uA,uM,uS,uN,uX,uO,vR,vD,vL,vK,vE,vA,vM,vT,vS],by simp (maxSteps := 2000000) (implicitDefEqProofs := false) (disch := first | omega | (simp only [SD.down,uA,uL] <;> omega) | fail) only [TQ.down,resE,oneV, ↓reduceIte,reduceCtorEq,uB,uE,uL,uA,uM,uS,uN,uX,uO,vR,vD,vL,vK,vE,vA,vM,vT,vS],k2, ?_⟩
  rcases hcs with x | ⟨K,vs,h0,rfl,y1,y2,y3,y4,y5⟩
  ·exact .inl x
  ·have := kp0.1
   exact .inr ⟨K,vs,rfl,y1,y2,y3,y4,fun i s u h1 h2 => ⟨fun h => by omega,fun _ => y5 i s u h1 h2⟩⟩
end Go.Proofs.Ytfjcfjfgamajkaa
namespace Go.Aw
open Go Go.Ai
theorem bin_and63 {P : Program} {u : TypeId} (x : Int) : binE P .and u (.int .i64 x) (.int .i64 63) = some (.int .i64 (((x % 64).toNat : Nat) : Int)) := by
 have key : bitsA .and .i64 x 63 = some (((x % 64).toNat : Nat) : Int) := by
  have slow : IntKind.wrap .i64 ((BitVec.ofInt (IntKind.i64).bits x &&& BitVec.ofInt (IntKind.i64).bits 63).toNat : Int) = (((x % 64).toNat : Nat) : Int) := by
   have e1 : (BitVec.ofInt (IntKind.i64).bits x &&& BitVec.ofInt (IntKind.i64).bits 63).toNat = (x % 64).toNat := by
    show (BitVec.ofInt 64 x &&& BitVec.ofInt 64 63).toNat = _
    rw [BitVec.toNat_and,BitVec.toNat_ofInt,BitVec.toNat_ofInt]
    have e7 : ((63 : Int) % ((2 ^ 64 : Nat) : Int)).toNat = 2 ^ 6 - 1 := by decide
    rw [e7,Nat.and_two_pow_sub_one_eq_mod]
    omega
   rw [e1]
   have hlt : (x % 64).toNat < 64 := by omega
   have hd : ∀ r : Fin 64,IntKind.wrap .i64 ((r.val : Nat) : Int) = ((r.val : Nat) : Int) := by decide
   exact hd ⟨_,hlt⟩
  cases x with
  | negSucc a => show some (IntKind.wrap .i64 _) = _; rw [slow]
  | ofNat a =>
   show (match Nat.blt a (top .i64),Nat.blt 63 (top .i64) with
    | true,true => some (Int.ofNat (Nat.land a 63))
    | _,_ => some (IntKind.wrap .i64 _)) = _
   cases h : Nat.blt a (top .i64) with
   | false => show some (IntKind.wrap .i64 _) = _; rw [slow]
   | true =>
    show some (Int.ofNat (Nat.land a 63)) = _
    have : Nat.land a 63 = a % 64 := Nat.and_two_pow_sub_one_eq_mod a 6
    rw [this]
    simp only [Int.ofNat_eq_natCast]
    congr 1
 simp only [binE,binK,intOpK,key]
 simp [fI_eq]
end Go.Aw
namespace Go.Proofs.Ytfjcfjfgamajkaa
open Go Go.Ai Go.Aw Go.Proofs
open Nat renaming reduceBEq -> uB,reduceEqDiff -> uE,reduceLT -> uL,reduceAdd -> uA,reduceMul -> uM,reduceSub -> uS,reduceAnd -> uN,reduceXor -> uX,reduceOr -> uO
open Int renaming reduceMod -> vR,reduceDiv -> vD,reduceLT -> vL,reduceLE -> vK,reduceEq -> vE,reduceAdd -> vA,reduceMul -> vM,reduceToNat -> vT,reduceSub -> vS
set_option linter.unusedSimpArgs false
set_option linter.unusedVariables false
set_option maxRecDepth 10000
def SecI (h : Heap) (v : AV) (l : List Int) : Prop := (l = [] /\ v = .nilslice) \/ ∃ q n ro,v = .slice q 0 l.length n /\ q < h.next /\ h.get q = some (.cells (l.map (AV.int .i64 ·)) 0 ro)
def caseC (sec : AV) (n : Nat) (t : List Nat) (st : AV) : List AV := sec :: (cC n t ++ [st])
theorem SecI.ok {h : Heap} {v : AV} {l : List Int} (x : SecI h v l) : okv v = some v /\ AV.same v v = true /\ isSc v = true := by
 rcases x with ⟨rfl,rfl⟩ | ⟨q,n,ro,rfl,_⟩
 ·exact ⟨rfl,rfl,rfl⟩
 ·exact ⟨rfl,same_slice ..,rfl⟩
theorem lncI {dd : Option Tmp} {t : TypeId} {p : String} {a : Array Edge} {g : Option (Nat × Bool)} (x : Operand) : cls Try.prog ⟨dd, .call ⟨.builtin .len,#[x],#[28]⟩,t,p,a,g⟩ = .p := cls_len1 Try.underlying28 x
theorem lnoI {call : CallK} {ρ : Operand -> AV} {h : Heap} {dd : Option Tmp} {t : TypeId} {p : String} {a : Array Edge} {g : Option (Nat × Bool)} (x : Operand) : opE Try.prog call ρ ⟨dd, .call ⟨.builtin .len,#[x],#[28]⟩,t,p,a,g⟩ h = th (okv (ρ x)) fun v => th (lenE Try.prog 28 v) fun v => some (v,h) := opE_len1 Try.underlying28 x
theorem SecI.len {h : Heap} {v : AV} {l : List Int} (x : SecI h v l) : lenE Try.prog 28 v = some (.int .i64 (l.length : Int)) := by
 rcases x with ⟨rfl,rfl⟩ | ⟨q,n,ro,rfl,_⟩
 ·exact len_nilslice Try.underlying28
 ·exact len_slice Try.underlying28 ..
def secN (z : Int) : Nat := (z % 64).toNat + 1
def PL (X : Heap) (lv : AV) (ps : List Nat) : Prop := (ps = [] /\ lv = .nilslice) \/ ∃ K,ps ≠ [] /\ lv = .eslice K 0 0 ps.length /\ K < X.next /\ X.get K = some (.cells (ps.map (AV.ptr · 0)) 1 false)
theorem PL.ok {X : Heap} {lv : AV} {ps : List Nat} (x : PL X lv ps) : okv lv = some lv /\ AV.same lv lv = true /\ lv.cells = [lv] /\ isSc lv = true := by
 rcases x with ⟨_,rfl⟩ | ⟨K,_,rfl,_⟩
 ·exact ⟨rfl,rfl,rfl,rfl⟩
 ·exact ⟨rfl,same_eslice ..,rfl,rfl⟩
theorem PL.keep {X Y : Heap} {lv : AV} {ps : List Nat} (x : PL X lv ps) (n : X.next <= Y.next) (g : ∀ j,j < X.next -> lv = .eslice j 0 0 ps.length -> Y.get j = X.get j) : PL Y lv ps := by
 rcases x with x | ⟨K,h0,rfl,h1,h2⟩
 ·exact .inl x
 ·exact .inr ⟨K,h0,rfl,Nat.lt_of_lt_of_le h1 n,(g K h1 rfl).trans h2⟩
theorem appP {T e : Nat} {ie : TypeInfo} {zv : Value} (E : Elem Try.prog T e 0 ie zv) {X : Heap} {lv : AV} {ps : List Nat} {p q : Nat} (x : PL X lv ps) (hn : ps.length < 4000) (hq : X.get q = some (.cells [.ptr p 0] 0 false)) :
  ∃ X',appE Try.prog T lv (.slice q 0 1 1) X = some (.eslice X.next 0 0 (ps.length + 1),X') /\ X'.next = X.next + 1 /\ X'.get X.next = some (.cells ((ps ++ [p]).map (AV.ptr · 0)) 1 false) /\ ∀ j,j < X.next -> lv ≠ .eslice j 0 0 ps.length -> X'.get j = X.get j := by
 rcases x with ⟨rfl,rfl⟩ | ⟨K,h0,rfl,h1,h2⟩
 ·refine ⟨_,app_nil E hq (cut_all rfl) rfl rfl,rfl,new_same _ _,fun j hj _ => new_ne _ _ (by omega)⟩
 ·refine ⟨_,app_es E h2 (by simp) (by omega) hq (cut_all rfl) rfl rfl,rfl, ?_,fun j hj hj2 => ?_⟩
  ·rw [List.map_append]
   exact new_same (X.put K none) _
  ·have : j ≠ K := fun e => hj2 (by rw [e])
   rw [new_ne _ _ (by show j ≠ X.next; omega),get_put_ne this]
theorem el96 : Elem Try.prog 96 149 0 ((Try.prog.info? 149).getD default) ((((Try.prog.info? 149).getD default).zero).getD default) := ⟨Try.underlying96,by kernel_rfl,by kernel_rfl,by kernel_rfl,by kernel_rfl,by decide +kernel⟩
theorem ap96 (call : CallK) (ρ : Operand -> AV) (dd : Option Tmp) (t : TypeId) (p : String) (a : Array Edge) (g : Option (Nat × Bool)) (h : Heap) (s x : Operand) : opE Try.prog call ρ ⟨dd, .call ⟨.builtin .append,#[s,x],#[96,96]⟩,t,p,a,g⟩ h = th (okv (ρ s)) fun u => th (okv (ρ x)) fun v => appE Try.prog 96 u v h := opE_append Try.underlying96 s x
theorem bsL1 (x : Nat) (h : Heap) : bsE Try.prog 50 1 [(0, .ptr x 0)] h = some (.slice h.next 0 1 1,h.new (.cells [.ptr x 0] 0 false)) := bsE_of (fun K => by kernel_rfl) h
theorem bsR1 (x : Nat) (h : Heap) : bsE Try.prog 96 1 [(0, .ptr x 0)] h = some (.slice h.next 0 1 1,h.new (.cells [.ptr x 0] 0 false)) := bsE_of (fun K => by kernel_rfl) h
structure MadeI (hh : Heap) (N : Nat) (C : Col) (kb kr : Nat) (sl : List Int) (i : Nat) (ps qs : List Nat) (lv rv : AV) : Prop where
 pl : ps.length = i
 ql : qs.length = i
 le : N + 2 <= hh.next
 cr : C (N + 1) = kr
 ls : (i = 0 /\ lv = .nilslice /\ rv = .nilslice) \/ ∃ Kl Kr,i ≠ 0 /\ lv = .eslice Kl 0 0 i /\ rv = .eslice Kr 0 0 i /\ Kl ≠ Kr /\ N + 1 < Kl /\ N + 1 < Kr /\ Kl < hh.next /\ Kr < hh.next /\ C Kl = 0 /\ C Kr = 0 /\ hh.get Kl = some (.cells (ps.map (AV.ptr · 0)) 1 false) /\ hh.get Kr = some (.cells (qs.map (AV.ptr · 0)) 1 false)
 mm : ∀ (k p : Nat) (z : Int),ps[k]? = some p -> sl[k]? = some z -> MemI hh C (kb + 2 + k) p (MS.new (secN z))
 rr : ∀ (k q : Nat) (z : Int),qs[k]? = some q -> sl[k]? = some z -> q < hh.next /\ C q = kr + 2 + k /\ hh.get q = some (.cells (refG (secN z) .nilslice .nilslice .nilslice false false) 0 false)
theorem MadeI.nil {hh : Heap} {N : Nat} {C : Col} {kb kr : Nat} {sl : List Int} (h1 : C (N + 1) = kr) (h2 : hh.next = N + 2) : MadeI hh N C kb kr sl 0 [] [] .nilslice .nilslice := ⟨rfl,rfl,by omega,h1, .inl ⟨rfl,rfl,rfl⟩,fun k p z h => by simp at h,fun k p z h => by simp at h⟩
theorem StA.us {h : Heap} {v : AV} {l : List Stp} (x : StA h v l) : ∃ us : List AV,us.length = l.length /\ ∀ (i : Nat) (s : Stp),l[i]? = some s -> ∃ K junk ext ro u,K < h.next /\ us[i]? = some u /\ h.get K = some (.cells (stpsC (l.zip us) ++ junk) ext ro) /\ indexAddrE Try.prog 43 v (.int .i64 (i : Int)) = some (.ptr K (i * 70)) /\ PickA h u s.picks := by
 rcases x with ⟨rfl,h⟩ | ⟨K,vs,junk,ext,ro,h0,hv,h1,h2,h3,h4⟩
 ·exact ⟨[],rfl,fun i s hs => by simp at hs⟩
 ·refine ⟨vs,h2,fun i s hs => ?_⟩
  have hil := (List.getElem?_eq_some_iff.1 hs).1
  obtain ⟨u,hu⟩ : ∃ u,vs[i]? = some u := ⟨_,List.getElem?_eq_getElem (by omega)⟩
  refine ⟨K,junk,ext,ro,u,h1,hu,h3, ?_,h4 i s u hs hu⟩
  rcases hv with ⟨n,rfl⟩ | rfl
  ·rw [ia_slice Try.underlying43 (show szE Try.prog 42 = some 70 by kernel_rfl)]
   simp only [idx_nat i l.length hil,th_some,Nat.zero_add]
  ·rw [ia_eslice Try.underlying43 (show szE Try.prog 42 = some 70 by kernel_rfl)]
   simp only [idx_nat i l.length hil,th_some,Nat.zero_add]
theorem stps_cut {l : List Stp} {us junk : List AV} {i : Nat} {s : Stp} {u : AV} (hl : ∀ s ∈ l,s.data.length = 64) (h1 : us.length = l.length) (hs : l[i]? = some s) (hu : us[i]? = some u) : cutE (i * 70) 70 (stpsC (l.zip us) ++ junk) = some (s.C u) := by
 have hzip : (l.zip us)[i]? = some (s,u) := by rw [List.getElem?_zip_eq_some]; exact ⟨hs,hu⟩
 have hzl : ∀ x ∈ l.zip us,(x.1.C x.2).length = 70 := fun x hx => x.1.C_len x.2 (hl _ (List.of_mem_zip hx).1)
 have hcut : cutE (i * 70) 70 (stpsC (l.zip us)) = some (s.C u) := flat_cut (fun x : Stp × AV => x.1.C x.2) 70 (l.zip us) i (s,u) hzl hzip
 have hle := cutE_len hcut
 rw [cutE_of hle] at hcut
 rw [cutE_of (by rw [List.length_append]; omega),List.drop_append_of_le_length (by omega),List.take_append_of_le_length (by rw [List.length_drop]; omega)]
 exact hcut
theorem el98 : Elem Try.prog 98 151 69 ((Try.prog.info? 151).getD default) ((((Try.prog.info? 151).getD default).zero).getD default) := ⟨Try.underlying98,by kernel_rfl,by kernel_rfl,by kernel_rfl,by kernel_rfl,by decide +kernel⟩
theorem ap98 (call : CallK) (ρ : Operand -> AV) (dd : Option Tmp) (t : TypeId) (p : String) (a : Array Edge) (g : Option (Nat × Bool)) (h : Heap) (s x : Operand) : opE Try.prog call ρ ⟨dd, .call ⟨.builtin .append,#[s,x],#[98,98]⟩,t,p,a,g⟩ h = th (okv (ρ s)) fun u => th (okv (ρ x)) fun v => appE Try.prog 98 u v h := opE_append Try.underlying98 s x
theorem bs98 (s : Stp) (u : AV) (hs : s.data.length = 64) (hu : isSc u = true) (h : Heap) : bsE Try.prog 98 1 [(0, .agg (s.C u))] h = some (.slice h.next 0 1 1,h.new (.cells (s.C u) 0 false)) := bs_one Try.underlying98 (s := 69) (by kernel_rfl) (z := ((zeroE Try.prog 151).getD .nilptr)) (by kernel_rfl) (by kernel_rfl) (by kernel_rfl) (s.C_len u hs) (s.C_sc u hu) h
theorem stp_mk (s : Stp) (hs : s.data.length = 64) : overE 5 (B s.data) (((((stpZ.set 0 (AV.int IntKind.i64 s.tm)).set 1 (AV.int IntKind.i64 s.kind)).set 2 (AV.int IntKind.i64 s.m)).set 3 (AV.int IntKind.i64 s.i)).set 4 (AV.int IntKind.i64 s.n)) = some (s.C .nilslice) := by
 have e : (((((stpZ.set 0 (AV.int IntKind.i64 s.tm)).set 1 (AV.int IntKind.i64 s.kind)).set 2 (AV.int IntKind.i64 s.m)).set 3 (AV.int IntKind.i64 s.i)).set 4 (AV.int IntKind.i64 s.n)) = AV.int IntKind.i64 s.tm :: AV.int IntKind.i64 s.kind :: AV.int IntKind.i64 s.m :: AV.int IntKind.i64 s.i :: AV.int IntKind.i64 s.n :: (B zz ++ [AV.nilslice]) := rfl
 rw [e]
 unfold overE
 rw [if_pos ⟨by simp [B_len,zz_len,hs],allSc_B _⟩]
 simp only [List.take_succ_cons,List.take_zero,B_len,hs]
 rw [show 5 + 64 = 64 + 1 + 1 + 1 + 1 + 1 from rfl]
 simp only [List.drop_succ_cons]
 rw [List.drop_append_of_le_length (by rw [B_len,zz_len]; omega),List.drop_of_length_le (by rw [B_len,zz_len]; omega)]
 simp [Stp.C]
theorem stp_pk (s : Stp) (u : AV) (hs : s.data.length = 64) (hu : isSc u = true) : overE 69 [u] (s.C .nilslice) = some (s.C u) := by
 rw [overE_one (by rw [s.C_len _ hs]; omega),hu,scE_true,<- s.C_set .nilslice u hs]
theorem PickA.cl {h : Heap} {u : AV} {l : List Nat} (x : PickA h u l) : u.cells = [u] := by
 rcases x with ⟨_,rfl | ⟨q,o,n,rfl⟩ | ⟨a,rfl⟩⟩ | ⟨K,o,n,C,ext,ro,_,rfl,_⟩ <;> rfl
theorem app_st {H : Heap} {sv : AV} {l : List Stp} (k : Nat) (x : StA H sv l) (hl : ∀ s ∈ l,s.data.length = 64) (hn : l.length <= 60) : ∃ w H',appE Try.prog 43 (.slice k 0 0 0) sv H = some (w,H') /\ Keeps H H' /\ okv w = some w /\ AV.same w w = true /\ StA H' w l /\ ((l = [] /\ w = .slice k 0 0 0) \/ ∃ K cs,l ≠ [] /\ w = .eslice K 0 0 l.length /\ H.next <= K /\ K < H'.next /\ cs.length = l.length * 70 /\ H'.get K = some (.cells cs 70 false)) := by
 rcases x with ⟨h0,rfl | ⟨q,o,n,rfl⟩⟩ | ⟨K,vs,junk,ext,ro,h0,hv,h1,h2,h3,h4⟩
 ·exact ⟨.slice k 0 0 0,H,app_00 el43 _ rfl (fun K => rfl), .refl _,rfl,same_slice .., .inl ⟨h0, .inr ⟨k,0,0,rfl⟩⟩, .inl ⟨h0,rfl⟩⟩
 ·exact ⟨.slice k 0 0 0,H,app_00 el43 _ rfl (fun K => rfl), .refl _,rfl,same_slice .., .inl ⟨h0, .inr ⟨k,0,0,rfl⟩⟩, .inl ⟨h0,rfl⟩⟩
 ·obtain ⟨m,hm⟩ : ∃ m,l.length = m + 1 := ⟨l.length - 1,by have := List.length_pos_iff.2 h0; omega⟩
  have hll := stps_len hl h2
  have hsc : allSc (stpsC (l.zip vs)) = true := stps_sc fun u hu => by
   obtain ⟨i,hi⟩ := List.mem_iff_getElem?.1 hu
   have hlt := (List.getElem?_eq_some_iff.1 hi).1
   exact (h4 i _ u (List.getElem?_eq_getElem (by omega)) hi).ok.2.1
  have hcut : cutE 0 ((m + 1) * (69 + 1)) (stpsC (l.zip vs) ++ junk) = some (stpsC (l.zip vs)) := by
   rw [cutE_of (by rw [List.length_append,hll,hm]; omega),List.drop_zero,List.take_append_of_le_length (by rw [hll,hm]; omega),List.take_of_length_le (by rw [hll,hm]; omega)]
  have kn : Keeps H (H.new (.cells (stpsC (l.zip vs)) 70 false)) := ⟨Nat.le_succ _,fun j hj => new_ne _ _ (by omega)⟩
  have fin : appE Try.prog 43 (.slice k 0 0 0) sv H = some (.eslice H.next 0 0 (m + 1),H.new (.cells (stpsC (l.zip vs)) 70 false)) := by
   rcases hv with ⟨n,rfl⟩ | rfl
   ·rw [hm]
    exact app_cap el43 (by omega) h3 hcut (by rw [hll,hm]) hsc
   ·rw [hm]
    exact app_capE el43 (by omega) h3 hcut (by rw [hll,hm]) hsc
  refine ⟨_,_,fin,kn,rfl,same_eslice .., .inr ⟨H.next,vs,[],70,false,h0, .inr (by rw [hm]),Nat.lt_succ_self _,h2,by rw [List.append_nil]; exact new_same _ _,fun i s u a b => (h4 i s u a b).keep kn⟩, .inr ⟨H.next,_,h0,by rw [hm],Nat.le_refl _,Nat.lt_succ_self _,hll,new_same _ _⟩⟩
theorem bnewE0 (d : Nat) (h : Heap) (cp Kc : Nat) (hv : AV) (x : Nat × List Nat) (hcn : cp < h.next) (hc : h.get cp = some (.cells [hv] 0 false)) (hh0 : HisIs h hv Kc [x]) (hx : x.2.length = 32) (sv : AV) : G (callD env (d + 7) 39 [.nilslice, .ptr cp 0,sv] h) fun v h' => v = .tup [.nilptr, .int .i64 2] /\ Keeps h h' := by
 refine G.gen fun Q hX => ?_
 have czl : czz.length = 32 := rfl
 have hvc := cC_len x.1 x.2 hx
 have hvo := cC_over x.1 0 x.2 czz hx czl
 have hvcut := cC_cut x.1 x.2 hx
 have hzc := cC_len 0 czz czl
 rw [callD_run (E := env) [] (by kernel_rfl) Try.func39 rfl (by rw [Try.ntmps39]; simp) (by kernel_rfl)]; simp (disch := first | omega | (simp only [SD.down,uA,uL] <;> omega) | fail) only [Try.ntmps39,Try.results39,env_P,env_L,c33_fold,cz_fold,hvc,hvo,hvcut,hzc,TQ.down,resE,oneV, ↓reduceIte,reduceCtorEq,uB,uE,uL,uA,uM,uS,vL,vK,vE,vA,vS]
 refine G.call (cell_read (d + 4) h cp Kc hv [x] x hc hh0 (by simp [hx]) rfl hcn (by simp)) ?_
 rintro v h1 ⟨rfl,k1⟩
 have n1 := k1.1
 have lnz := len_nilslice (P := Try.prog) Try.underlying50
 simp (disch := first | omega | (simp only [SD.down,uA,uL] <;> omega) | fail) only [c33_fold,cz_fold,hvc,hvo,hvcut,hzc,ccf0,lncL,lnoL,lnz,TQ.down,resE,oneV, ↓reduceIte,reduceCtorEq,uB,uE,uL,uA,uM,uS,vL,vK,vE,vA,vS]
 subst hX
 exact G.ok ⟨rfl,⟨by simp (maxSteps := 2000000) (implicitDefEqProofs := false) (disch := first | omega | (simp only [SD.down,uA,uL] <;> omega) | fail) only [TQ.down,resE,oneV, ↓reduceIte,reduceCtorEq,uB,uE,uL,uA,uM,uS,uN,uX,uO,vR,vD,vL,vK,vE,vA,vM,vT,vS]; omega,fun j hj => by simp (maxSteps := 2000000) (implicitDefEqProofs := false) (disch := first | omega | (simp only [SD.down,uA,uL] <;> omega) | fail) only [TQ.down,resE,oneV, ↓reduceIte,reduceCtorEq,uB,uE,uL,uA,uM,uS,uN,uX,uO,vR,vD,vL,vK,vE,vA,vM,vT,vS]; exact k1.2 j hj⟩⟩
theorem bnewEL (d : Nat) (h : Heap) (KM : Nat) (ps : List Nat) (n64 : 64 < ps.length) (n70 : ps.length <= 70) (Kl : KM < h.next) (hKM : h.get KM = some (.cells (ps.map (AV.ptr · 0)) 1 false)) (hm : ∀ (i p : Nat),ps[i]? = some p -> p < h.next /\ ∃ n a b lgv mk f hu,0 < n /\ h.get p = some (.cells (memG n a b lgv mk f hu) 0 false)) (cp Kc : Nat) (hv : AV) (x : Nat × List Nat) (hcn : cp < h.next) (hc : h.get cp = some (.cells [hv] 0 false)) (hh0 : HisIs h hv Kc [x]) (hx : x.2.length = 32) (sv : AV) : G (callD env (d + 7) 39 [.eslice KM 0 0 ps.length, .ptr cp 0,sv] h) fun v h' => v = .tup [.nilptr, .int .i64 2] /\ Keeps h h' := by
 refine G.gen fun Q hX => ?_
 have czl : czz.length = 32 := rfl
 have hvc := cC_len x.1 x.2 hx
 have hvo := cC_over x.1 0 x.2 czz hx czl
 have hvcut := cC_cut x.1 x.2 hx
 have hzc := cC_len 0 czz czl
 have dl0 : decide ((ps.length : Int) < 1) = false := decide_eq_false (by omega)
 have dl1 : decide ((64 : Int) < (ps.length : Int)) = true := decide_eq_true (by omega)
 rw [callD_run (E := env) [] (by kernel_rfl) Try.func39 rfl (by rw [Try.ntmps39]; simp) (by kernel_rfl)]; simp (disch := first | omega | (simp only [SD.down,uA,uL] <;> omega) | fail) only [Try.ntmps39,Try.results39,env_P,env_L,c33_fold,cz_fold,hvc,hvo,hvcut,hzc,TQ.down,resE,oneV, ↓reduceIte,reduceCtorEq,uB,uE,uL,uA,uM,uS,vL,vK,vE,vA,vS]
 refine G.call (cell_read (d + 4) h cp Kc hv [x] x hc hh0 (by simp [hx]) rfl hcn (by simp)) ?_
 rintro v h1 ⟨rfl,k1⟩
 have n1 := k1.1
 simp (disch := first | omega | (simp only [SD.down,uA,uL] <;> omega) | fail) only [c33_fold,cz_fold,hvc,hvo,hvcut,hzc,TQ.down,resE,oneV, ↓reduceIte,reduceCtorEq,uB,uE,uL,uA,uM,uS,vL,vK,vE,vA,vS]
 have kp0 : Keeps h ((h1.new (Blk.cells (cC 0 czz) 0 false)).put h1.next (some (Blk.cells (cC x.1 x.2) 0 false))) := ⟨by simp (maxSteps := 2000000) (implicitDefEqProofs := false) (disch := first | omega | (simp only [SD.down,uA,uL] <;> omega) | fail) only [TQ.down,resE,oneV, ↓reduceIte,reduceCtorEq,uB,uE,uL,uA,uM,uS,uN,uX,uO,vR,vD,vL,vK,vE,vA,vM,vT,vS]; omega,fun j hj => by simp (maxSteps := 2000000) (implicitDefEqProofs := false) (disch := first | omega | (simp only [SD.down,uA,uL] <;> omega) | fail) only [TQ.down,resE,oneV, ↓reduceIte,reduceCtorEq,uB,uE,uL,uA,uM,uS,uN,uX,uO,vR,vD,vL,vK,vE,vA,vM,vT,vS]; exact k1.2 j hj⟩
 generalize (h1.new (Blk.cells (cC 0 czz) 0 false)).put h1.next (some (Blk.cells (cC x.1 x.2) 0 false)) = g0 at kp0 ⊢
 refine G.call (ccfN (d + 1) g0 KM ps (by omega) ((kp0.2 KM Kl).trans hKM) (fun i p hp => by obtain ⟨pl,n,a,b,lgv,mk,f,hu,n0,g⟩ := hm i p hp; exact ⟨n,a,b,lgv,mk,f,hu,n0,(kp0.2 p pl).trans g⟩)) ?_
 rintro v h2x ⟨rfl,e2⟩
 rw [e2]
 simp (disch := omega) only [lncL,lnoL,lneL,dl0,dl1,TQ.down,resE,oneV, ↓reduceIte,reduceCtorEq,uB,uE,uL,uA,uM,vE]
 subst hX
 exact G.ok ⟨rfl,kp0⟩
theorem over_len (o : Nat) (v l : List AV) (h : o + v.length <= l.length) (hs : allSc v = true) : ∃ l',overE o v l = some l' /\ l'.length = l.length := by
 unfold overE
 rw [if_pos ⟨h,hs⟩]
 refine ⟨_,rfl, ?_⟩
 simp
 omega
def BS.mk0 (sl : List Int) (x : Nat × List Nat) (l : List Stp) : BS := ⟨sl.map fun z => MS.new (secN z),[x],l,false,[]⟩
def RB.mk0 (sl : List Int) (x : Nat × List Nat) (l : List Stp) : RB := ⟨sl.map fun z => RS.new (secN z),x,l,false,[]⟩
theorem mk0_rel (sl : List Int) (x : Nat × List Nat) (l : List Stp) : BR (BS.mk0 sl x l) (RB.mk0 sl x l) := by
 refine ⟨by simp [BS.mk0,RB.mk0],fun i S R hS hR => ?_,by simp [BS.mk0],rfl,rfl,rfl,rfl,fun i t u ht => by simp [BS.mk0] at ht⟩
 have hS : (sl.map fun z => MS.new (secN z))[i]? = some S := hS
 have hR : (sl.map fun z => RS.new (secN z))[i]? = some R := hR
 rw [List.getElem?_map] at hS hR
 cases hz : sl[i]? with
 | none => rw [hz] at hS; cases hS
 | some z =>
  rw [hz] at hS hR
  cases hS
  cases hR
  exact MR.new (by unfold secN; omega)
theorem mk0_wfB {sl : List Int} {x : Nat × List Nat} {l : List Stp} (h0 : 1 <= sl.length) (h1 : sl.length <= 64) (hx : x.2.length = 32) (hn : l.length <= 60) (hl : ∀ s ∈ l,s.data.length = 64) : (BS.mk0 sl x l).wf :=
 ⟨fun S hS => by
  have hS : S ∈ sl.map fun z => MS.new (secN z) := hS
  rw [List.mem_map] at hS
  obtain ⟨z,_,rfl⟩ := hS
  exact MS.new_wf (by unfold secN; omega),by simpa [BS.mk0] using h1,by simp [BS.mk0]; omega,by simp [BS.mk0,hx],by simp [BS.mk0],by simp [BS.mk0],by simp only [BS.mk0]; omega,hl,by simp [BS.mk0],by simp [BS.mk0]⟩
theorem mk0_wfR {sl : List Int} {x : Nat × List Nat} {l : List Stp} (h1 : sl.length <= 64) (hx : x.2.length = 32) (hm : x.1 <= 4611686018427387904) (hn : l.length <= 60) (hl : ∀ s ∈ l,s.data.length = 64) (N : Nat) (hN : N < 3000) : (RB.mk0 sl x l).wf N :=
 ⟨fun R hR => by
  have hR : R ∈ sl.map fun z => RS.new (secN z) := hR
  rw [List.mem_map] at hR
  obtain ⟨z,_,rfl⟩ := hR
  exact ⟨by simp [RS.new,secN],(fun _ h => by cases h),(fun _ h => by cases h),by simp [RS.new],by simp [RS.new],(fun _ h => by cases h)⟩,by simpa [RB.mk0] using h1,hN,hx,hm,by simp only [RB.mk0]; omega,hl,by simp [RB.mk0],by simp [RB.mk0]⟩
theorem made_ok (d : Nat) (h : Heap) (c : Col) (kb kr : Nat) (sec : AV) (sl : List Int) (n : Nat) (t : List Nat) (sv : AV) (l : List Stp) (hs : SecI h sec sl) (ht : t.length = 32) (hst : StA h sv l) (hsd : ∀ s ∈ l,s.data.length = 64) (hsn : l.length <= 60) (hpk : ∀ s ∈ l,s.picks.length <= 140737488351232) (h70 : sl.length <= 70) (kb10 : 10 <= kb) (hkr : kb + 100 <= kr) (hc0 : ∀ j,j < h.next -> c j = 0) (Q : AV -> Heap -> Prop)
  (hQ1 : 4611686018427387904 < n -> ∀ (e : Int) h',Q (.tup [.nilptr, .nilslice, .nilptr, .nilptr, .int .i64 e]) h')
  (hQ2 : n <= 4611686018427387904 -> (sl.length < 1 \/ 64 < sl.length) -> ∀ lv cp ρ h',okv lv = some lv -> Keeps h h' -> Q (.tup [.nilptr,lv, .ptr cp 0, .ptr ρ 0, .int .i64 2]) h')
  (hQ3 : n <= 4611686018427387904 -> 1 <= sl.length -> sl.length <= 64 -> ∀ β cp ρ Lb ps qs C b r h',Two h' C kb β cp ps b kr ρ qs r -> Lb < h'.next -> C Lb = 0 -> h'.get Lb = some (.cells (ps.map (AV.ptr · 0)) 1 false) -> ps.length = sl.length -> r.log = [] -> Keeps h h' -> (∀ j,j < h.next -> C j = c j) -> Q (.tup [.ptr β 0, .eslice Lb 0 0 ps.length, .ptr cp 0, .ptr ρ 0, .int .i64 0]) h') :
  G (callD env (d + 9) 43 [.agg (caseC sec n t sv)] h) Q := by
 have cl : (caseC sec n t sv).length = 35 := by simp [caseC,cC,B_len,ht]
 have cc : cutE 0 35 (caseC sec n t sv) = some (caseC sec n t sv) := cut_all (by simp [cl])
 rw [callD_run (E := env) [(9, .fl [(4,0,2)]),(14, .fl [(4,0,1)])] (by kernel_rfl) Try.func43 rfl (by rw [Try.ntmps43]; simp) (by kernel_rfl)]; simp (disch := first | omega | (simp only [SD.down,uA,uL] <;> omega) | fail) only [Try.ntmps43,Try.results43,env_P,env_L,cl,cc,TQ.down,resE,oneV, ↓reduceIte,reduceCtorEq,uB,uE,uL,uA,uM,uS,vL,vK,vE,vA,vS]
 have c0 : (caseC sec n t sv)[0]? = some sec := rfl
 have g0 : ((h.new (Blk.cells (caseC sec n t sv) 0 false)).new (Blk.cells [AV.nilslice,AV.nilptr,AV.nilslice,AV.bool false,AV.nilslice] 0 false)).get h.next = some (Blk.cells (caseC sec n t sv) 0 false) := by simp (disch := first | omega | (simp only [SD.down,uA,uL] <;> omega) | fail) only [TQ.down,resE,oneV, ↓reduceIte,reduceCtorEq,uB,uE,uL,uA,uM,uS,vL,vK,vE,vA,vS]
 have g1 : ((h.new (Blk.cells (caseC sec n t sv) 0 false)).new (Blk.cells [AV.nilslice,AV.nilptr,AV.nilslice,AV.bool false,AV.nilslice] 0 false)).get (h.next + 1) = some (Blk.cells [AV.nilslice,AV.nilptr,AV.nilslice,AV.bool false,AV.nilslice] 0 false) := by simp (disch := first | omega | (simp only [SD.down,uA,uL] <;> omega) | fail) only [TQ.down,resE,oneV, ↓reduceIte,reduceCtorEq,uB,uE,uL,uA,uM,uS,vL,vK,vE,vA,vS]
 have n0 : ((h.new (Blk.cells (caseC sec n t sv) 0 false)).new (Blk.cells [AV.nilslice,AV.nilptr,AV.nilslice,AV.bool false,AV.nilslice] 0 false)).next = h.next + 2 := by simp (disch := omega) only [TH.down,uA,uB]
 have k0 : Keeps h ((h.new (Blk.cells (caseC sec n t sv) 0 false)).new (Blk.cells [AV.nilslice,AV.nilptr,AV.nilslice,AV.bool false,AV.nilslice] 0 false)) := ⟨by simp (disch := first | omega | (simp only [SD.down,uA,uL] <;> omega) | fail) only [TQ.down,resE,oneV, ↓reduceIte,reduceCtorEq,uB,uE,uL,uA,uM,uS,vL,vK,vE,vA,vS]; omega,fun j hj => by simp (disch := first | omega | (simp only [SD.down,uA,uL] <;> omega) | fail) only [TQ.down,resE,oneV, ↓reduceIte,reduceCtorEq,uB,uE,uL,uA,uM,uS,vL,vK,vE,vA,vS]⟩
 generalize ((h.new (Blk.cells (caseC sec n t sv) 0 false)).new (Blk.cells [AV.nilslice,AV.nilptr,AV.nilslice,AV.bool false,AV.nilslice] 0 false)) = H0 at g0 g1 n0 k0 ⊢
 obtain ⟨eok,esm,esc⟩ := hs.ok
 have elen := hs.len
 rw [run_loop]
 refine loop_ind (fun j σ hh => ∃ (i : Nat) (ps qs : List Nat) (lv rv : AV) (C : Col),i + j = sl.length /\ σ 1 = .ptr h.next 0 /\ σ 7 = lv /\ σ 8 = .ptr (h.next + 1) 0 /\ σ 9 = .int .i64 (i : Int) /\ MadeI hh h.next C kb kr sl i ps qs lv rv /\ hh.get h.next = some (Blk.cells (caseC sec n t sv) 0 false) /\ hh.get (h.next + 1) = some (Blk.cells [rv,AV.nilptr,AV.nilslice,AV.bool false,AV.nilslice] 0 false) /\ Keeps h hh /\ ∀ j,j < h.next -> C j = c j) ?_ ?_ sl.length _ _ _ (by simp; omega) ?_
 ·rintro mm σ hh ⟨i,ps,qs,lv,rv,C,hi,s1,s7,s8,s9,M,gc,gr,kh,hC⟩
  obtain rfl : i = sl.length := by omega
  have di : decide ((sl.length : Int) < (sl.length : Int)) = false := decide_eq_false (by omega)
  have sok := hst.okv
  have slen := hst.len'
  obtain ⟨us,ul,ui⟩ := hst.us
  have c34 : (caseC sec n t sv)[34]? = some sv := by simp [caseC,cC,B_len,ht]
  have hNA : h.next + 2 <= hh.next := M.le
  simp (disch := first | omega | (simp only [SD.down,uA,uL] <;> omega) | fail) only [run_it,s1,s7,s8,s9,gc,gr,c0,eok,elen,di,lncI,lnoI,env_P,env_L,TQ.down,resE,oneV, ↓reduceIte,reduceCtorEq,uB,uE,uL,uA,uM,uS,vL,vK,vE,vA,vS]
  rw [run_loop]
  refine loop_ind (fun j τ hb => ∃ (i : Nat) (tv : AV),i + j = l.length /\ τ 1 = .ptr h.next 0 /\ τ 7 = lv /\ τ 8 = .ptr (h.next + 1) 0 /\ τ 13 = .int .i64 (i : Int) /\ hh.next <= hb.next /\ (∀ j,j < hh.next -> j ≠ h.next + 1 -> hb.get j = hh.get j) /\ hb.get (h.next + 1) = some (Blk.cells [rv,AV.nilptr,tv,AV.bool false,AV.nilslice] 0 false) /\ ((i = 0 /\ tv = .nilslice) \/ ∃ K,i ≠ 0 /\ tv = .eslice K 0 0 i /\ hh.next <= K /\ K < hb.next /\ hb.get K = some (.cells (stpsC ((l.zip us).take i)) 70 false))) ?_ ?_ l.length _ _ _ (by simp; omega) ?_
  ·rintro mm2 τ hb ⟨i,tv,hi,t1,t7,t8,t13,nb,fb,gb,ht2⟩
   obtain rfl : i = l.length := by omega
   have dj : decide ((l.length : Int) < (l.length : Int)) = false := decide_eq_false (by omega)
   have gcb := (fb h.next (by omega) (by omega)).trans gc
   have c133 : cutE 1 33 (caseC sec n t sv) = some (cC n t) := by
    have hcl : (cC n t).length = 33 := by simp [cC,B_len,ht]
    rw [cutE_of (by rw [cl]; omega)]
    show some (((cC n t ++ [sv])).take 33) = _
    rw [List.take_append_of_le_length (by omega),List.take_of_length_le (by omega)]
   by_cases hn : 4611686018427387904 < n
   ·obtain ⟨h',ek⟩ : ∃ h',callD env (d + 8) 37 [.agg (cC n t)] hb = some (.tup [.nilptr, .int .i64 2],h') := cnewF (d + 7) hb n t ht hn
    simp (disch := first | omega | (simp only [SD.down,uA,uL] <;> omega) | fail) only [run_it,t1,t7,t8,t13,gcb,c34,sok,slen,dj,c133,ek,env_P,env_L,TQ.down,resE,oneV, ↓reduceIte,reduceCtorEq,uB,uE,uL,uA,uM,uS,vL,vK,vE,vA,vS]
    exact G.ok (hQ1 hn 1 h')
   have hn : n <= 4611686018427387904 := by omega
   have ek := cnewN (d + 7) hb n t ht hn
   simp (disch := first | omega | (simp only [SD.down,uA,uL] <;> omega) | fail) only [run_it,t1,t7,t8,t13,gcb,c34,sok,slen,dj,c133,ek,env_P,env_L,TQ.down,resE,oneV, ↓reduceIte,reduceCtorEq,uB,uE,uL,uA,uM,uS,vL,vK,vE,vA,vS]
   have kC : Keeps hb (((hb.new (Blk.cells (cC n t) 0 false)).new (Blk.cells (cC n t) 0 false)).new (Blk.cells [AV.slice (hb.next + 1) 0 1 1] 0 false)) := ⟨by simp (disch := first | omega | (simp only [SD.down,uA,uL] <;> omega) | fail) only [TQ.down,resE,oneV, ↓reduceIte,reduceCtorEq,uB,uE,uL,uA,uM,uS,vL,vK,vE,vA,vS]; omega,fun j hj => by simp (disch := first | omega | (simp only [SD.down,uA,uL] <;> omega) | fail) only [TQ.down,resE,oneV, ↓reduceIte,reduceCtorEq,uB,uE,uL,uA,uM,uS,vL,vK,vE,vA,vS]⟩
   have nC : (((hb.new (Blk.cells (cC n t) 0 false)).new (Blk.cells (cC n t) 0 false)).new (Blk.cells [AV.slice (hb.next + 1) 0 1 1] 0 false)).next = hb.next + 3 := by simp (disch := omega) only [TH.down,uA,uB]
   have gC1 : (((hb.new (Blk.cells (cC n t) 0 false)).new (Blk.cells (cC n t) 0 false)).new (Blk.cells [AV.slice (hb.next + 1) 0 1 1] 0 false)).get (hb.next + 1) = some (Blk.cells (cC n t) 0 false) := by simp (disch := first | omega | (simp only [SD.down,uA,uL] <;> omega) | fail) only [TQ.down,resE,oneV, ↓reduceIte,reduceCtorEq,uB,uE,uL,uA,uM,uS,vL,vK,vE,vA,vS]
   have gC2 : (((hb.new (Blk.cells (cC n t) 0 false)).new (Blk.cells (cC n t) 0 false)).new (Blk.cells [AV.slice (hb.next + 1) 0 1 1] 0 false)).get (hb.next + 2) = some (Blk.cells [AV.slice (hb.next + 1) 0 1 1] 0 false) := by simp (disch := first | omega | (simp only [SD.down,uA,uL] <;> omega) | fail) only [TQ.down,resE,oneV, ↓reduceIte,reduceCtorEq,uB,uE,uL,uA,uM,uS,vL,vK,vE,vA,vS]
   generalize (((hb.new (Blk.cells (cC n t) 0 false)).new (Blk.cells (cC n t) 0 false)).new (Blk.cells [AV.slice (hb.next + 1) 0 1 1] 0 false)) = HC at kC nC gC1 gC2 ⊢
   refine G.call (rcnew (d + 7) HC n t ht hn) ?_
   rintro v H2 ⟨cx,rfl,k2,cx1,cx2,hRC⟩
   have k2n := k2.1
   have gb2 := (k2.2 (h.next + 1) (by omega)).trans ((kC.2 (h.next + 1) (by omega)).trans gb)
   have gc2 := (k2.2 h.next (by omega)).trans ((kC.2 h.next (by omega)).trans gcb)
   simp (disch := first | omega | (simp only [SD.down,uA,uL] <;> omega) | fail) only [t1,t7,t8,t13,gb2,gc2,c34,b043,sok,env_P,env_L,TQ.down,resE,oneV, ↓reduceIte,reduceCtorEq,uB,uE,uL,uA,uM,uS,vL,vK,vE,vA,vS]
   have nP : ((H2.put (h.next + 1) (some (Blk.cells [rv,AV.ptr cx 0,tv,AV.bool false,AV.nilslice] 0 false))).new (Blk.cells [] 0 false)).next = H2.next + 1 := by simp (disch := omega) only [TH.down,uA,uB]
   have gP : ((H2.put (h.next + 1) (some (Blk.cells [rv,AV.ptr cx 0,tv,AV.bool false,AV.nilslice] 0 false))).new (Blk.cells [] 0 false)).get (h.next + 1) = some (Blk.cells [rv,AV.ptr cx 0,tv,AV.bool false,AV.nilslice] 0 false) := by simp (disch := first | omega | (simp only [SD.down,uA,uL] <;> omega) | fail) only [TQ.down,resE,oneV, ↓reduceIte,reduceCtorEq,uB,uE,uL,uA,uM,uS,vL,vK,vE,vA,vS]
   have fP : ∀ j,j < H2.next -> j ≠ h.next + 1 -> ((H2.put (h.next + 1) (some (Blk.cells [rv,AV.ptr cx 0,tv,AV.bool false,AV.nilslice] 0 false))).new (Blk.cells [] 0 false)).get j = H2.get j := fun j hj hne => by simp (disch := first | omega | (simp only [SD.down,uA,uL] <;> omega) | fail) only [TQ.down,resE,oneV, ↓reduceIte,reduceCtorEq,uB,uE,uL,uA,uM,uS,vL,vK,vE,vA,vS]
   generalize ((H2.put (h.next + 1) (some (Blk.cells [rv,AV.ptr cx 0,tv,AV.bool false,AV.nilslice] 0 false))).new (Blk.cells [] 0 false)) = HP at nP gP fP ⊢
   -- a block of the first loop's heap
   have fA : ∀ j,j < hh.next -> j ≠ h.next + 1 -> HP.get j = hh.get j := fun j hj hne => by
    rw [fP j (by omega) hne,k2.2 j (by omega),kC.2 j (by omega)]
    exact fb j hj hne
   have khP : Keeps h HP := ⟨by have := kh.1; omega,fun j hj => (fA j (by have := kh.1; omega) (by omega)).trans (kh.2 j hj)⟩
   obtain ⟨w,H4,ea,k4,wok,wsm,wst,wk⟩ := app_st H2.next (hst.keep khP) hsd hsn
   have k4n := k4.1
   have lvok : okv lv = some lv /\ AV.same lv lv = true := by
    rcases M.ls with ⟨_,rfl,_⟩ | ⟨Kl,Kr,_,rfl,_⟩
    ·exact ⟨rfl,rfl⟩
    ·exact ⟨rfl,same_eslice ..⟩
   have f4 : ∀ j,j < hh.next -> j ≠ h.next + 1 -> H4.get j = hh.get j := fun j hj hne => (k4.2 j (by omega)).trans (fA j hj hne)
   have hmm : ∀ (k p : Nat),ps[k]? = some p -> p < H4.next /\ ∃ n a b lgv mk f hu,0 < n /\ H4.get p = some (.cells (memG n a b lgv mk f hu) 0 false) := fun k p hp => by
    have hks : k < sl.length := by rw [<- M.pl]; exact (List.getElem?_eq_some_iff.1 hp).1
    obtain ⟨a,b,lgv,mk,y1,y2,y3,z1,z2,z3,_,_,_,g,_⟩ := M.mm k p sl[k] hp (List.getElem?_eq_getElem hks)
    have hne : p ≠ h.next + 1 := fun e => by have := M.cr; rw [e] at z1; omega
    exact ⟨by omega,secN sl[k],a,b,lgv,mk,false,false,by unfold secN; omega,(f4 p y1 hne).trans g⟩
   have g42 : H4.get (hb.next + 2) = some (Blk.cells [AV.slice (hb.next + 1) 0 1 1] 0 false) := (k4.2 _ (by omega)).trans ((fP _ (by omega) (by omega)).trans ((k2.2 _ (by omega)).trans gC2))
   have g41 : H4.get (hb.next + 1) = some (Blk.cells (cC n t) 0 false) := (k4.2 _ (by omega)).trans ((fP _ (by omega) (by omega)).trans ((k2.2 _ (by omega)).trans gC1))
   have his : HisIs H4 (.slice (hb.next + 1) 0 1 1) (hb.next + 1) [(n,t)] := .inl ⟨(n,t),rfl,rfl,g41,by omega⟩
   have hnew : G (callD env (d + 8) 39 [lv, .ptr (hb.next + 2) 0,w] H4) fun v h' => ∃ bv e,v = .tup [bv, .int .i64 e] /\ Keeps H4 h' /\ okv bv = some bv /\ AV.same bv bv = true /\ (((sl.length < 1 \/ 64 < sl.length) /\ bv = .nilptr /\ e = 2) \/ (1 <= sl.length /\ sl.length <= 64 /\ ∃ β Ms stv,bv = .ptr β 0 /\ e = 0 /\ H4.next <= β /\ H4.next <= Ms /\ β < h'.next /\ Ms < h'.next /\ β ≠ Ms /\ h'.get β = some (.cells [.eslice Ms 0 0 ps.length, .ptr (hb.next + 2) 0,stv, .bool false, .nilslice] 0 false) /\ h'.get Ms = some (.cells (ps.map (AV.ptr · 0)) 1 false) /\ ∀ C : Col,(∀ j,H4.next <= j -> C j = kb) -> StI h' C kb stv [β,Ms] l)) := by
    rcases M.ls with ⟨e1,rfl,_⟩ | ⟨Kl,Kr,e0,rfl,_,_,_,_,e4,_,e6,_,e8,_⟩
    ·refine (bnewE0 (d + 1) H4 (hb.next + 2) (hb.next + 1) _ (n,t) (by omega) g42 his ht w).mono ?_
     rintro v h' ⟨rfl,k⟩
     exact ⟨_,_,rfl,k,rfl,rfl, .inl ⟨.inl (by omega),rfl,rfl⟩⟩
    ·have hKl := (f4 Kl e4 (by omega)).trans e8
     by_cases h64 : sl.length <= 64
     ·have hb9 := bnewN (d + 1) H4 Kl ps (by rw [M.pl]; omega) (by rw [M.pl]; exact h64) (by omega) hKl hmm (hb.next + 2) (hb.next + 1) _ (n,t) (by omega) g42 his ht w l hsd (by omega) hpk wst kb
      rw [M.pl] at hb9
      refine hb9.mono ?_
      rintro v h' ⟨β,Ms,stv,rfl,y1,y2,y3,y4,y5,y6,y7,y8,y9⟩
      exact ⟨_,_,rfl,y8,rfl,by simp [AV.same,scSame], .inr ⟨by omega,h64,β,Ms,stv,rfl,rfl,y1,y2,y3,y4,y5,by rw [M.pl]; exact y6,y7,y9⟩⟩
     ·have hb9 := bnewEL (d + 1) H4 Kl ps (by rw [M.pl]; omega) (by rw [M.pl]; exact h70) (by omega) hKl hmm (hb.next + 2) (hb.next + 1) _ (n,t) (by omega) g42 his ht w
      rw [M.pl] at hb9
      refine hb9.mono ?_
      rintro v h' ⟨rfl,k⟩
      exact ⟨_,_,rfl,k,rfl,rfl, .inl ⟨.inr (by omega),rfl,rfl⟩⟩
   simp (disch := first | omega | (simp only [SD.down,uA,uL] <;> omega) | fail) only [cls_append,ap43,ea,sok,wok,wsm,t1,t7,t8,t13,lvok.1,lvok.2,env_P,env_L,TQ.down,resE,oneV, ↓reduceIte,reduceCtorEq,uB,uE,uL,uA,uM,uS,vL,vK,vE,vA,vS]
   refine G.call (hnew) ?_
   rintro v H5 ⟨bv,e,rfl,k5,bok,bsm,hcase⟩
   have k5n := k5.1
   simp (disch := first | omega | (simp only [SD.down,uA,uL] <;> omega) | fail) only [bok,bsm,wok,wsm,env_P,env_L,TQ.down,resE,oneV, ↓reduceIte,reduceCtorEq,uB,uE,uL,uA,uM,uS,vL,vK,vE,vA,vS]
   rw [run_loop]
   have wlen := wst.len'
   refine loop_ind (fun j υ hc => ∃ (q : Nat),q + j = l.length /\ υ 7 = lv /\ υ 8 = .ptr (h.next + 1) 0 /\ υ 15 = .ptr (hb.next + 2) 0 /\ υ 19 = w /\ υ 20 = bv /\ υ 21 = .int .i64 e /\ υ 22 = .int .i64 (q : Int) /\ hc.next = H5.next /\ (∀ j,j < HP.next \/ H4.next <= j -> hc.get j = H5.get j) /\ ∀ K,w = .eslice K 0 0 l.length -> ∃ cs,cs.length = l.length * 70 /\ hc.get K = some (.cells cs 70 false)) ?_ ?_ l.length _ _ _ (by simp; omega) ?_
   ·rintro mm3 υ hc ⟨q,hq,u7,u8,u15,u19,u20,u21,u22,nc,fc,_⟩
    obtain rfl : q = l.length := by omega
    have dj3 : decide ((l.length : Int) < (l.length : Int)) = false := decide_eq_false (by omega)
    simp (disch := first | omega | (simp only [SD.down,uA,uL] <;> omega) | fail) only [run_it,u7,u8,u15,u19,u20,u21,u22,dj3,wok,wsm,wlen,bok,bsm,lvok.1,lvok.2,env_P,env_L,TQ.down,resE,oneV, ↓reduceIte,reduceCtorEq,uB,uE,uL,uA,uM,uS,vL,vK,vE,vA,vS]
    rcases hcase with ⟨y0,rfl,rfl⟩ | ⟨y0,y1,β,Ms,stv,rfl,rfl,b1,b2,b3,b4,b5,b6,b7,b8⟩
    ·exact G.ok (hQ2 hn y0 lv (hb.next + 2) (h.next + 1) hc lvok.1 ⟨by have := kh.1; omega,fun j hj => by have := kh.1; rw [fc j (.inl (by omega)),k5.2 j (by omega),k4.2 j (by omega),fA j (by omega) (by omega)]; exact kh.2 j hj⟩)
    rcases M.ls with ⟨e1,_⟩ | ⟨Kl,Kr,e0,rfl,rfl,e1,e2,e3,e4,e5,e6,e7,e8,e9⟩
    ·omega
    let CF : Col := fun j => if j < hh.next then C j else if j < hb.next then 0 else if j < HC.next then kb + 1 else if j < H2.next then kr + 1 else if j < H4.next then 0 else kb
    have hCF : ∀ j,CF j = if j < hh.next then C j else if j < hb.next then 0 else if j < HC.next then kb + 1 else if j < H2.next then kr + 1 else if j < H4.next then 0 else kb := fun _ => rfl
    have cf1 : ∀ j,j < hh.next -> CF j = C j := fun j hj => by rw [hCF,if_pos hj]
    have cf2 : ∀ j,hh.next <= j -> j < hb.next -> CF j = 0 := fun j h1 h2 => by rw [hCF,if_neg (by omega),if_pos h2]
    have cf3 : ∀ j,hb.next <= j -> j < HC.next -> CF j = kb + 1 := fun j h1 h2 => by rw [hCF,if_neg (by omega),if_neg (by omega),if_pos h2]
    have cf4 : ∀ j,HC.next <= j -> j < H2.next -> CF j = kr + 1 := fun j h1 h2 => by rw [hCF,if_neg (by omega),if_neg (by omega),if_neg (by omega),if_pos h2]
    have cf5 : ∀ j,H2.next <= j -> j < H4.next -> CF j = 0 := fun j h1 h2 => by rw [hCF,if_neg (by omega),if_neg (by omega),if_neg (by omega),if_neg (by omega),if_pos h2]
    have cf6 : ∀ j,H4.next <= j -> CF j = kb := fun j h1 => by rw [hCF,if_neg (by omega),if_neg (by omega),if_neg (by omega),if_neg (by omega),if_neg (by omega)]
    clear_value CF
    have hkn := kh.1
    have fP5 : ∀ j,j < HP.next -> hc.get j = HP.get j := fun j hj => by rw [fc j (.inl hj),k5.2 j (by omega),k4.2 j hj]
    have f2c : ∀ j,j < H2.next -> j ≠ h.next + 1 -> hc.get j = H2.get j := fun j hj hne => by rw [fP5 j (by omega),fP j hj hne]
    have fhc : ∀ j,j < hh.next -> j ≠ h.next + 1 -> hc.get j = hh.get j := fun j hj hne => by rw [fP5 j (by omega),fA j hj hne]
    have hgρ : hc.get (h.next + 1) = some (Blk.cells [AV.eslice Kr 0 0 sl.length,AV.ptr cx 0,tv,AV.bool false,AV.nilslice] 0 false) := (fP5 _ (by omega)).trans gP
    have hcr := M.cr
    have lp := M.pl
    have lq := M.ql
    have BI : BusI hc CF kb β (hb.next + 2) ps (BS.mk0 sl (n,t) l) := by
     refine ⟨Ms,stv, .nilslice,by omega,cf6 _ (by omega),by omega,cf6 _ (by omega),b5, ?_, ?_,by simp [BS.mk0,lp],fun k p S hp hS => ?_, ?_, ?_, .inl ⟨rfl,rfl⟩⟩
     ·rw [fc β (.inr b1),b6]
      simp [BS.mk0,lp]
     ·rw [fc Ms (.inr b2),b7]
     ·have hS : (sl.map fun z => MS.new (secN z))[k]? = some S := hS
      rw [List.getElem?_map] at hS
      cases hz : sl[k]? with
      | none => rw [hz] at hS; cases hS
      | some z =>
       rw [hz] at hS
       cases hS
       have hks := (List.getElem?_eq_some_iff.1 hz).1
       refine (M.mm k p z hp hz).keep (by omega) (fun j hj hcj => fhc j hj fun e => ?_) fun j hj hcj => (cf1 j hj).trans hcj
       rw [e,hcr] at hcj
       omega
     ·refine ⟨.slice (hb.next + 1) 0 1 1,hb.next + 1,by omega,cf3 _ (by omega) (by omega),(f2c _ (by omega) (by omega)).trans ((k2.2 _ (by omega)).trans gC2), .inl ⟨(n,t),rfl,rfl,(f2c _ (by omega) (by omega)).trans ((k2.2 _ (by omega)).trans gC1),by omega⟩,cf3 _ (by omega) (by omega),by omega⟩
     ·refine (b8 CF cf6).keep (by omega) (fun j hj hcj _ _ => fc j ?_) fun j hj hcj => hcj
      by_cases q1 : j < HP.next
      ·exact .inl q1
      ·by_cases q2 : H4.next <= j
       ·exact .inr q2
       ·rw [cf5 j (by omega) (by omega)] at hcj
        omega
    have RI : RefB hc CF kr (h.next + 1) qs (RB.mk0 sl (n,t) l) := by
     refine ⟨Kr,cx,tv, .nilslice,by omega,(cf1 _ (by omega)).trans hcr,by omega,(cf1 _ (by omega)).trans e7, ?_,(fhc Kr (by omega) (by omega)).trans e9,by simp [RB.mk0,lq],fun k q R hq hR => ?_, ?_, ?_, .inl ⟨rfl,rfl⟩⟩
     ·rw [hgρ]
      simp [RB.mk0]
     ·have hR : (sl.map fun z => RS.new (secN z))[k]? = some R := hR
      rw [List.getElem?_map] at hR
      cases hz : sl[k]? with
      | none => rw [hz] at hR; cases hR
      | some z =>
       rw [hz] at hR
       cases hR
       obtain ⟨q1,q2,q3⟩ := M.rr k q z hq hz
       exact ⟨.nilslice, .nilslice, .nilslice,by omega,(cf1 _ q1).trans q2,(fhc q q1 (fun e => by rw [e,hcr] at q2; omega)).trans q3, .inl ⟨rfl,rfl⟩, .inl ⟨rfl,rfl⟩, .inl ⟨rfl,rfl⟩⟩
     ·have := hRC CF (kr + 1) (fun j h1 h2 => cf4 j h1 h2)
      refine RCellI.fr (K := fun k => k ≠ kr + 1) this ⟨by omega,fun j hj hq => f2c j hj fun e => ?_⟩ (fun q => q rfl) fun _ _ => rfl
      have hq : CF j = kr + 1 := Classical.not_not.1 hq
      rw [e,cf1 _ (by omega),hcr] at hq
      omega
     ·rcases ht2 with ⟨z0,rfl⟩ | ⟨K,z0,rfl,z1,z2,z3⟩
      ·exact .inl ⟨List.eq_nil_of_length_eq_zero z0,rfl⟩
      ·refine .inr ⟨K,us,fun e => z0 (by rw [show l = [] from e]; rfl),rfl,by omega,cf2 _ z1 z2,ul, ?_,fun k s u hs hu => ?_⟩
       ·rw [List.take_of_length_le (by rw [List.length_zip]; omega)] at z3
        exact ((f2c K (by omega) (by omega)).trans ((k2.2 K (by omega)).trans (kC.2 K z2))).trans z3
       ·obtain ⟨_,_,_,_,u',_,hu',_,_,hpu⟩ := ui k s hs
        rw [hu] at hu'
        cases hu'
        rcases hpu with y | ⟨Kp,o,m,Cp,extp,rop,y0,rfl,y1,y2,y3⟩
        ·exact .inl y
        ·exact .inr ⟨Kp,o,m,Cp,extp,rop,y0,rfl,by omega,(cf1 _ (by omega)).trans ((hC _ y1).trans (hc0 _ y1)),(fhc Kp (by omega) (by omega)).trans ((kh.2 Kp y1).trans y2),y3⟩
    have TT : Two hc CF kb β (hb.next + 2) ps (BS.mk0 sl (n,t) l) kr (h.next + 1) qs (RB.mk0 sl (n,t) l) :=
     ⟨BI,RI,mk0_rel sl (n,t) l,mk0_wfB y0 y1 ht hsn hsd,mk0_wfR y1 ht hn hsn hsd _ (by have := cntL_le (RB.mk0 sl (n,t) l).log.length (RB.mk0 sl (n,t) l).steps; simp only [RB.mk0,List.length_nil] at this ⊢; omega),by simp [BS.mk0],hpk,hsn⟩
    have hQ := hQ3 hn y0 y1 β (hb.next + 2) (h.next + 1) Kl ps qs CF _ _ hc TT (by omega) ((cf1 _ (by omega)).trans e6) ((fhc Kl (by omega) (by omega)).trans e8) lp rfl ⟨by omega,fun j hj => (fhc j (by omega) (by omega)).trans (kh.2 j hj)⟩ (fun j hj => (cf1 j (by omega)).trans (hC j hj))
    rw [lp] at hQ
    exact G.ok hQ
   ·rintro j mm3 υ hc ⟨q,hq,u7,u8,u15,u19,u20,u21,u22,nc,fc,gw⟩ ih
    have dj3 : decide ((q : Int) < (l.length : Int)) = true := decide_eq_true (by omega)
    rcases wk with ⟨e0,_⟩ | ⟨K,cs0,h0,rfl,wK1,wK2,wK3,wK4⟩
    ·rw [e0] at hq; simp at hq
    obtain ⟨cs,cl0,gK⟩ := gw K rfl
    have hv70 : ((stpZ.set 0 (AV.int IntKind.i64 (q : Int))).set 1 (AV.int IntKind.i64 1)).length = 70 := by simp [stpZ_len]
    have hvs : allSc ((stpZ.set 0 (AV.int IntKind.i64 (q : Int))).set 1 (AV.int IntKind.i64 1)) = true := by kernel_rfl
    obtain ⟨cs',eo,cl1⟩ := over_len (q * 70) ((stpZ.set 0 (AV.int IntKind.i64 (q : Int))).set 1 (AV.int IntKind.i64 1)) cs (by rw [hv70,cl0]; omega) hvs
    have hql : q < l.length := by omega
    have spl := stpZ_len
    simp (disch := first | omega | (simp only [SD.down,uA,uL] <;> omega) | fail) only [run_it,u7,u8,u15,u19,u20,u21,u22,dj3,wok,wsm,wlen,gK,eo,hv70,hql,zz_fold,stpZ_fold,spl,env_P,env_L,TQ.down,resE,oneV, ↓reduceIte,reduceCtorEq,uB,uE,uL,uA,uM,uS,vL,vK,vE,vA,vS]
    refine ih _ _ ⟨q + 1,by omega,by simp (disch := omega) only [u7,TH.down,uA,uB],by simp (disch := omega) only [u8,TH.down,uA,uB],by simp (disch := omega) only [u15,TH.down,uA,uB],by simp (disch := omega) only [u19,TH.down,uA,uB],by simp (disch := omega) only [u20,TH.down,uA,uB],by simp (disch := omega) only [u21,TH.down,uA,uB],by simp (disch := omega) only [TH.down,uA,uB],by simp (disch := omega) only [TH.down,uA,uB]; exact nc,fun j hj => ?_,fun K' hK' => ?_⟩
    ·have : j ≠ K := by omega
     simp (disch := omega) only [TH.down,uA,uB]
     exact fc j hj
    ·rw [<- (AV.eslice.inj hK').1]
     exact ⟨cs',by rw [cl1,cl0],by simp (disch := omega) only [TH.down,uA,uB]⟩
   ·refine ⟨0,by omega,by simp (disch := omega) only [t7,TQ.down,resE,oneV, ↓reduceIte,reduceCtorEq,uB,uE,uL,uA,uM,vE],by simp (disch := omega) only [t8,TQ.down,resE,oneV, ↓reduceIte,reduceCtorEq,uB,uE,uL,uA,uM,vE],by simp (disch := omega) only [TQ.down,resE,oneV, ↓reduceIte,reduceCtorEq,uB,uE,uL,uA,uM,vE],by simp (disch := omega) only [TQ.down,resE,oneV, ↓reduceIte,reduceCtorEq,uB,uE,uL,uA,uM,vE],by simp (disch := omega) only [TQ.down,resE,oneV, ↓reduceIte,reduceCtorEq,uB,uE,uL,uA,uM,vE],by simp (disch := omega) only [TQ.down,resE,oneV, ↓reduceIte,reduceCtorEq,uB,uE,uL,uA,uM,vE],by simp (disch := omega) only [TQ.down,resE,oneV, ↓reduceIte,reduceCtorEq,uB,uE,uL,uA,uM,vE],rfl,fun _ _ => rfl,fun K hK => ?_⟩
    rcases wk with ⟨_,e1⟩ | ⟨K2,cs0,h0,e1,wK1,wK2,wK3,wK4⟩
    ·rw [e1] at hK; cases hK
    ·rw [e1] at hK
     rw [<- (AV.eslice.inj hK).1]
     exact ⟨cs0,wK3,(k5.2 K2 (by omega)).trans wK4⟩
  ·rintro j mm2 τ hb ⟨i,tv,hi,t1,t7,t8,t13,nb,fb,gb,ht2⟩ ih
   have dj : decide ((i : Int) < (l.length : Int)) = true := decide_eq_true (by omega)
   obtain ⟨s,hs⟩ : ∃ s,l[i]? = some s := ⟨_,List.getElem?_eq_getElem (by omega)⟩
   obtain ⟨K,junk,ext,ro,u,hK1,hu,hK2,hK3,hpu⟩ := ui i s hs
   have hsl := hsd s (List.mem_of_getElem? hs)
   have hcut := stps_cut (junk := junk) hsd ul hs hu
   obtain ⟨uok,usc,usm⟩ := hpu.ok
   have gcb := (fb h.next (by omega) (by omega)).trans gc
   have gKb := (fb K (by have := kh.1; omega) (by omega)).trans ((kh.2 K hK1).trans hK2)
   have spl := stpZ_len
   have scl := s.C_len u hsl
   have sov := stp_ov s u hsl usc
   have b1 : (s.C u)[1]? = some (.int .i64 s.kind) := rfl
   have b2 : (s.C u)[2]? = some (.int .i64 s.m) := rfl
   have b3 : (s.C u)[3]? = some (.int .i64 s.i) := rfl
   have b4 : (s.C u)[4]? = some (.int .i64 s.n) := rfl
   have b5 : cutE 5 64 (s.C u) = some (B s.data) := stp_data hsl
   have b69 : (s.C u)[69]? = some u := by
    show (B s.data ++ [u])[64]? = _
    rw [List.getElem?_append_right (by simp [B_len,hsl])]
    simp [B_len,hsl]
   have ucl := hpu.cl
   have o5 := stp_mk s hsl
   have o69 := stp_pk s u hsl usc
   have tok : okv tv = some tv /\ AV.same tv tv = true /\ tv.cells = [tv] /\ isSc tv = true := by
    rcases ht2 with ⟨_,rfl⟩ | ⟨K,_,rfl,_⟩
    ·exact ⟨rfl,rfl,rfl,rfl⟩
    ·exact ⟨rfl,same_eslice ..,rfl,rfl⟩
   simp (disch := first | omega | (simp only [SD.down,uA,uL] <;> omega) | fail) only [run_it,t1,t7,t8,t13,gcb,gb,tok.1,tok.2.1,c34,sok,slen,dj,hK3,gKb,hcut,zz_fold,stpZ_fold,spl,stp_0,b1,b2,b3,b4,b69,b5,scl,sov,uok,usm,hsl,bs98 s u hsl usc,ucl,o5,o69,env_P,env_L,TQ.down,resE,oneV, ↓reduceIte,reduceCtorEq,uB,uE,uL,uA,uM,uS,vL,vK,vE,vA,vS]
   have kQ : Keeps hb (((hb.new (Blk.cells stpZ 0 false)).put hb.next (some (Blk.cells (s.C u) 0 false))).new (Blk.cells (s.C u) 0 false)) := ⟨by simp (disch := first | omega | (simp only [SD.down,uA,uL] <;> omega) | fail) only [TQ.down,resE,oneV, ↓reduceIte,reduceCtorEq,uB,uE,uL,uA,uM,uS,vL,vK,vE,vA,vS]; omega,fun j hj => by simp (disch := first | omega | (simp only [SD.down,uA,uL] <;> omega) | fail) only [TQ.down,resE,oneV, ↓reduceIte,reduceCtorEq,uB,uE,uL,uA,uM,uS,vL,vK,vE,vA,vS]⟩
   have gQ : (((hb.new (Blk.cells stpZ 0 false)).put hb.next (some (Blk.cells (s.C u) 0 false))).new (Blk.cells (s.C u) 0 false)).get (hb.next + 1) = some (Blk.cells (s.C u) 0 false) := by simp (disch := first | omega | (simp only [SD.down,uA,uL] <;> omega) | fail) only [TQ.down,resE,oneV, ↓reduceIte,reduceCtorEq,uB,uE,uL,uA,uM,uS,vL,vK,vE,vA,vS]
   have nQ : (((hb.new (Blk.cells stpZ 0 false)).put hb.next (some (Blk.cells (s.C u) 0 false))).new (Blk.cells (s.C u) 0 false)).next = hb.next + 2 := by simp (disch := omega) only [TH.down,uA,uB]
   generalize (((hb.new (Blk.cells stpZ 0 false)).put hb.next (some (Blk.cells (s.C u) 0 false))).new (Blk.cells (s.C u) 0 false)) = HQ at kQ gQ nQ ⊢
   have hzip : (l.zip us)[i]? = some (s,u) := by rw [List.getElem?_zip_eq_some]; exact ⟨hs,hu⟩
   have et : stpsC ((l.zip us).take (i + 1)) = stpsC ((l.zip us).take i) ++ s.C u := by
    rw [List.take_add_one,hzip]
    simp [stpsC]
   have hap : ∃ HZ,appE Try.prog 98 tv (.slice (hb.next + 1) 0 1 1) HQ = some (.eslice (hb.next + 2) 0 0 (i + 1),HZ) /\ HZ.next = hb.next + 3 /\ HZ.get (hb.next + 2) = some (.cells (stpsC ((l.zip us).take (i + 1))) 70 false) /\ ∀ j,j < hh.next -> HZ.get j = hb.get j := by
    rcases ht2 with ⟨rfl,rfl⟩ | ⟨K2,_,rfl,y1,y2,y3⟩
    ·refine ⟨_,by rw [app_nil el98 gQ (stp_cut s u hsl) (s.C_len u hsl) (s.C_sc u usc),nQ],by rw [show (HQ.new _).next = HQ.next + 1 from rfl,nQ], ?_,fun j hj => ?_⟩
     ·rw [et,<- nQ]
      exact new_same _ _
     ·rw [new_ne _ _ (by omega)]
      exact kQ.2 j (by omega)
    ·have y3' := (kQ.2 K2 y2).trans y3
     have hol : (stpsC ((l.zip us).take i)).length = i * 70 := by
      have := flat_len (fun x : Stp × AV => x.1.C x.2) 70 ((l.zip us).take i) (fun x hx => x.1.C_len x.2 (hsd _ (List.of_mem_zip (List.mem_of_mem_take hx)).1))
      rw [List.length_take,List.length_zip] at this
      refine this.trans ?_
      congr 1
      omega
     refine ⟨_,by rw [app_es el98 y3' hol (by omega) gQ (stp_cut s u hsl) (s.C_len u hsl) (s.C_sc u usc),nQ],by rw [show ((HQ.put K2 none).new _).next = HQ.next + 1 from rfl,nQ], ?_,fun j hj => ?_⟩
     ·rw [et,<- nQ]
      exact new_same (HQ.put K2 none) _
     ·rw [new_ne _ _ (by show j ≠ HQ.next; omega),get_put_ne (by omega)]
      exact kQ.2 j (by omega)
   obtain ⟨HZ,ea,nZ,gZ,fZ⟩ := hap
   have gb2 := (kQ.2 (h.next + 1) (by omega)).trans gb
   have gb3 := (fZ (h.next + 1) (by omega)).trans gb
   simp (disch := first | omega | (simp only [SD.down,uA,uL] <;> omega) | fail) only [cls_append,ap98,ea,gb,gb2,gb3,tok.1,tok.2.1,tok.2.2.1,tok.2.2.2,t1,t7,t8,t13,env_P,env_L,TQ.down,resE,oneV, ↓reduceIte,reduceCtorEq,uB,uE,uL,uA,uM,uS,vL,vK,vE,vA,vS]
   refine ih _ _ ⟨i + 1, .eslice (hb.next + 2) 0 0 (i + 1),by omega,by simp (disch := omega) only [t1,TH.down,uA,uB],by simp (disch := omega) only [t7,TH.down,uA,uB],by simp (disch := omega) only [t8,TH.down,uA,uB],by simp (disch := omega) only [TH.down,uA,uB],by simp (disch := omega) only [TH.down,uA,uB]; omega,fun j hj hne => ?_,by simp (disch := omega) only [TH.down,uA,uB], .inr ⟨hb.next + 2,by omega,rfl,by omega,by simp (disch := omega) only [TH.down,uA,uB]; omega,by simp (disch := omega) only [TH.down,uA,uB]; exact gZ⟩⟩
   simp (disch := omega) only [TH.down,uA,uB]
   exact (fZ j hj).trans (fb j hj hne)
  ·exact ⟨0, .nilslice,by omega,by simp (disch := omega) only [s1,TQ.down,resE,oneV, ↓reduceIte,reduceCtorEq,uB,uE,uL,uA,uM,vE],by simp (disch := omega) only [s7,TQ.down,resE,oneV, ↓reduceIte,reduceCtorEq,uB,uE,uL,uA,uM,vE],by simp (disch := omega) only [s8,TQ.down,resE,oneV, ↓reduceIte,reduceCtorEq,uB,uE,uL,uA,uM,vE],by simp (disch := omega) only [TQ.down,resE,oneV, ↓reduceIte,reduceCtorEq,uB,uE,uL,uA,uM,vE],Nat.le_refl _,fun _ _ _ => rfl,gr, .inl ⟨rfl,rfl⟩⟩
 ·rintro j mm σ hh ⟨i,ps,qs,lv,rv,C,hi,s1,s7,s8,s9,M,gc,gr,kh,hC⟩ ih
  have di : decide ((i : Int) < (sl.length : Int)) = true := decide_eq_true (by omega)
  obtain ⟨z,hz⟩ : ∃ z,sl[i]? = some z := ⟨_,List.getElem?_eq_getElem (by omega)⟩
  rcases hs with ⟨rfl,_⟩ | ⟨Ks,ns,ro,rfl,ks1,ks2⟩
  ·simp at hz
  have gK := (kh.2 Ks ks1).trans ks2
  have hzm : (sl.map (AV.int .i64 ·))[i]? = some (.int .i64 z) := by rw [List.getElem?_map,hz]; rfl
  have hil : i < sl.length := by omega
  have e63 := fun u => bin_and63 (P := Try.prog) (u := u) z
  have hmn := fun d H => mnewN d H ((z % 64).toNat + 1) (by omega) (by omega)
  have hNi : h.next + 2 <= hh.next := M.le
  have P0 : PL hh lv ps /\ PL hh rv qs /\ (∀ j : Nat,lv = .eslice j 0 0 ps.length -> h.next + 1 < j /\ C j = 0) /\ (∀ j : Nat,rv = .eslice j 0 0 qs.length -> h.next + 1 < j /\ C j = 0 /\ lv ≠ .eslice j 0 0 ps.length) := by
   rcases M.ls with ⟨e1,rfl,rfl⟩ | ⟨Kl,Kr,e0,rfl,rfl,e1,e2,e3,e4,e5,e6,e7,e8,e9⟩
   ·refine ⟨.inl ⟨List.eq_nil_of_length_eq_zero (by rw [M.pl]; exact e1),rfl⟩, .inl ⟨List.eq_nil_of_length_eq_zero (by rw [M.ql]; exact e1),rfl⟩,(fun j hj => by cases hj),(fun j hj => by cases hj)⟩
   ·refine ⟨.inr ⟨Kl,fun e => e0 (by rw [<- M.pl,e]; rfl),by rw [M.pl],e4,e8⟩, .inr ⟨Kr,fun e => e0 (by rw [<- M.ql,e]; rfl),by rw [M.ql],e5,e9⟩,(fun j hj => by rw [<- (AV.eslice.inj hj).1]; exact ⟨e2,e6⟩),(fun j hj => by rw [<- (AV.eslice.inj hj).1]; exact ⟨e3,e7,fun hj2 => e1 (AV.eslice.inj hj2).1⟩)⟩
  obtain ⟨PLl,PLr,Pl1,Pr1⟩ := P0
  obtain ⟨lok,lsm,lcl,lsc⟩ := PLl.ok
  obtain ⟨rok,rsm,rcl,rsc⟩ := PLr.ok
  have hpl : ps.length = i := M.pl
  have hql : qs.length = i := M.ql
  -- three blocks of the member,then the list's
  have kM : Keeps hh (((hh.new (Blk.map [] false)).new (Blk.map [] false)).new (Blk.cells (memG ((z % 64).toNat + 1) hh.next (hh.next + 1) AV.nilslice AV.nilslice false false) 0 false)) := ⟨by simp (disch := first | omega | (simp only [SD.down,uA,uL] <;> omega) | fail) only [TQ.down,resE,oneV, ↓reduceIte,reduceCtorEq,uB,uE,uL,uA,uM,uS,vL,vK,vE,vA,vS]; omega,fun j hj => by simp (disch := first | omega | (simp only [SD.down,uA,uL] <;> omega) | fail) only [TQ.down,resE,oneV, ↓reduceIte,reduceCtorEq,uB,uE,uL,uA,uM,uS,vL,vK,vE,vA,vS]⟩
  have nM : (((hh.new (Blk.map [] false)).new (Blk.map [] false)).new (Blk.cells (memG ((z % 64).toNat + 1) hh.next (hh.next + 1) AV.nilslice AV.nilslice false false) 0 false)).next = hh.next + 3 := by simp (disch := omega) only [TH.down,uA,uB]
  have m0 : (((hh.new (Blk.map [] false)).new (Blk.map [] false)).new (Blk.cells (memG ((z % 64).toNat + 1) hh.next (hh.next + 1) AV.nilslice AV.nilslice false false) 0 false)).get hh.next = some (.map [] false) := by simp (disch := first | omega | (simp only [SD.down,uA,uL] <;> omega) | fail) only [TQ.down,resE,oneV, ↓reduceIte,reduceCtorEq,uB,uE,uL,uA,uM,uS,vL,vK,vE,vA,vS]
  have m1 : (((hh.new (Blk.map [] false)).new (Blk.map [] false)).new (Blk.cells (memG ((z % 64).toNat + 1) hh.next (hh.next + 1) AV.nilslice AV.nilslice false false) 0 false)).get (hh.next + 1) = some (.map [] false) := by simp (disch := first | omega | (simp only [SD.down,uA,uL] <;> omega) | fail) only [TQ.down,resE,oneV, ↓reduceIte,reduceCtorEq,uB,uE,uL,uA,uM,uS,vL,vK,vE,vA,vS]
  have m2 : (((hh.new (Blk.map [] false)).new (Blk.map [] false)).new (Blk.cells (memG ((z % 64).toNat + 1) hh.next (hh.next + 1) AV.nilslice AV.nilslice false false) 0 false)).get (hh.next + 2) = some (.cells (memG ((z % 64).toNat + 1) hh.next (hh.next + 1) AV.nilslice AV.nilslice false false) 0 false) := by simp (disch := first | omega | (simp only [SD.down,uA,uL] <;> omega) | fail) only [TQ.down,resE,oneV, ↓reduceIte,reduceCtorEq,uB,uE,uL,uA,uM,uS,vL,vK,vE,vA,vS]
  simp (disch := first | omega | (simp only [SD.down,uA,uL] <;> omega) | fail) only [run_it,s1,s7,s8,s9,gc,gr,c0,eok,elen,di,gK,hzm,hil,e63,hmn,lok,lncI,lnoI,env_P,env_L,TQ.down,resE,oneV, ↓reduceIte,reduceCtorEq,uB,uE,uL,uA,uM,uS,vL,vK,vE,vA,vS]
  generalize (((hh.new (Blk.map [] false)).new (Blk.map [] false)).new (Blk.cells (memG ((z % 64).toNat + 1) hh.next (hh.next + 1) AV.nilslice AV.nilslice false false) 0 false)) = HM at kM nM m0 m1 m2 ⊢
  have kX : Keeps HM (HM.new (.cells [.ptr (hh.next + 2) 0] 0 false)) := ⟨Nat.le_succ _,fun j hj => new_ne _ _ (by omega)⟩
  obtain ⟨X',ea1,nX,gX,fX⟩ := appP el50 (p := hh.next + 2) (q := HM.next) ((PLl.keep kM.1 fun j hj _ => kM.2 j hj).keep kX.1 fun j hj _ => kX.2 j hj) (by omega) (new_same HM _)
  have enX : (HM.new (.cells [.ptr (hh.next + 2) 0] 0 false)).next = HM.next + 1 := rfl
  rw [enX] at ea1 nX gX fX
  have fX2 : ∀ j,j < HM.next -> lv ≠ .eslice j 0 0 ps.length -> X'.get j = HM.get j := fun j hj he => (fX j (by omega) he).trans (kX.2 j hj)
  have kY : Keeps X' ((X'.new (.cells (refG ((z % 64).toNat + 1) .nilslice .nilslice .nilslice false false) 0 false)).new (.cells [.ptr X'.next 0] 0 false)) := ⟨by simp [Heap.new]; omega,fun j hj => by rw [new_ne _ _ (by simp [Heap.new]; omega),new_ne _ _ (by omega)]⟩
  have PLr2 : PL X' rv qs := PLr.keep (by omega) fun j hj e => by
   obtain ⟨_,_,q3⟩ := Pr1 j e
   rw [fX2 j (by omega) q3]
   exact kM.2 j hj
  obtain ⟨Z',ea2,nZ,gZ,fZ⟩ := appP el96 (p := X'.next) (q := X'.next + 1) (PLr2.keep kY.1 fun j hj _ => kY.2 j hj) (by omega) (new_same (X'.new (.cells (refG ((z % 64).toNat + 1) .nilslice .nilslice .nilslice false false) 0 false)) (.cells [.ptr X'.next 0] 0 false))
  have enY : ((X'.new (.cells (refG ((z % 64).toNat + 1) .nilslice .nilslice .nilslice false false) 0 false)).new (.cells [.ptr X'.next 0] 0 false)).next = X'.next + 2 := rfl
  rw [enY] at ea2 nZ gZ fZ
  have hne1 : ∀ j,j <= h.next + 1 -> lv ≠ .eslice j 0 0 ps.length := fun j hj e => by have := (Pl1 j e).1; omega
  have hne2 : ∀ j,j <= h.next + 1 -> rv ≠ .eslice j 0 0 qs.length := fun j hj e => by have := (Pr1 j e).1; omega
  have gc3 := ((((fZ h.next (by omega) (hne2 _ (by omega))).trans (kY.2 _ (by omega))).trans (fX2 h.next (by omega) (hne1 _ (by omega)))).trans (kM.2 _ (by omega))).trans gc
  have gr2 : X'.get (h.next + 1) = some (Blk.cells [rv,AV.nilptr,AV.nilslice,AV.bool false,AV.nilslice] 0 false) := ((fX2 _ (by omega) (hne1 _ (by omega))).trans (kM.2 _ (by omega))).trans gr
  have gr3 : Z'.get (h.next + 1) = some (Blk.cells [rv,AV.nilptr,AV.nilslice,AV.bool false,AV.nilslice] 0 false) := ((fZ _ (by omega) (hne2 _ (by omega))).trans (kY.2 _ (by omega))).trans gr2
  simp (disch := first | omega | (simp only [SD.down,uA,uL] <;> omega) | fail) only [bsL1,bsR1,cls_append,ap50,ap96,ea1,ea2,rmade,gr2,gr3,lok,lsm,rok,rsm,rcl,rsc,env_P,env_L,s8,s9,TQ.down,resE,oneV, ↓reduceIte,reduceCtorEq,uB,uE,uL,uA,uM,uS,vL,vK,vE,vA,vS]
  have eL : (Z'.put (h.next + 1) (some (Blk.cells [AV.eslice (X'.next + 2) 0 0 (qs.length + 1),AV.nilptr,AV.nilslice,AV.bool false,AV.nilslice] 0 false))).next = hh.next + 8 := by simp (disch := omega) only [TH.down,uA,uB]; omega
  have fL : ∀ j,j ≠ h.next + 1 -> (Z'.put (h.next + 1) (some (Blk.cells [AV.eslice (X'.next + 2) 0 0 (qs.length + 1),AV.nilptr,AV.nilslice,AV.bool false,AV.nilslice] 0 false))).get j = Z'.get j := fun j hj => get_put_ne hj
  have gL : (Z'.put (h.next + 1) (some (Blk.cells [AV.eslice (X'.next + 2) 0 0 (qs.length + 1),AV.nilptr,AV.nilslice,AV.bool false,AV.nilslice] 0 false))).get (h.next + 1) = some (Blk.cells [AV.eslice (X'.next + 2) 0 0 (qs.length + 1),AV.nilptr,AV.nilslice,AV.bool false,AV.nilslice] 0 false) := get_put_same ..
  generalize (Z'.put (h.next + 1) (some (Blk.cells [AV.eslice (X'.next + 2) 0 0 (qs.length + 1),AV.nilptr,AV.nilslice,AV.bool false,AV.nilslice] 0 false))) = HF at eL fL gL ⊢
  -- a block of the heap ahead,if it is none of the lists
  have old : ∀ j,j < hh.next -> j ≠ h.next + 1 -> C j ≠ 0 \/ j <= h.next + 1 -> HF.get j = hh.get j := fun j hj h1 h2 => by
   have q1 : lv ≠ .eslice j 0 0 ps.length := fun e => by have := Pl1 j e; omega
   have q2 : rv ≠ .eslice j 0 0 qs.length := fun e => by have := Pr1 j e; omega
   rw [fL j h1,fZ j (by omega) q2,kY.2 j (by omega),fX2 j (by omega) q1,kM.2 j hj]
  have nX2 : X'.next = hh.next + 5 := by omega
  let C' : Col := fun j => if j < hh.next then C j else if j < hh.next + 3 then kb + 2 + i else if j = hh.next + 5 then kr + 2 + i else 0
  have hC' : ∀ j,j < hh.next -> C' j = C j := fun j hj => if_pos hj
  have hCm : ∀ j,hh.next <= j -> j < hh.next + 3 -> C' j = kb + 2 + i := fun j h1 h2 => by show (if j < hh.next then C j else if j < hh.next + 3 then kb + 2 + i else if j = hh.next + 5 then kr + 2 + i else 0) = _; rw [if_neg (by omega),if_pos h2]
  have hCr : C' (hh.next + 5) = kr + 2 + i := by show (if hh.next + 5 < hh.next then C (hh.next + 5) else if hh.next + 5 < hh.next + 3 then kb + 2 + i else if hh.next + 5 = hh.next + 5 then kr + 2 + i else 0) = _; rw [if_neg (by omega),if_neg (by omega),if_pos rfl]
  have hCz : ∀ j,j = hh.next + 4 \/ j = hh.next + 7 -> C' j = 0 := fun j hj => by show (if j < hh.next then C j else if j < hh.next + 3 then kb + 2 + i else if j = hh.next + 5 then kr + 2 + i else 0) = _; rw [if_neg (by omega),if_neg (by omega),if_neg (by omega)]
  have new3 : ∀ j,hh.next <= j -> j < hh.next + 3 -> HF.get j = HM.get j := fun j h1 h2 => by
   have q1 : lv ≠ .eslice j 0 0 ps.length := fun e => by
    rcases PLl with ⟨_,e2⟩ | ⟨K,_,e2,e3,_⟩
    ·rw [e2] at e; cases e
    ·rw [e2] at e; have := (AV.eslice.inj e).1; omega
   have q2 : rv ≠ .eslice j 0 0 qs.length := fun e => by
    rcases PLr with ⟨_,e2⟩ | ⟨K,_,e2,e3,_⟩
    ·rw [e2] at e; cases e
    ·rw [e2] at e; have := (AV.eslice.inj e).1; omega
   rw [fL j (by omega),fZ j (by omega) q2,kY.2 j (by omega),fX2 j (by omega) q1]
  have rbig : ∀ j,hh.next <= j -> rv ≠ .eslice j 0 0 qs.length := fun j hj e => by
   rcases PLr with ⟨_,e2⟩ | ⟨K,_,e2,e3,_⟩
   ·rw [e2] at e; cases e
   ·rw [e2] at e; have := (AV.eslice.inj e).1; omega
  have g4 : HF.get (hh.next + 4) = some (.cells ((ps ++ [hh.next + 2]).map (AV.ptr · 0)) 1 false) := by
   rw [fL _ (by omega),fZ _ (by omega) (rbig _ (by omega)),kY.2 _ (by omega),show hh.next + 4 = HM.next + 1 by omega]
   exact gX
  have g5 : HF.get (hh.next + 5) = some (.cells (refG (secN z) .nilslice .nilslice .nilslice false false) 0 false) := by
   rw [fL _ (by omega),fZ _ (by omega) (rbig _ (by omega)),show hh.next + 5 = X'.next by omega,new_ne _ _ (by simp [Heap.new])]
   exact new_same _ _
  have g7 : HF.get (hh.next + 7) = some (.cells ((qs ++ [X'.next]).map (AV.ptr · 0)) 1 false) := by
   rw [fL _ (by omega),show hh.next + 7 = X'.next + 2 by omega]
   exact gZ
  refine ih _ _ ⟨i + 1,ps ++ [hh.next + 2],qs ++ [X'.next], .eslice (HM.next + 1) 0 0 (ps.length + 1), .eslice (X'.next + 2) 0 0 (qs.length + 1),C',by omega,by simp (disch := omega) only [s1,TH.down,uA,uB],by simp (disch := omega) only [TH.down,uA,uB],by simp (disch := omega) only [s8,TH.down,uA,uB],by simp (disch := omega) only [TH.down,uA,uB],⟨by simp [hpl],by simp [hql],by omega,(hC' _ (by omega)).trans M.cr, .inr ⟨hh.next + 4,hh.next + 7,by omega,by rw [hpl,nM],by rw [hql,nX2],by omega,by omega,by omega,by omega,by omega,hCz _ (.inl rfl),hCz _ (.inr rfl),g4,g7⟩,fun k p z' hp hz' => ?_,fun k q z' hq hz' => ?_⟩, ?_,gL,⟨by have := kh.1; omega,fun j hj => ?_⟩,fun j hj => (hC' j (by omega)).trans (hC j hj)⟩
  ·by_cases hk : k < ps.length
   ·rw [List.getElem?_append_left hk] at hp
    exact (M.mm k p z' hp hz').keep (by omega) (fun j hj hc => old j hj (fun e => by have := M.cr; rw [e] at hc; omega) (.inl (by omega))) fun j hj hc => (hC' j hj).trans hc
   ·rw [List.getElem?_append_right (by omega)] at hp
    cases e : k - ps.length with
    | zero =>
     rw [e] at hp
     simp at hp
     subst hp
     obtain rfl : k = i := by omega
     rw [hz] at hz'
     cases hz'
     exact ⟨hh.next,hh.next + 1, .nilslice, .nilslice,by omega,by omega,by omega,hCm _ (by omega) (by omega),hCm _ (by omega) (by omega),hCm _ (by omega) (by omega),by omega,by omega,by omega,(new3 _ (by omega) (by omega)).trans m2,(new3 _ (by omega) (by omega)).trans m0,(new3 _ (by omega) (by omega)).trans m1, .inl ⟨rfl, .inl rfl⟩, .inl ⟨rfl,rfl⟩⟩
    | succ n => rw [e] at hp; simp at hp
  ·by_cases hk : k < qs.length
   ·rw [List.getElem?_append_left hk] at hq
    obtain ⟨q1,q2,q3⟩ := M.rr k q z' hq hz'
    exact ⟨by omega,(hC' q q1).trans q2,(old q q1 (fun e => by have := M.cr; rw [e] at q2; omega) (.inl (by omega))).trans q3⟩
   ·rw [List.getElem?_append_right (by omega)] at hq
    cases e : k - qs.length with
    | zero =>
     rw [e] at hq
     simp at hq
     subst hq
     obtain rfl : k = i := by omega
     rw [hz] at hz'
     cases hz'
     rw [nX2]
     exact ⟨by omega,hCr,g5⟩
    | succ n => rw [e] at hq; simp at hq
  ·exact (fL _ (by omega)).trans gc3
  ·have := kh.1
   exact (old j (by omega) (by omega) (.inr (by omega))).trans (kh.2 j hj)
 ·exact ⟨0,[],[], .nilslice, .nilslice,pnt (pnt c h.next 0) (h.next + 1) kr,by omega,by simp (disch := omega) only [TQ.down,resE,oneV, ↓reduceIte,reduceCtorEq,uB,uE,uL,uA,uM,vE],by simp (disch := omega) only [TQ.down,resE,oneV, ↓reduceIte,reduceCtorEq,uB,uE,uL,uA,uM,vE],by simp (disch := omega) only [TQ.down,resE,oneV, ↓reduceIte,reduceCtorEq,uB,uE,uL,uA,uM,vE],by simp (disch := omega) only [TQ.down,resE,oneV, ↓reduceIte,reduceCtorEq,uB,uE,uL,uA,uM,vE], .nil (pnt_ge (Nat.le_refl _)) n0,g0,g1,k0,fun j hj => (pnt_lt (by omega)).trans (pnt_lt hj)⟩
end Go.Proofs.Ytfjcfjfgamajkaa
