/- Of this program, for all inputs: contracts. No condition but those in the theorems. -/
import Derived.Test.YtlnepbkeiianmaaLL
import Derived.Test.YtlnepbkeiianmaaAwA
namespace Go.Proofs.Ytlnepbkeiianmaa
open Go Go.Ai Go.Aw Go.Proofs
open Nat renaming reduceBEq -> uB,reduceEqDiff -> uE,reduceLT -> uL,reduceAdd -> uA,reduceMul -> uM,reduceSub -> uS,reduceAnd -> uN,reduceXor -> uX,reduceOr -> uO
open Int renaming reduceMod -> vR,reduceDiv -> vD,reduceLT -> vL,reduceLE -> vK,reduceEq -> vE,reduceAdd -> vA,reduceMul -> vM,reduceToNat -> vT,reduceSub -> vS
set_option linter.unusedSimpArgs false
set_option linter.unusedVariables false
set_option maxRecDepth 10000
def puC (a b c d : Nat) : List AV := [b8 a,b8 b,b8 c,b8 d]
theorem puC_at (a b c d q : Nat) (hq : q < 2) : (puC a b c d)[2 + q]? = some (b8 (if q = 0 then c else d)) := by
 have : q = 0 \/ q = 1 := by omega
 rcases this with rfl | rfl <;> rfl
structure WJ (hh : Heap) (C : Col) (g : List (Nat × Blk)) (βa cpa : Nat) (psa : List Nat) (ba : BS) (Da : Img) (βb cpb : Nat) (psb : List Nat) (bb : BS) (Db : Img) (N : Nat) : Prop where
 g : Lc hh C g
 a : HB hh C 100 βa cpa psa ba 54 (c4 Da)
 sa : ba.steps = []
 la : ba.log.length <= N
 b : HB hh C 200 βb cpb psb bb 54 (c4 Db)
 sb : bb.steps = []
 lb : bb.log.length <= N
 ua : Uq Da
 ub : Uq Db
theorem WJ.kp {hh h' : Heap} {C C' : Col} {g : List (Nat × Blk)} {βa cpa : Nat} {psa : List Nat} {ba : BS} {Da : Img} {βb cpb : Nat} {psb : List Nat} {bb : BS} {Db : Img} {N : Nat} (W : WJ hh C g βa cpa psa ba Da βb cpb psb bb Db N) (k : Keeps hh h') (e : ∀ j,j < hh.next -> C' j = C j) : WJ h' C' g βa cpa psa ba Da βb cpb psb bb Db N :=
 ⟨W.g.kp k e,W.a.keep k.1 (fun j hj _ _ => k.2 j hj) e,W.sa,W.la,W.b.keep k.1 (fun j hj _ _ => k.2 j hj) e,W.sb,W.lb,W.ua,W.ub⟩
theorem WJ.mono {hh : Heap} {C : Col} {g : List (Nat × Blk)} {βa cpa : Nat} {psa : List Nat} {ba : BS} {Da : Img} {βb cpb : Nat} {psb : List Nat} {bb : BS} {Db : Img} {N N' : Nat} (W : WJ hh C g βa cpa psa ba Da βb cpb psb bb Db N) (h : N <= N') : WJ hh C g βa cpa psa ba Da βb cpb psb bb Db N' :=
 ⟨W.g,W.a,W.sa,Nat.le_trans W.la h,W.b,W.sb,Nat.le_trans W.lb h,W.ua,W.ub⟩
theorem WJ.doA {hh h' : Heap} {C C' : Col} {g : List (Nat × Blk)} {βa cpa : Nat} {psa : List Nat} {ba : BS} {Da : Img} {βb cpb : Nat} {psb : List Nat} {bb : BS} {Db : Img} {N : Nat} (W : WJ hh C g βa cpa psa ba Da βb cpb psb bb Db N) {ba' : BS} {Da' : Img} {k : Nat} (B : HB h' C' 100 βa cpa psa ba' 54 (c4 Da')) (s : ba'.steps = []) (l : ba'.log.length <= ba.log.length + k) (fr : Fr (busK 100) C hh h') (e : ∀ j,j < hh.next -> C' j = C j) (u : Uq Da') : WJ h' C' g βa cpa psa ba' Da' βb cpb psb bb Db (N + k) :=
 ⟨W.g.fr (by omega) fr e,B,s,by have := W.la; omega,W.b.keep fr.le (fun j hj h1 h2 => fr.get j hj (by unfold busK; omega)) e,W.sb,by have := W.lb; omega,u,W.ub⟩
theorem WJ.doB {hh h' : Heap} {C C' : Col} {g : List (Nat × Blk)} {βa cpa : Nat} {psa : List Nat} {ba : BS} {Da : Img} {βb cpb : Nat} {psb : List Nat} {bb : BS} {Db : Img} {N : Nat} (W : WJ hh C g βa cpa psa ba Da βb cpb psb bb Db N) {bb' : BS} {Db' : Img} {k : Nat} (B : HB h' C' 200 βb cpb psb bb' 54 (c4 Db')) (s : bb'.steps = []) (l : bb'.log.length <= bb.log.length + k) (fr : Fr (busK 200) C hh h') (e : ∀ j,j < hh.next -> C' j = C j) (u : Uq Db') : WJ h' C' g βa cpa psa ba Da βb cpb psb bb' Db' (N + k) :=
 ⟨W.g.fr (by omega) fr e,W.a.keep fr.le (fun j hj h1 h2 => fr.get j hj (by unfold busK; omega)) e,W.sa,by have := W.la; omega,B,s,by have := W.lb; omega,W.ua,u⟩
set_option maxHeartbeats 8000000 in
theorem jorder_ok (d : Nat) (h : Heap) (xh xc x0 x1 oh oc o0 o1 : Nat) : G (callD env (d + 16) 4 [.agg (puC xh xc x0 x1), .agg (puC oh oc o0 o1)] h) fun v h' => v = .bool true := by
 refine G.gen fun Q hX => ?_
 have pl4 : ∀ a b c d,(puC a b c d).length = 4 := fun _ _ _ _ => rfl
 have g41 : overE 0 [AV.int .i64 4, .int .i64 1] (List.replicate 2 (AV.int .i64 0)) = some [.int .i64 4, .int .i64 1] := rfl
 rw [callD_run (E := env) [(12, .fl [(3,0,2),(4,0,2),(10,0,1),(15,0,1)]),(13, .fl [(3,0,2),(4,0,2),(10,0,1),(15,0,1)]),(17, .fl [(3,0,2),(4,0,2),(10,0,1),(15,0,1)]),(18, .fl [(3,0,2),(4,0,2),(11,0,1),(17,0,1)]),(33, .fl [(4,0,1)])] (by kernel_rfl) Try.func4 rfl (by rw [Try.ntmps4]; simp) (by kernel_rfl)]; simp (maxSteps := 2000000) (implicitDefEqProofs := false) (disch := first | omega | (simp only [SD.down,uA,uL] <;> omega) | fail) only [Try.ntmps4,Try.results4,env_P,env_L,TA.down,TL.down,same_nilslice,resE,oneV, ↓reduceIte,reduceCtorEq,uB,uE,uL,uA,uM,uS,uN,uX,uO,vR,vD,vL,vK,vE,vA,vM,vT,vS]
 first | refine G.call (small_ok1 (d + 6) _) ?_ | refine G.callC (small_ok1 (d + 6) _) ?_ | refine G.callL (small_ok1 (d + 6) _) ?_
 rintro v h1 ⟨rfl,k1⟩
 have n1 := k1.1
 simp (maxSteps := 2000000) (implicitDefEqProofs := false) (disch := first | omega | (simp only [SD.down,uA,uL] <;> omega) | fail) only [TA.down,TL.down,same_nilslice,resE,oneV, ↓reduceIte,reduceCtorEq,uB,uE,uL,uA,uM,uS,uN,uX,uO,vR,vD,vL,vK,vE,vA,vM,vT,vS] at n1
 have gx : h1.get h.next = some (.cells (puC xh xc x0 x1) 0 false) := by rw [k1.2 _ (by simp (maxSteps := 2000000) (implicitDefEqProofs := false) (disch := first | omega | (simp only [SD.down,uA,uL] <;> omega) | fail) only [TA.down,TL.down,same_nilslice,resE,oneV, ↓reduceIte,reduceCtorEq,uB,uE,uL,uA,uM,uS,uN,uX,uO,vR,vD,vL,vK,vE,vA,vM,vT,vS] <;> omega)]; simp (maxSteps := 2000000) (implicitDefEqProofs := false) (disch := first | omega | (simp only [SD.down,uA,uL] <;> omega) | fail) only [TA.down,TL.down,same_nilslice,resE,oneV, ↓reduceIte,reduceCtorEq,uB,uE,uL,uA,uM,uS,uN,uX,uO,vR,vD,vL,vK,vE,vA,vM,vT,vS]
 have go_ : h1.get (h.next + 1) = some (.cells (puC oh oc o0 o1) 0 false) := by rw [k1.2 _ (by simp (maxSteps := 2000000) (implicitDefEqProofs := false) (disch := first | omega | (simp only [SD.down,uA,uL] <;> omega) | fail) only [TA.down,TL.down,same_nilslice,resE,oneV, ↓reduceIte,reduceCtorEq,uB,uE,uL,uA,uM,uS,uN,uX,uO,vR,vD,vL,vK,vE,vA,vM,vT,vS] <;> omega)]; simp (maxSteps := 2000000) (implicitDefEqProofs := false) (disch := first | omega | (simp only [SD.down,uA,uL] <;> omega) | fail) only [TA.down,TL.down,same_nilslice,resE,oneV, ↓reduceIte,reduceCtorEq,uB,uE,uL,uA,uM,uS,uN,uX,uO,vR,vD,vL,vK,vE,vA,vM,vT,vS]
 unfold gA
 rw [s54]
 simp (maxSteps := 2000000) (implicitDefEqProofs := false) (disch := first | omega | (simp only [SD.down,uA,uL] <;> omega) | fail) only [g41,c33_fold,cz_fold,env_P,env_L,TA.down,TL.down,same_nilslice,resE,oneV, ↓reduceIte,reduceCtorEq,uB,uE,uL,uA,uM,uS,uN,uX,uO,vR,vD,vL,vK,vE,vA,vM,vT,vS]
 first | refine G.call (kit_nil (d + 6) _ (fun _ => 0) 100 1000 4 54 (by omega) (by omega) (by omega) (by omega) (by omega) (by omega)) ?_ | refine G.callC (kit_nil (d + 6) _ (fun _ => 0) 100 1000 4 54 (by omega) (by omega) (by omega) (by omega) (by omega) (by omega)) ?_ | refine G.callL (kit_nil (d + 6) _ (fun _ => 0) 100 1000 4 54 (by omega) (by omega) (by omega) (by omega) (by omega) (by omega)) ?_
 rintro v h2 ⟨Xa,βa,cpa,ρa,La,psa,C2,ba,rfl,L2,pla,B2,st2,lg2,k2,hC2⟩
 have n2 := k2.1
 simp (maxSteps := 2000000) (implicitDefEqProofs := false) (disch := first | omega | (simp only [SD.down,uA,uL] <;> omega) | fail) only [TA.down,TL.down,same_nilslice,resE,oneV, ↓reduceIte,reduceCtorEq,uB,uE,uL,uA,uM,uS,uN,uX,uO,vR,vD,vL,vK,vE,vA,vM,vT,vS] at n2
 simp (maxSteps := 2000000) (implicitDefEqProofs := false) (disch := first | omega | (simp only [SD.down,uA,uL] <;> omega) | fail) only [g41,c33_fold,cz_fold,env_P,env_L,TA.down,TL.down,same_nilslice,resE,oneV, ↓reduceIte,reduceCtorEq,uB,uE,uL,uA,uM,uS,uN,uX,uO,vR,vD,vL,vK,vE,vA,vM,vT,vS]
 first | refine G.call (kit_nil (d + 6) h2 C2 200 1000 4 54 (by omega) (by omega) (by omega) (by omega) (by omega) (by omega)) ?_ | refine G.callC (kit_nil (d + 6) h2 C2 200 1000 4 54 (by omega) (by omega) (by omega) (by omega) (by omega) (by omega)) ?_ | refine G.callL (kit_nil (d + 6) h2 C2 200 1000 4 54 (by omega) (by omega) (by omega) (by omega) (by omega) (by omega)) ?_
 rintro v h3 ⟨Xb,βb,cpb,ρb,Lb,psb,C3,bb,rfl,L3,plb,B3,st3,lg3,k3,hC3⟩
 have n3 := k3.1
 have gx2 : h2.get h.next = some (.cells (puC xh xc x0 x1) 0 false) := by rw [k2.2 _ (by simp (maxSteps := 2000000) (implicitDefEqProofs := false) (disch := first | omega | (simp only [SD.down,uA,uL] <;> omega) | fail) only [TA.down,TL.down,same_nilslice,resE,oneV, ↓reduceIte,reduceCtorEq,uB,uE,uL,uA,uM,uS,uN,uX,uO,vR,vD,vL,vK,vE,vA,vM,vT,vS] <;> omega)]; simp (maxSteps := 2000000) (implicitDefEqProofs := false) (disch := first | omega | (simp only [SD.down,uA,uL] <;> omega) | fail) only [gx,TA.down,TL.down,same_nilslice,resE,oneV, ↓reduceIte,reduceCtorEq,uB,uE,uL,uA,uM,uS,uN,uX,uO,vR,vD,vL,vK,vE,vA,vM,vT,vS]
 have go2 : h2.get (h.next + 1) = some (.cells (puC oh oc o0 o1) 0 false) := by rw [k2.2 _ (by simp (maxSteps := 2000000) (implicitDefEqProofs := false) (disch := first | omega | (simp only [SD.down,uA,uL] <;> omega) | fail) only [TA.down,TL.down,same_nilslice,resE,oneV, ↓reduceIte,reduceCtorEq,uB,uE,uL,uA,uM,uS,uN,uX,uO,vR,vD,vL,vK,vE,vA,vM,vT,vS] <;> omega)]; simp (maxSteps := 2000000) (implicitDefEqProofs := false) (disch := first | omega | (simp only [SD.down,uA,uL] <;> omega) | fail) only [go_,TA.down,TL.down,same_nilslice,resE,oneV, ↓reduceIte,reduceCtorEq,uB,uE,uL,uA,uM,uS,uN,uX,uO,vR,vD,vL,vK,vE,vA,vM,vT,vS]
 have gG2 : h2.get h1.next = some (.cells [.int .i64 4, .int .i64 1] 0 false) := by rw [k2.2 _ (by simp (maxSteps := 2000000) (implicitDefEqProofs := false) (disch := first | omega | (simp only [SD.down,uA,uL] <;> omega) | fail) only [TA.down,TL.down,same_nilslice,resE,oneV, ↓reduceIte,reduceCtorEq,uB,uE,uL,uA,uM,uS,uN,uX,uO,vR,vD,vL,vK,vE,vA,vM,vT,vS] <;> omega)]; simp (maxSteps := 2000000) (implicitDefEqProofs := false) (disch := first | omega | (simp only [SD.down,uA,uL] <;> omega) | fail) only [TA.down,TL.down,same_nilslice,resE,oneV, ↓reduceIte,reduceCtorEq,uB,uE,uL,uA,uM,uS,uN,uX,uO,vR,vD,vL,vK,vE,vA,vM,vT,vS]
 have W3 : WJ h3 C3 [(h.next, .cells (puC xh xc x0 x1) 0 false),(h.next + 1, .cells (puC oh oc o0 o1) 0 false),(h1.next, .cells [.int .i64 4, .int .i64 1] 0 false),(Xa,bnB βa La 4 cpa ρa),(La,psB psa),(Xb,bnB βb Lb 4 cpb ρb),(Lb,psB psb)] βa cpa psa ba [] βb cpb psb bb [] 0 := by
  refine ⟨?_,B2.keep k3.1 (fun j hj _ _ => k3.2 j hj) hC3,st2,by rw [lg2]; simp,B3,st3,by rw [lg3]; simp,trivial,trivial⟩
  have L2' := L2.kp k3 hC3
  intro q hq
  simp only [List.mem_cons,List.not_mem_nil,or_false] at hq
  have c0 : ∀ j,j < h1.next + 1 -> C3 j = 0 := fun j hj => by rw [hC3 j (by omega),hC2 j (by simp (maxSteps := 2000000) (implicitDefEqProofs := false) (disch := first | omega | (simp only [SD.down,uA,uL] <;> omega) | fail) only [TA.down,TL.down,same_nilslice,resE,oneV, ↓reduceIte,reduceCtorEq,uB,uE,uL,uA,uM,uS,uN,uX,uO,vR,vD,vL,vK,vE,vA,vM,vT,vS] <;> omega)]
  rcases hq with rfl | rfl | rfl | rfl | rfl | rfl | rfl
  ·exact ⟨by simp only; omega,c0 _ (by simp only; omega),k3.at (by simp only; omega) gx2⟩
  ·exact ⟨by simp only; omega,c0 _ (by simp only; omega),k3.at (by simp only; omega) go2⟩
  ·exact ⟨by simp only; omega,c0 _ (by simp only; omega),k3.at (by simp only; omega) gG2⟩
  ·exact L2' _ (by simp)
  ·exact L2' _ (by simp)
  ·exact L3 _ (by simp)
  ·exact L3 _ (by simp)
 simp (maxSteps := 2000000) (implicitDefEqProofs := false) (disch := first | omega | (simp only [SD.down,uA,uL] <;> omega) | fail) only [g41,c33_fold,cz_fold,env_P,env_L,TA.down,TL.down,same_nilslice,resE,oneV, ↓reduceIte,reduceCtorEq,uB,uE,uL,uA,uM,uS,uN,uX,uO,vR,vD,vL,vK,vE,vA,vM,vT,vS]
 generalize hg : [(h.next,Blk.cells (puC xh xc x0 x1) 0 false),(h.next + 1, .cells (puC oh oc o0 o1) 0 false),(h1.next, .cells [.int .i64 4, .int .i64 1] 0 false),(Xa,bnB βa La 4 cpa ρa),(La,psB psa),(Xb,bnB βb Lb 4 cpb ρb),(Lb,psB psb)] = gg at W3
 have mx : (h.next,Blk.cells (puC xh xc x0 x1) 0 false) ∈ gg := by rw [<- hg]; simp
 have mo : (h.next + 1,Blk.cells (puC oh oc o0 o1) 0 false) ∈ gg := by rw [<- hg]; simp
 have mG : (h1.next,Blk.cells [.int .i64 4, .int .i64 1] 0 false) ∈ gg := by rw [<- hg]; simp
 have mXa : (Xa,bnB βa La 4 cpa ρa) ∈ gg := by rw [<- hg]; simp
 have mLa : (La,psB psa) ∈ gg := by rw [<- hg]; simp
 have mXb : (Xb,bnB βb Lb 4 cpb ρb) ∈ gg := by rw [<- hg]; simp
 have mLb : (Lb,psB psb) ∈ gg := by rw [<- hg]; simp
 clear hg
 rw [run_loop]
 refine loop_ind (fun j σ hh => ∃ (i : Nat) (C : Col) (D : Img) (ba bb : BS),i + j = 2 /\ σ 2 = .ptr h.next 0 /\ σ 3 = .ptr (h.next + 1) 0 /\ σ 5 = .ptr h1.next 0 /\ σ 6 = .int .i64 54 /\ σ 7 = .ptr Xa 0 /\ σ 8 = .ptr Xb 0 /\ σ 9 = .int .i64 (i : Int) /\ WJ hh C gg βa cpa psa ba D βb cpb psb bb D (352 * i)) ?_ ?_ 2 _ _ _ (by simp) ?_
 ·rintro mm σ hh ⟨i,C,D,ba,bb,hi,s2,s3,s5,s6,s7,s8,s9,W⟩
  obtain rfl : i = 2 := by omega
  simp (maxSteps := 2000000) (implicitDefEqProofs := false) (disch := first | omega | (simp only [SD.down,uA,uL] <;> omega) | fail) only [run_it,s2,s3,s5,s6,s7,s8,s9,env_P,env_L,TA.down,TL.down,same_nilslice,resE,oneV, ↓reduceIte,reduceCtorEq,uB,uE,uL,uA,uM,uS,uN,uX,uO,vR,vD,vL,vK,vE,vA,vM,vT,vS]
  have W0 := W
  have kQ : ∀ q : Nat,(if q = 0 then x0 else x1) % 256 % 18 <= 17 := fun q => by omega
  obtain ⟨kX,hkX⟩ : ∃ kX : Nat -> Nat,∀ q,kX q = (if q = 0 then x0 else x1) % 256 % 18 := ⟨_,fun _ => rfl⟩
  have kX17 : ∀ q,kX q <= 17 := fun q => by rw [hkX]; exact kQ q
  obtain ⟨LX,hLX⟩ : ∃ LX : Nat -> List (List Nat),∀ q,LX q = jSecs (txt xc 128) (txt (xc + 2) (69 * kX q)) := ⟨_,fun _ => rfl⟩
  obtain ⟨PX,hPX⟩ : ∃ PX : Nat -> Img -> Img,∀ q D,PX q D = putAll (jPos 4 1 q) 0 (LX q) D := ⟨_,fun _ _ => rfl⟩
  obtain ⟨Fa,hFa0,hFa1⟩ : ∃ Fa : Nat -> Img,Fa 0 = D /\ ∀ q,Fa (q + 1) = PX q (Fa q) := ⟨fun q => Nat.rec D (fun q x => PX q x) q,rfl,fun _ => rfl⟩
  obtain ⟨Fb,hFb0,hFb1⟩ : ∃ Fb : Nat -> Img,Fb 0 = D /\ ∀ q,Fb (q + 1) = PX (1 - q) (Fb q) := ⟨fun q => Nat.rec D (fun q x => PX (1 - q) x) q,rfl,fun _ => rfl⟩
  have hP : ∀ (q : Nat) (D : Img),putAll (jPos 4 1 q) 0 (jSecs (txt xc 128) (txt (xc + 2) (69 * kX q))) D = PX q D := fun q D => by rw [hPX,hLX]
  have p1 : (puC xh xc x0 x1)[1]? = some (b8 xc) := rfl
  rw [run_loop]
  refine loop_ind (fun j σ hh => ∃ (q : Nat) (C : Col) (ba bb : BS),q + j = 2 /\ σ 2 = .ptr h.next 0 /\ σ 5 = .ptr h1.next 0 /\ σ 6 = .int .i64 54 /\ σ 7 = .ptr Xa 0 /\ σ 8 = .ptr Xb 0 /\ σ 11 = .int .i64 (q : Int) /\ WJ hh C gg βa cpa psa ba (Fa q) βb cpb psb bb (Fb q) (704 + 176 * q)) ?_ ?_ 2 _ _ _ (by simp) ?_
  ·rintro mm σ hh ⟨q,C,ba,bb,hq,s2,s5,s6,s7,s8,s11,W⟩
   obtain rfl : q = 2 := by omega
   simp (maxSteps := 2000000) (implicitDefEqProofs := false) (disch := first | omega | (simp only [SD.down,uA,uL] <;> omega) | fail) only [run_it,s2,s5,s6,s7,s8,s11,env_P,env_L,TA.down,TL.down,same_nilslice,resE,oneV, ↓reduceIte,reduceCtorEq,uB,uE,uL,uA,uM,uS,uN,uX,uO,vR,vD,vL,vK,vE,vA,vM,vT,vS]
   have fa2 : Fa 2 = PX 1 (PX 0 D) := by rw [hFa1,hFa1,hFa0]
   have fb2 : Fb 2 = PX 0 (PX 1 D) := by rw [hFb1,hFb1,hFb0]
   have uD : Uq D := W0.ua
   have uP : ∀ q,Uq (PX q D) := fun q => by rw [hPX]; exact putAll_uq _ _ _ uD
   have lLX : ∀ q,(LX q).length <= 21 := fun q => by rw [hLX,jSecs_len,txt_len]; have := nsec_le (n := 69 * kX q) (k := 19) (by have := kX17 q; omega); omega
   have hEq : ∀ i : Int,M (mGet (Fa 2) i zz) = M (mGet (Fb 2) i zz) := by
    intro i
    have q1 := putAll_get (8 + ((1 : Nat) : Int) * (gHalf 4 1 : Nat)) (LX 1) 0 (uP 0) i
    have q2 := putAll_get (8 + ((0 : Nat) : Int) * (gHalf 4 1 : Nat)) (LX 0) 0 uD i
    have q3 := putAll_get (8 + ((0 : Nat) : Int) * (gHalf 4 1 : Nat)) (LX 0) 0 (uP 1) i
    have q4 := putAll_get (8 + ((1 : Nat) : Int) * (gHalf 4 1 : Nat)) (LX 1) 0 uD i
    have e1 : Fa 2 = putAll (fun k => 8 + ((1 : Nat) : Int) * (gHalf 4 1 : Nat) + k) 0 (LX 1) (PX 0 D) := by rw [fa2,hPX]; rfl
    have e2 : PX 0 D = putAll (fun k => 8 + ((0 : Nat) : Int) * (gHalf 4 1 : Nat) + k) 0 (LX 0) D := by rw [hPX]; rfl
    have e3 : Fb 2 = putAll (fun k => 8 + ((0 : Nat) : Int) * (gHalf 4 1 : Nat) + k) 0 (LX 0) (PX 1 D) := by rw [fb2,hPX]; rfl
    have e4 : PX 1 D = putAll (fun k => 8 + ((1 : Nat) : Int) * (gHalf 4 1 : Nat) + k) 0 (LX 1) D := by rw [hPX]; rfl
    rw [e1,q1,e3,q3,e2,q2,e4,q4,h21]
    have := lLX 0
    have := lLX 1
    by_cases c1 : 8 + ((1 : Nat) : Int) * ((21 : Nat) : Int) + ((0 : Nat) : Int) <= i /\ i < 8 + ((1 : Nat) : Int) * ((21 : Nat) : Int) + ((0 : Nat) : Int) + (LX 1).length
    ·rw [if_pos c1,if_neg (by omega),if_pos c1]
    ·rw [if_neg c1,if_neg c1]
   have hold : ∀ q : Nat,q < 2 -> Holds 4 1 q (Fa 2) (LX q) := by
    intro q hq
    have : q = 0 \/ q = 1 := by omega
    rcases this with rfl | rfl
    ·have h0 : Holds 4 1 ((0 : Nat) : Int) (PX 0 D) (LX 0) := by rw [hPX]; exact Holds.put uD _
     have := h0.other (uP 0) (by rw [h21]; exact lLX 0) (LX 1) (by rw [h21]; exact lLX 1) (hf' := ((1 : Nat) : Int)) (.inl rfl) (by omega)
     rw [fa2,hPX 1]
     exact this
    ·rw [fa2,hPX 1]
     exact Holds.put (uP 0) _
   generalize Fa 2 = DA at *
   generalize Fb 2 = DB at *
   rw [run_loop]
   refine loop_ind (fun j σ hh => ∃ (m : Nat) (C : Col) (ba : BS),m + j = 4 /\ σ 2 = .ptr h.next 0 /\ σ 5 = .ptr h1.next 0 /\ σ 6 = .int .i64 54 /\ σ 7 = .ptr Xa 0 /\ σ 8 = .ptr Xb 0 /\ σ 12 = .int .i64 (m : Int) /\ WJ hh C gg βa cpa psa ba DA βb cpb psb bb DB (1056 + 38 * m)) ?_ ?_ 4 _ _ _ (by simp) ?_
   ·rintro mm σ hh ⟨m,C,ba,hm,s2,s5,s6,s7,s8,s12,W⟩
    obtain rfl : m = 4 := by omega
    simp (maxSteps := 2000000) (implicitDefEqProofs := false) (disch := first | omega | (simp only [SD.down,uA,uL] <;> omega) | fail) only [run_it,s2,s5,s6,s7,s8,s12,env_P,env_L,TA.down,TL.down,same_nilslice,resE,oneV, ↓reduceIte,reduceCtorEq,uB,uE,uL,uA,uM,uS,uN,uX,uO,vR,vD,vL,vK,vE,vA,vM,vT,vS]
    first | refine G.call (works_ok d hh) ?_ | refine G.callC (works_ok d hh) ?_ | refine G.callL (works_ok d hh) ?_
    rintro v hw rfl
    simp (maxSteps := 2000000) (implicitDefEqProofs := false) (disch := first | omega | (simp only [SD.down,uA,uL] <;> omega) | fail) only [env_P,env_L,TA.down,TL.down,same_nilslice,resE,oneV, ↓reduceIte,reduceCtorEq,uB,uE,uL,uA,uM,uS,uN,uX,uO,vR,vD,vL,vK,vE,vA,vM,vT,vS]
    subst hX
    exact G.ok rfl
   ·rintro j mm σ hh ⟨m,C,ba,hm,s2,s5,s6,s7,s8,s12,W⟩ ih3
    have hm4 : m < 4 := by omega
    obtain ⟨pa,hpa⟩ : ∃ p,psa[m]? = some p := ⟨_,List.getElem?_eq_getElem (by omega)⟩
    obtain ⟨pb,hpb⟩ : ∃ p,psb[m]? = some p := ⟨_,List.getElem?_eq_getElem (by omega)⟩
    have ga := ptrs_get hpa
    have gb := ptrs_get hpb
    have c4m : ∀ D : Img,(c4 D)[m]? = some (D,false,false) := fun D => by show (List.replicate 4 (D,false,false))[m]? = _; rw [List.getElem?_replicate,if_pos hm4]
    simp (maxSteps := 2000000) (implicitDefEqProofs := false) (disch := first | omega | (simp only [SD.down,uA,uL] <;> omega) | fail) only [run_it,s2,s5,s6,s7,s8,s12,env_P,env_L,TA.down,TL.down,same_nilslice,resE,oneV, ↓reduceIte,reduceCtorEq,uB,uE,uL,uA,uM,uS,uN,uX,uO,vR,vD,vL,vK,vE,vA,vM,vT,vS]
    rw [run_loop]
    refine loop_ind (fun j σ hh => ∃ (i : Nat) (C : Col),i + j = 54 /\ σ 2 = .ptr h.next 0 /\ σ 5 = .ptr h1.next 0 /\ σ 6 = .int .i64 54 /\ σ 7 = .ptr Xa 0 /\ σ 8 = .ptr Xb 0 /\ σ 12 = .int .i64 (m : Int) /\ σ 13 = .int .i64 (i : Int) /\ WJ hh C gg βa cpa psa ba DA βb cpb psb bb DB (1056 + 38 * m)) ?_ ?_ 54 _ _ _ (by simp) ?_
    ·rintro mm σ hh ⟨i,C,hi,s2,s5,s6,s7,s8,s12,s13,W⟩
     obtain rfl : i = 54 := by omega
     simp (maxSteps := 2000000) (implicitDefEqProofs := false) (disch := first | omega | (simp only [SD.down,uA,uL] <;> omega) | fail) only [run_it,s2,s5,s6,s7,s8,s12,s13,env_P,env_L,TA.down,TL.down,same_nilslice,resE,oneV, ↓reduceIte,reduceCtorEq,uB,uE,uL,uA,uM,uS,uN,uX,uO,vR,vD,vL,vK,vE,vA,vM,vT,vS]
     rw [run_loop]
     refine loop_ind (fun j σ hh => ∃ (q : Nat) (C : Col) (ba : BS),q + j = 2 /\ σ 2 = .ptr h.next 0 /\ σ 5 = .ptr h1.next 0 /\ σ 6 = .int .i64 54 /\ σ 7 = .ptr Xa 0 /\ σ 8 = .ptr Xb 0 /\ σ 12 = .int .i64 (m : Int) /\ σ 18 = .int .i64 (q : Int) /\ WJ hh C gg βa cpa psa ba DA βb cpb psb bb DB (1056 + 38 * m + 19 * q)) ?_ ?_ 2 _ _ _ (by simp) ?_
     ·rintro mm σ hh ⟨q,C,ba,hq,s2,s5,s6,s7,s8,s12,s18,W⟩
      obtain rfl : q = 2 := by omega
      simp (maxSteps := 2000000) (implicitDefEqProofs := false) (disch := first | omega | (simp only [SD.down,uA,uL] <;> omega) | fail) only [run_it,s2,s5,s6,s7,s8,s12,s18,env_P,env_L,TA.down,TL.down,same_nilslice,resE,oneV, ↓reduceIte,reduceCtorEq,uB,uE,uL,uA,uM,uS,uN,uX,uO,vR,vD,vL,vK,vE,vA,vM,vT,vS]
      exact ih3 _ _ ⟨m + 1,C,ba,by omega,by simp (maxSteps := 2000000) (implicitDefEqProofs := false) (disch := first | omega | (simp only [SD.down,uA,uL] <;> omega) | fail) only [s2,TA.down,TL.down,same_nilslice,resE,oneV, ↓reduceIte,reduceCtorEq,uB,uE,uL,uA,uM,uS,uN,uX,uO,vR,vD,vL,vK,vE,vA,vM,vT,vS],by simp (maxSteps := 2000000) (implicitDefEqProofs := false) (disch := first | omega | (simp only [SD.down,uA,uL] <;> omega) | fail) only [s5,TA.down,TL.down,same_nilslice,resE,oneV, ↓reduceIte,reduceCtorEq,uB,uE,uL,uA,uM,uS,uN,uX,uO,vR,vD,vL,vK,vE,vA,vM,vT,vS],by simp (maxSteps := 2000000) (implicitDefEqProofs := false) (disch := first | omega | (simp only [SD.down,uA,uL] <;> omega) | fail) only [s6,TA.down,TL.down,same_nilslice,resE,oneV, ↓reduceIte,reduceCtorEq,uB,uE,uL,uA,uM,uS,uN,uX,uO,vR,vD,vL,vK,vE,vA,vM,vT,vS],by simp (maxSteps := 2000000) (implicitDefEqProofs := false) (disch := first | omega | (simp only [SD.down,uA,uL] <;> omega) | fail) only [s7,TA.down,TL.down,same_nilslice,resE,oneV, ↓reduceIte,reduceCtorEq,uB,uE,uL,uA,uM,uS,uN,uX,uO,vR,vD,vL,vK,vE,vA,vM,vT,vS],by simp (maxSteps := 2000000) (implicitDefEqProofs := false) (disch := first | omega | (simp only [SD.down,uA,uL] <;> omega) | fail) only [s8,TA.down,TL.down,same_nilslice,resE,oneV, ↓reduceIte,reduceCtorEq,uB,uE,uL,uA,uM,uS,uN,uX,uO,vR,vD,vL,vK,vE,vA,vM,vT,vS],by simp (maxSteps := 2000000) (implicitDefEqProofs := false) (disch := first | omega | (simp only [SD.down,uA,uL] <;> omega) | fail) only [TA.down,TL.down,same_nilslice,resE,oneV, ↓reduceIte,reduceCtorEq,uB,uE,uL,uA,uM,uS,uN,uX,uO,vR,vD,vL,vK,vE,vA,vM,vT,vS],W.mono (by omega)⟩
     ·rintro j mm σ hh ⟨q,C,ba,hq,s2,s5,s6,s7,s8,s12,s18,W⟩ ih5
      have hq2 : q < 2 := by omega
      have go0 := W.g.at mx
      have gG0 := W.g.at mG
      have gXa0 := W.g.at mXa
      unfold bnB at gXa0
      obtain ⟨O,hO⟩ : ∃ O,O = (if q = 0 then x0 else x1) := ⟨_,rfl⟩
      have po := puC_at xh xc x0 x1 q hq2
      rw [<- hO] at po
      have hkO : kX q = O % 256 % 18 := by rw [hkX,hO]
      have hk17 := kX17 q
      have hkm : kX q % 256 = kX q := by omega
      have hb := hbody4 (d + 2) hh C 100 βa cpa psa ba (c4 DA) q m (kX q) DA false (by omega) rfl W.a W.sa (by omega) (c4m DA) hk17 (by have := W.la; omega)
      simp (maxSteps := 2000000) (implicitDefEqProofs := false) (disch := first | omega | (simp only [SD.down,uA,uL] <;> omega) | fail) only [run_it,s2,s5,s6,s7,s8,s12,s18,go0,gG0,gXa0,p1,po,hq2,rem18,cvB,<- hkO,hkm,env_P,env_L,TA.down,TL.down,same_nilslice,resE,oneV, ↓reduceIte,reduceCtorEq,uB,uE,uL,uA,uM,uS,uN,uX,uO,vR,vD,vL,vK,vE,vA,vM,vT,vS]
      first | refine G.call (hb) ?_ | refine G.callC (hb) ?_ | refine G.callL (hb) ?_
      rintro v h4 ⟨C4,tv,ba4,rfl,by4,bk4,B4,st4,lg4,fr4,hC4⟩
      obtain ⟨to,ts,tl⟩ := by4.ok
      have W4 := W.doA (k := 19) B4 st4 lg4 fr4 hC4 W.ua
      have go4 := W4.g.at mx
      have gG4 := W4.g.at mG
      have gXa4 := W4.g.at mXa
      unfold bnB at gXa4
      have e4 := by4.str
      have eB : M ((rdC (jPos 4 1 q) DA 2 (nsec (69 * kX q))).take (69 * kX q)) = M (txt (xc + 2) (69 * kX q)) := by
       have := rd_body (jPos 4 1 q) DA (txt xc 128) (txt (xc + 2) (69 * kX q)) (fun k hk => by
        have := hold q hq2 k (by rw [hLX,jSecs_len]; exact hk)
        rw [hLX] at this
        exact this)
       rw [txt_len] at this
       exact this
      simp (maxSteps := 2000000) (implicitDefEqProofs := false) (disch := first | omega | (simp only [SD.down,uA,uL] <;> omega) | fail) only [s2,s5,s6,s7,s8,s12,s18,go0,go4,gG0,gG4,gXa0,gXa4,p1,po,hq2,rem18,cvB,<- hkO,hkm,to,ts,cvc,cvo,e4,sgA,env_P,env_L,TA.down,TL.down,same_nilslice,resE,oneV, ↓reduceIte,reduceCtorEq,uB,uE,uL,uA,uM,uS,uN,uX,uO,vR,vD,vL,vK,vE,vA,vM,vT,vS]
      first | refine G.call (text_ok (d + 14) h4 (xc + 2) (69 * kX q) (by omega)) ?_ | refine G.callC (text_ok (d + 14) h4 (xc + 2) (69 * kX q) (by omega)) ?_ | refine G.callL (text_ok (d + 14) h4 (xc + 2) (69 * kX q) (by omega)) ?_
      rintro wv h5 ⟨by5,bk5,k5⟩
      obtain ⟨wo,ws,wl⟩ := by5.ok
      have W5 := W4.kp k5 (C' := pnt C4 h4.next 0) fun j hj => pnt_lt hj
      have e5 := by5.str
      have e45 := (by4.keep k5.1 fun j hj _ => k5.2 j hj).str
      have dB : decide (((rdC (jPos 4 1 q) DA 2 (nsec (69 * kX q))).take (69 * kX q)).map (· % 256) = (txt (xc + 2) (69 * kX q)).map (· % 256)) = true := decide_eq_true eB
      simp (maxSteps := 2000000) (implicitDefEqProofs := false) (disch := first | omega | (simp only [SD.down,uA,uL] <;> omega) | fail) only [s2,s5,s6,s7,s8,s12,s18,to,ts,wo,ws,cvc,cvo,cvr,e4,e45,e5,bin_eql_str,bin_neq_str,dB,same_str,sgA,env_P,env_L,TA.down,TL.down,same_nilslice,resE,oneV, ↓reduceIte,reduceCtorEq,uB,uE,uL,uA,uM,uS,uN,uX,uO,vR,vD,vL,vK,vE,vA,vM,vT,vS]
      exact ih5 _ _ ⟨q + 1,_,ba4,by omega,by simp (maxSteps := 2000000) (implicitDefEqProofs := false) (disch := first | omega | (simp only [SD.down,uA,uL] <;> omega) | fail) only [s2,TA.down,TL.down,same_nilslice,resE,oneV, ↓reduceIte,reduceCtorEq,uB,uE,uL,uA,uM,uS,uN,uX,uO,vR,vD,vL,vK,vE,vA,vM,vT,vS],by simp (maxSteps := 2000000) (implicitDefEqProofs := false) (disch := first | omega | (simp only [SD.down,uA,uL] <;> omega) | fail) only [s5,TA.down,TL.down,same_nilslice,resE,oneV, ↓reduceIte,reduceCtorEq,uB,uE,uL,uA,uM,uS,uN,uX,uO,vR,vD,vL,vK,vE,vA,vM,vT,vS],by simp (maxSteps := 2000000) (implicitDefEqProofs := false) (disch := first | omega | (simp only [SD.down,uA,uL] <;> omega) | fail) only [s6,TA.down,TL.down,same_nilslice,resE,oneV, ↓reduceIte,reduceCtorEq,uB,uE,uL,uA,uM,uS,uN,uX,uO,vR,vD,vL,vK,vE,vA,vM,vT,vS],by simp (maxSteps := 2000000) (implicitDefEqProofs := false) (disch := first | omega | (simp only [SD.down,uA,uL] <;> omega) | fail) only [s7,TA.down,TL.down,same_nilslice,resE,oneV, ↓reduceIte,reduceCtorEq,uB,uE,uL,uA,uM,uS,uN,uX,uO,vR,vD,vL,vK,vE,vA,vM,vT,vS],by simp (maxSteps := 2000000) (implicitDefEqProofs := false) (disch := first | omega | (simp only [SD.down,uA,uL] <;> omega) | fail) only [s8,TA.down,TL.down,same_nilslice,resE,oneV, ↓reduceIte,reduceCtorEq,uB,uE,uL,uA,uM,uS,uN,uX,uO,vR,vD,vL,vK,vE,vA,vM,vT,vS],by simp (maxSteps := 2000000) (implicitDefEqProofs := false) (disch := first | omega | (simp only [SD.down,uA,uL] <;> omega) | fail) only [s12,TA.down,TL.down,same_nilslice,resE,oneV, ↓reduceIte,reduceCtorEq,uB,uE,uL,uA,uM,uS,uN,uX,uO,vR,vD,vL,vK,vE,vA,vM,vT,vS],by simp (maxSteps := 2000000) (implicitDefEqProofs := false) (disch := first | omega | (simp only [SD.down,uA,uL] <;> omega) | fail) only [TA.down,TL.down,same_nilslice,resE,oneV, ↓reduceIte,reduceCtorEq,uB,uE,uL,uA,uM,uS,uN,uX,uO,vR,vD,vL,vK,vE,vA,vM,vT,vS],W5.mono (by omega)⟩
     ·exact ⟨0,C,ba,by omega,by simp (maxSteps := 2000000) (implicitDefEqProofs := false) (disch := first | omega | (simp only [SD.down,uA,uL] <;> omega) | fail) only [s2,TA.down,TL.down,same_nilslice,resE,oneV, ↓reduceIte,reduceCtorEq,uB,uE,uL,uA,uM,uS,uN,uX,uO,vR,vD,vL,vK,vE,vA,vM,vT,vS],by simp (maxSteps := 2000000) (implicitDefEqProofs := false) (disch := first | omega | (simp only [SD.down,uA,uL] <;> omega) | fail) only [s5,TA.down,TL.down,same_nilslice,resE,oneV, ↓reduceIte,reduceCtorEq,uB,uE,uL,uA,uM,uS,uN,uX,uO,vR,vD,vL,vK,vE,vA,vM,vT,vS],by simp (maxSteps := 2000000) (implicitDefEqProofs := false) (disch := first | omega | (simp only [SD.down,uA,uL] <;> omega) | fail) only [s6,TA.down,TL.down,same_nilslice,resE,oneV, ↓reduceIte,reduceCtorEq,uB,uE,uL,uA,uM,uS,uN,uX,uO,vR,vD,vL,vK,vE,vA,vM,vT,vS],by simp (maxSteps := 2000000) (implicitDefEqProofs := false) (disch := first | omega | (simp only [SD.down,uA,uL] <;> omega) | fail) only [s7,TA.down,TL.down,same_nilslice,resE,oneV, ↓reduceIte,reduceCtorEq,uB,uE,uL,uA,uM,uS,uN,uX,uO,vR,vD,vL,vK,vE,vA,vM,vT,vS],by simp (maxSteps := 2000000) (implicitDefEqProofs := false) (disch := first | omega | (simp only [SD.down,uA,uL] <;> omega) | fail) only [s8,TA.down,TL.down,same_nilslice,resE,oneV, ↓reduceIte,reduceCtorEq,uB,uE,uL,uA,uM,uS,uN,uX,uO,vR,vD,vL,vK,vE,vA,vM,vT,vS],by simp (maxSteps := 2000000) (implicitDefEqProofs := false) (disch := first | omega | (simp only [SD.down,uA,uL] <;> omega) | fail) only [s12,TA.down,TL.down,same_nilslice,resE,oneV, ↓reduceIte,reduceCtorEq,uB,uE,uL,uA,uM,uS,uN,uX,uO,vR,vD,vL,vK,vE,vA,vM,vT,vS],by simp (maxSteps := 2000000) (implicitDefEqProofs := false) (disch := first | omega | (simp only [SD.down,uA,uL] <;> omega) | fail) only [TA.down,TL.down,same_nilslice,resE,oneV, ↓reduceIte,reduceCtorEq,uB,uE,uL,uA,uM,uS,uN,uX,uO,vR,vD,vL,vK,vE,vA,vM,vT,vS],W⟩
    ·rintro j mm σ hh ⟨i,C,hi,s2,s5,s6,s7,s8,s12,s13,W⟩ ih4
     have hi54 : i < 54 := by omega
     have gXa0 := W.g.at mXa
     have gLa0 := W.g.at mLa
     have gXb0 := W.g.at mXb
     unfold bnB at gXa0 gXb0
     unfold psB at gLa0
     have hzz := zz_len
     simp (maxSteps := 2000000) (implicitDefEqProofs := false) (disch := first | omega | (simp only [SD.down,uA,uL] <;> omega) | fail) only [run_it,s2,s5,s6,s7,s8,s12,s13,gXa0,gLa0,ga,hm4,zz_fold,env_P,env_L,TA.down,TL.down,same_nilslice,resE,oneV, ↓reduceIte,reduceCtorEq,uB,uE,uL,uA,uM,uS,uN,uX,uO,vR,vD,vL,vK,vE,vA,vM,vT,vS]
     first | refine G.call (hlook4 (d + 10) hh C 100 βa cpa 54 psa ba (c4 DA) m pa (DA,false,false) W.a (c4m DA) hpa i (by omega) (by omega)) ?_ | refine G.callC (hlook4 (d + 10) hh C 100 βa cpa 54 psa ba (c4 DA) m pa (DA,false,false) W.a (c4m DA) hpa i (by omega) (by omega)) ?_ | refine G.callL (hlook4 (d + 10) hh C 100 βa cpa 54 psa ba (c4 DA) m pa (DA,false,false) W.a (c4m DA) hpa i (by omega) (by omega)) ?_
     rintro v h4 ⟨rfl,k4⟩
     have W4 := W.kp k4 (C' := pnt C hh.next 0) fun j hj => pnt_lt hj
     have gXb4 := W4.g.at mXb
     have gLb4 := W4.g.at mLb
     unfold bnB at gXb4
     unfold psB at gLb4
     have la := mGet_len (l := DA) (W.a.w.w.ms (calmM 54 (DA,false,false)) (by rw [W.a.c.ms]; simp [c4])).dur i
     have lb := mGet_len (l := DB) (W.b.w.w.ms (calmM 54 (DB,false,false)) (by rw [W.b.c.ms]; simp [c4])).dur i
     have kpA : Keeps h4 ((h4.new (Blk.cells (Aw.B zz) 0 false)).put h4.next (some (Blk.cells (Aw.B (mGet DA i zz)) 0 false))) := (Keeps.refl h4).post (by simp (maxSteps := 2000000) (implicitDefEqProofs := false) (disch := first | omega | (simp only [SD.down,uA,uL] <;> omega) | fail) only [TA.down,TL.down,same_nilslice,resE,oneV, ↓reduceIte,reduceCtorEq,uB,uE,uL,uA,uM,uS,uN,uX,uO,vR,vD,vL,vK,vE,vA,vM,vT,vS] <;> omega) (fun j hj => by simp (maxSteps := 2000000) (implicitDefEqProofs := false) (disch := first | omega | (simp only [SD.down,uA,uL] <;> omega) | fail) only [TA.down,TL.down,same_nilslice,resE,oneV, ↓reduceIte,reduceCtorEq,uB,uE,uL,uA,uM,uS,uN,uX,uO,vR,vD,vL,vK,vE,vA,vM,vT,vS])
     have W5 := W4.kp kpA (C' := pnt (pnt C hh.next 0) h4.next 0) fun j hj => pnt_lt hj
     have gXb5 := W5.g.at mXb
     have gLb5 := W5.g.at mLb
     unfold bnB at gXb5
     unfold psB at gLb5
     simp (maxSteps := 2000000) (implicitDefEqProofs := false) (disch := first | omega | (simp only [SD.down,uA,uL] <;> omega) | fail) only [s2,s5,s6,s7,s8,s12,s13,gXb4,gLb4,gXb5,gLb5,gb,hm4,zz_fold,hzz,la,over_B,cutB_all,env_P,env_L,TA.down,TL.down,same_nilslice,resE,oneV, ↓reduceIte,reduceCtorEq,uB,uE,uL,uA,uM,uS,uN,uX,uO,vR,vD,vL,vK,vE,vA,vM,vT,vS]
     first | refine G.call (hlook4 (d + 10) _ _ 200 βb cpb 54 psb bb (c4 DB) m pb (DB,false,false) W5.b (c4m DB) hpb i (by omega) (by omega)) ?_ | refine G.callC (hlook4 (d + 10) _ _ 200 βb cpb 54 psb bb (c4 DB) m pb (DB,false,false) W5.b (c4m DB) hpb i (by omega) (by omega)) ?_ | refine G.callL (hlook4 (d + 10) _ _ 200 βb cpb 54 psb bb (c4 DB) m pb (DB,false,false) W5.b (c4m DB) hpb i (by omega) (by omega)) ?_
     rintro v h6 ⟨rfl,k6⟩
     have n6 := k6.1
     simp (maxSteps := 2000000) (implicitDefEqProofs := false) (disch := first | omega | (simp only [SD.down,uA,uL] <;> omega) | fail) only [TA.down,TL.down,same_nilslice,resE,oneV, ↓reduceIte,reduceCtorEq,uB,uE,uL,uA,uM,uS,uN,uX,uO,vR,vD,vL,vK,vE,vA,vM,vT,vS] at n6
     have g4 : h6.get h4.next = some (Blk.cells (Aw.B (mGet DA i zz)) 0 false) := by rw [k6.2 _ (by simp (maxSteps := 2000000) (implicitDefEqProofs := false) (disch := first | omega | (simp only [SD.down,uA,uL] <;> omega) | fail) only [TA.down,TL.down,same_nilslice,resE,oneV, ↓reduceIte,reduceCtorEq,uB,uE,uL,uA,uM,uS,uN,uX,uO,vR,vD,vL,vK,vE,vA,vM,vT,vS] <;> omega)]; simp (maxSteps := 2000000) (implicitDefEqProofs := false) (disch := first | omega | (simp only [SD.down,uA,uL] <;> omega) | fail) only [TA.down,TL.down,same_nilslice,resE,oneV, ↓reduceIte,reduceCtorEq,uB,uE,uL,uA,uM,uS,uN,uX,uO,vR,vD,vL,vK,vE,vA,vM,vT,vS]
     have W6 := W5.kp k6 (C' := pnt (pnt (pnt C hh.next 0) h4.next 0) (h4.next + 1) 0) fun j hj => pnt_lt (by simp (maxSteps := 2000000) (implicitDefEqProofs := false) (disch := first | omega | (simp only [SD.down,uA,uL] <;> omega) | fail) only [TA.down,TL.down,same_nilslice,resE,oneV, ↓reduceIte,reduceCtorEq,uB,uE,uL,uA,uM,uS,uN,uX,uO,vR,vD,vL,vK,vE,vA,vM,vT,vS] at hj; exact hj)
     have e25 := eq25 (mGet DA i zz) (mGet DB i zz) la lb
     have dE : decide (M (mGet DA i zz) = M (mGet DB i zz)) = true := decide_eq_true (hEq i)
     rw [dE] at e25
     simp (maxSteps := 2000000) (implicitDefEqProofs := false) (disch := first | omega | (simp only [SD.down,uA,uL] <;> omega) | fail) only [s2,s5,s6,s7,s8,s12,s13,g4,zz_fold,hzz,la,lb,over_B,cutB_all,bin_neq_agg,e25,env_P,env_L,TA.down,TL.down,same_nilslice,resE,oneV, ↓reduceIte,reduceCtorEq,uB,uE,uL,uA,uM,uS,uN,uX,uO,vR,vD,vL,vK,vE,vA,vM,vT,vS]
     have kpB : Keeps h6 ((h6.new (Blk.cells (Aw.B zz) 0 false)).put h6.next (some (Blk.cells (Aw.B (mGet DB i zz)) 0 false))) := (Keeps.refl h6).post (by simp (maxSteps := 2000000) (implicitDefEqProofs := false) (disch := first | omega | (simp only [SD.down,uA,uL] <;> omega) | fail) only [TA.down,TL.down,same_nilslice,resE,oneV, ↓reduceIte,reduceCtorEq,uB,uE,uL,uA,uM,uS,uN,uX,uO,vR,vD,vL,vK,vE,vA,vM,vT,vS] <;> omega) (fun j hj => by simp (maxSteps := 2000000) (implicitDefEqProofs := false) (disch := first | omega | (simp only [SD.down,uA,uL] <;> omega) | fail) only [TA.down,TL.down,same_nilslice,resE,oneV, ↓reduceIte,reduceCtorEq,uB,uE,uL,uA,uM,uS,uN,uX,uO,vR,vD,vL,vK,vE,vA,vM,vT,vS])
     exact ih4 _ _ ⟨i + 1,_,by omega,by simp (maxSteps := 2000000) (implicitDefEqProofs := false) (disch := first | omega | (simp only [SD.down,uA,uL] <;> omega) | fail) only [s2,TA.down,TL.down,same_nilslice,resE,oneV, ↓reduceIte,reduceCtorEq,uB,uE,uL,uA,uM,uS,uN,uX,uO,vR,vD,vL,vK,vE,vA,vM,vT,vS],by simp (maxSteps := 2000000) (implicitDefEqProofs := false) (disch := first | omega | (simp only [SD.down,uA,uL] <;> omega) | fail) only [s5,TA.down,TL.down,same_nilslice,resE,oneV, ↓reduceIte,reduceCtorEq,uB,uE,uL,uA,uM,uS,uN,uX,uO,vR,vD,vL,vK,vE,vA,vM,vT,vS],by simp (maxSteps := 2000000) (implicitDefEqProofs := false) (disch := first | omega | (simp only [SD.down,uA,uL] <;> omega) | fail) only [s6,TA.down,TL.down,same_nilslice,resE,oneV, ↓reduceIte,reduceCtorEq,uB,uE,uL,uA,uM,uS,uN,uX,uO,vR,vD,vL,vK,vE,vA,vM,vT,vS],by simp (maxSteps := 2000000) (implicitDefEqProofs := false) (disch := first | omega | (simp only [SD.down,uA,uL] <;> omega) | fail) only [s7,TA.down,TL.down,same_nilslice,resE,oneV, ↓reduceIte,reduceCtorEq,uB,uE,uL,uA,uM,uS,uN,uX,uO,vR,vD,vL,vK,vE,vA,vM,vT,vS],by simp (maxSteps := 2000000) (implicitDefEqProofs := false) (disch := first | omega | (simp only [SD.down,uA,uL] <;> omega) | fail) only [s8,TA.down,TL.down,same_nilslice,resE,oneV, ↓reduceIte,reduceCtorEq,uB,uE,uL,uA,uM,uS,uN,uX,uO,vR,vD,vL,vK,vE,vA,vM,vT,vS],by simp (maxSteps := 2000000) (implicitDefEqProofs := false) (disch := first | omega | (simp only [SD.down,uA,uL] <;> omega) | fail) only [s12,TA.down,TL.down,same_nilslice,resE,oneV, ↓reduceIte,reduceCtorEq,uB,uE,uL,uA,uM,uS,uN,uX,uO,vR,vD,vL,vK,vE,vA,vM,vT,vS],by simp (maxSteps := 2000000) (implicitDefEqProofs := false) (disch := first | omega | (simp only [SD.down,uA,uL] <;> omega) | fail) only [TA.down,TL.down,same_nilslice,resE,oneV, ↓reduceIte,reduceCtorEq,uB,uE,uL,uA,uM,uS,uN,uX,uO,vR,vD,vL,vK,vE,vA,vM,vT,vS],W6.kp kpB (C' := pnt (pnt (pnt (pnt C hh.next 0) h4.next 0) (h4.next + 1) 0) h6.next 0) fun j hj => pnt_lt hj⟩
    ·exact ⟨0,C,by omega,by simp (maxSteps := 2000000) (implicitDefEqProofs := false) (disch := first | omega | (simp only [SD.down,uA,uL] <;> omega) | fail) only [s2,TA.down,TL.down,same_nilslice,resE,oneV, ↓reduceIte,reduceCtorEq,uB,uE,uL,uA,uM,uS,uN,uX,uO,vR,vD,vL,vK,vE,vA,vM,vT,vS],by simp (maxSteps := 2000000) (implicitDefEqProofs := false) (disch := first | omega | (simp only [SD.down,uA,uL] <;> omega) | fail) only [s5,TA.down,TL.down,same_nilslice,resE,oneV, ↓reduceIte,reduceCtorEq,uB,uE,uL,uA,uM,uS,uN,uX,uO,vR,vD,vL,vK,vE,vA,vM,vT,vS],by simp (maxSteps := 2000000) (implicitDefEqProofs := false) (disch := first | omega | (simp only [SD.down,uA,uL] <;> omega) | fail) only [s6,TA.down,TL.down,same_nilslice,resE,oneV, ↓reduceIte,reduceCtorEq,uB,uE,uL,uA,uM,uS,uN,uX,uO,vR,vD,vL,vK,vE,vA,vM,vT,vS],by simp (maxSteps := 2000000) (implicitDefEqProofs := false) (disch := first | omega | (simp only [SD.down,uA,uL] <;> omega) | fail) only [s7,TA.down,TL.down,same_nilslice,resE,oneV, ↓reduceIte,reduceCtorEq,uB,uE,uL,uA,uM,uS,uN,uX,uO,vR,vD,vL,vK,vE,vA,vM,vT,vS],by simp (maxSteps := 2000000) (implicitDefEqProofs := false) (disch := first | omega | (simp only [SD.down,uA,uL] <;> omega) | fail) only [s8,TA.down,TL.down,same_nilslice,resE,oneV, ↓reduceIte,reduceCtorEq,uB,uE,uL,uA,uM,uS,uN,uX,uO,vR,vD,vL,vK,vE,vA,vM,vT,vS],by simp (maxSteps := 2000000) (implicitDefEqProofs := false) (disch := first | omega | (simp only [SD.down,uA,uL] <;> omega) | fail) only [s12,TA.down,TL.down,same_nilslice,resE,oneV, ↓reduceIte,reduceCtorEq,uB,uE,uL,uA,uM,uS,uN,uX,uO,vR,vD,vL,vK,vE,vA,vM,vT,vS],by simp (maxSteps := 2000000) (implicitDefEqProofs := false) (disch := first | omega | (simp only [SD.down,uA,uL] <;> omega) | fail) only [TA.down,TL.down,same_nilslice,resE,oneV, ↓reduceIte,reduceCtorEq,uB,uE,uL,uA,uM,uS,uN,uX,uO,vR,vD,vL,vK,vE,vA,vM,vT,vS],W⟩
   ·exact ⟨0,C,ba,by omega,by simp (maxSteps := 2000000) (implicitDefEqProofs := false) (disch := first | omega | (simp only [SD.down,uA,uL] <;> omega) | fail) only [s2,TA.down,TL.down,same_nilslice,resE,oneV, ↓reduceIte,reduceCtorEq,uB,uE,uL,uA,uM,uS,uN,uX,uO,vR,vD,vL,vK,vE,vA,vM,vT,vS],by simp (maxSteps := 2000000) (implicitDefEqProofs := false) (disch := first | omega | (simp only [SD.down,uA,uL] <;> omega) | fail) only [s5,TA.down,TL.down,same_nilslice,resE,oneV, ↓reduceIte,reduceCtorEq,uB,uE,uL,uA,uM,uS,uN,uX,uO,vR,vD,vL,vK,vE,vA,vM,vT,vS],by simp (maxSteps := 2000000) (implicitDefEqProofs := false) (disch := first | omega | (simp only [SD.down,uA,uL] <;> omega) | fail) only [s6,TA.down,TL.down,same_nilslice,resE,oneV, ↓reduceIte,reduceCtorEq,uB,uE,uL,uA,uM,uS,uN,uX,uO,vR,vD,vL,vK,vE,vA,vM,vT,vS],by simp (maxSteps := 2000000) (implicitDefEqProofs := false) (disch := first | omega | (simp only [SD.down,uA,uL] <;> omega) | fail) only [s7,TA.down,TL.down,same_nilslice,resE,oneV, ↓reduceIte,reduceCtorEq,uB,uE,uL,uA,uM,uS,uN,uX,uO,vR,vD,vL,vK,vE,vA,vM,vT,vS],by simp (maxSteps := 2000000) (implicitDefEqProofs := false) (disch := first | omega | (simp only [SD.down,uA,uL] <;> omega) | fail) only [s8,TA.down,TL.down,same_nilslice,resE,oneV, ↓reduceIte,reduceCtorEq,uB,uE,uL,uA,uM,uS,uN,uX,uO,vR,vD,vL,vK,vE,vA,vM,vT,vS],by simp (maxSteps := 2000000) (implicitDefEqProofs := false) (disch := first | omega | (simp only [SD.down,uA,uL] <;> omega) | fail) only [TA.down,TL.down,same_nilslice,resE,oneV, ↓reduceIte,reduceCtorEq,uB,uE,uL,uA,uM,uS,uN,uX,uO,vR,vD,vL,vK,vE,vA,vM,vT,vS],W⟩
  ·rintro j mm σ hh ⟨q,C,ba,bb,hq,s2,s5,s6,s7,s8,s11,W⟩ ih2
   have hq2 : q < 2 := by omega
   have q01 : q = 0 \/ q = 1 := by omega
   have go0 := W.g.at mx
   have gG0 := W.g.at mG
   have gXa0 := W.g.at mXa
   unfold bnB at gXa0
   obtain ⟨O,hO⟩ : ∃ O,O = (if q = 0 then x0 else x1) := ⟨_,rfl⟩
   have po := puC_at xh xc x0 x1 q hq2
   rw [<- hO] at po
   have hkO : kX q = O % 256 % 18 := by rw [hkX,hO]
   have hk17 := kX17 q
   have hkm : kX q % 256 = kX q := by omega
   simp (maxSteps := 2000000) (implicitDefEqProofs := false) (disch := first | omega | (simp only [SD.down,uA,uL] <;> omega) | fail) only [run_it,s2,s5,s6,s7,s8,s11,go0,gG0,gXa0,p1,env_P,env_L,TA.down,TL.down,same_nilslice,resE,oneV, ↓reduceIte,reduceCtorEq,uB,uE,uL,uA,uM,uS,uN,uX,uO,vR,vD,vL,vK,vE,vA,vM,vT,vS]
   first | refine G.call (text_ok (d + 14) hh xc 128 (by omega)) ?_ | refine G.callC (text_ok (d + 14) hh xc 128 (by omega)) ?_ | refine G.callL (text_ok (d + 14) hh xc 128 (by omega)) ?_
   rintro rv h4 ⟨by1,bk1,k4⟩
   obtain ⟨ro,rs,rl⟩ := by1.ok
   have ce4 : ∀ j,j < hh.next -> pnt C hh.next 0 j = C j := fun j hj => pnt_lt hj
   have W4 := W.kp k4 ce4
   have go4 := W4.g.at mx
   have gG4 := W4.g.at mG
   have gXa4 := W4.g.at mXa
   unfold bnB at gXa4
   simp (maxSteps := 2000000) (implicitDefEqProofs := false) (disch := first | omega | (simp only [SD.down,uA,uL] <;> omega) | fail) only [s2,s5,s6,s7,s8,s11,go4,gG4,gXa4,p1,po,hq2,rem18,cvB,<- hkO,hkm,ro,env_P,env_L,TA.down,TL.down,same_nilslice,resE,oneV, ↓reduceIte,reduceCtorEq,uB,uE,uL,uA,uM,uS,uN,uX,uO,vR,vD,vL,vK,vE,vA,vM,vT,vS]
   first | refine G.call (text_ok (d + 14) h4 (xc + 2) (69 * kX q) (by omega)) ?_ | refine G.callC (text_ok (d + 14) h4 (xc + 2) (69 * kX q) (by omega)) ?_ | refine G.callL (text_ok (d + 14) h4 (xc + 2) (69 * kX q) (by omega)) ?_
   rintro bv h5 ⟨by2,bk2,k5⟩
   obtain ⟨bo,bs,bl⟩ := by2.ok
   have ce5 : ∀ j,j < h4.next -> pnt (pnt C hh.next 0) h4.next 0 j = pnt C hh.next 0 j := fun j hj => pnt_lt hj
   have W5 := W4.kp k5 ce5
   have go5 := W5.g.at mx
   have gG5 := W5.g.at mG
   have gXa5 := W5.g.at mXa
   unfold bnB at gXa5
   have hp := hput4 (d + 2) h5 _ 100 βa cpa psa ba (Fa q) q rv bv (txt xc 128) (txt (xc + 2) (69 * kX q)) (by omega) W5.a W5.sa (by omega) (by1.keep k5.1 fun j hj _ => k5.2 j hj) by2 (txt_len _ _) (by rw [txt_len]; omega) (by have := W5.la; omega)
   rw [hP] at hp
   simp (maxSteps := 2000000) (implicitDefEqProofs := false) (disch := first | omega | (simp only [SD.down,uA,uL] <;> omega) | fail) only [s2,s5,s6,s7,s8,s11,go0,go4,go5,gG0,gG4,gG5,gXa0,gXa4,gXa5,p1,po,hq2,rem18,cvB,<- hkO,hkm,ro,rs,bo,bs,env_P,env_L,TA.down,TL.down,same_nilslice,resE,oneV, ↓reduceIte,reduceCtorEq,uB,uE,uL,uA,uM,uS,uN,uX,uO,vR,vD,vL,vK,vE,vA,vM,vT,vS]
   first | refine G.call (hp) ?_ | refine G.callC (hp) ?_ | refine G.callL (hp) ?_
   rintro v h6 ⟨C6,tv,ba6,rfl,tok,B6,st6,lg6,fr6,hC6⟩
   have W6 := W5.doA (k := 88) B6 st6 lg6 fr6 hC6 (by rw [hPX]; exact putAll_uq _ _ _ W5.ua)
   rw [<- hFa1] at W6
   have go6 := W6.g.at mx
   have gG6 := W6.g.at mG
   have gXa6 := W6.g.at mXa
   have gXb6 := W6.g.at mXb
   unfold bnB at gXa6 gXb6
   have e1q : (1 : Int) - (q : Int) = ((1 - q : Nat) : Int) := by omega
   simp (maxSteps := 2000000) (implicitDefEqProofs := false) (disch := first | omega | (simp only [SD.down,uA,uL] <;> omega) | fail) only [s2,s5,s6,s7,s8,s11,go0,go4,go5,go6,gG0,gG4,gG5,gG6,gXa0,gXa4,gXa5,gXa6,gXb6,e1q,p1,po,hq2,rem18,cvB,<- hkO,hkm,sgA,same_b8,ro,rs,bo,bs,env_P,env_L,TA.down,TL.down,same_nilslice,resE,oneV, ↓reduceIte,reduceCtorEq,uB,uE,uL,uA,uM,uS,uN,uX,uO,vR,vD,vL,vK,vE,vA,vM,vT,vS]
   first | refine G.call (text_ok (d + 14) h6 xc 128 (by omega)) ?_ | refine G.callC (text_ok (d + 14) h6 xc 128 (by omega)) ?_ | refine G.callL (text_ok (d + 14) h6 xc 128 (by omega)) ?_
   rintro rv7 h7 ⟨by7,bk7,k7⟩
   obtain ⟨ro7,rs7,rl7⟩ := by7.ok
   have ce7 : ∀ j,j < h6.next -> pnt C6 h6.next 0 j = C6 j := fun j hj => pnt_lt hj
   have W7 := W6.kp k7 ce7
   have go7 := W7.g.at mx
   have gG7 := W7.g.at mG
   have gXb7 := W7.g.at mXb
   unfold bnB at gXb7
   have hr2 : 1 - q < 2 := by omega
   obtain ⟨O',hO'⟩ : ∃ O,O = (if 1 - q = 0 then x0 else x1) := ⟨_,rfl⟩
   have po' := puC_at xh xc x0 x1 (1 - q) hr2
   rw [<- hO'] at po'
   have hkO' : kX (1 - q) = O' % 256 % 18 := by rw [hkX,hO']
   have hk17' := kX17 (1 - q)
   have hkm' : kX (1 - q) % 256 = kX (1 - q) := by omega
   simp (maxSteps := 2000000) (implicitDefEqProofs := false) (disch := first | omega | (simp only [SD.down,uA,uL] <;> omega) | fail) only [s2,s5,s6,s7,s8,s11,go7,gG7,gXb7,e1q,p1,po',hr2,rem18,cvB,<- hkO',hkm',ro7,env_P,env_L,TA.down,TL.down,same_nilslice,resE,oneV, ↓reduceIte,reduceCtorEq,uB,uE,uL,uA,uM,uS,uN,uX,uO,vR,vD,vL,vK,vE,vA,vM,vT,vS]
   first | refine G.call (text_ok (d + 14) h7 (xc + 2) (69 * kX (1 - q)) (by omega)) ?_ | refine G.callC (text_ok (d + 14) h7 (xc + 2) (69 * kX (1 - q)) (by omega)) ?_ | refine G.callL (text_ok (d + 14) h7 (xc + 2) (69 * kX (1 - q)) (by omega)) ?_
   rintro bv8 h8 ⟨by8,bk8,k8⟩
   obtain ⟨bo8,bs8,bl8⟩ := by8.ok
   have ce8 : ∀ j,j < h7.next -> pnt (pnt C6 h6.next 0) h7.next 0 j = pnt C6 h6.next 0 j := fun j hj => pnt_lt hj
   have W8 := W7.kp k8 ce8
   have go8 := W8.g.at mx
   have gG8 := W8.g.at mG
   have gXb8 := W8.g.at mXb
   unfold bnB at gXb8
   have hp2 := hput4 (d + 2) h8 _ 200 βb cpb psb bb (Fb q) (1 - q) rv7 bv8 (txt xc 128) (txt (xc + 2) (69 * kX (1 - q))) (by omega) W8.b W8.sb (by omega) (by7.keep k8.1 fun j hj _ => k8.2 j hj) by8 (txt_len _ _) (by rw [txt_len]; omega) (by have := W8.lb; omega)
   rw [hP] at hp2
   simp (maxSteps := 2000000) (implicitDefEqProofs := false) (disch := first | omega | (simp only [SD.down,uA,uL] <;> omega) | fail) only [s2,s5,s6,s7,s8,s11,go6,go7,go8,gG6,gG7,gG8,gXb6,gXb7,gXb8,e1q,p1,po',hr2,rem18,cvB,<- hkO',hkm',ro7,rs7,bo8,bs8,env_P,env_L,TA.down,TL.down,same_nilslice,resE,oneV, ↓reduceIte,reduceCtorEq,uB,uE,uL,uA,uM,uS,uN,uX,uO,vR,vD,vL,vK,vE,vA,vM,vT,vS]
   first | refine G.call (hp2) ?_ | refine G.callC (hp2) ?_ | refine G.callL (hp2) ?_
   rintro v h9 ⟨C9,tv9,bb9,rfl,tok9,B9,st9,lg9,fr9,hC9⟩
   have W9 := W8.doB (k := 88) B9 st9 lg9 fr9 hC9 (by rw [hPX]; exact putAll_uq _ _ _ W8.ub)
   rw [<- hFb1] at W9
   have go9 := W9.g.at mx
   have gG9 := W9.g.at mG
   have gXb9 := W9.g.at mXb
   unfold bnB at gXb9
   simp (maxSteps := 2000000) (implicitDefEqProofs := false) (disch := first | omega | (simp only [SD.down,uA,uL] <;> omega) | fail) only [s2,s5,s6,s7,s8,s11,go6,go7,go8,go9,gG6,gG7,gG8,gG9,gXb6,gXb7,gXb8,gXb9,e1q,p1,po',hr2,rem18,cvB,<- hkO',hkm',sgA,same_b8,ro7,rs7,bo8,bs8,env_P,env_L,TA.down,TL.down,same_nilslice,resE,oneV, ↓reduceIte,reduceCtorEq,uB,uE,uL,uA,uM,uS,uN,uX,uO,vR,vD,vL,vK,vE,vA,vM,vT,vS]
   exact ih2 _ _ ⟨q + 1,C9,ba6,bb9,by omega,by simp (maxSteps := 2000000) (implicitDefEqProofs := false) (disch := first | omega | (simp only [SD.down,uA,uL] <;> omega) | fail) only [s2,TA.down,TL.down,same_nilslice,resE,oneV, ↓reduceIte,reduceCtorEq,uB,uE,uL,uA,uM,uS,uN,uX,uO,vR,vD,vL,vK,vE,vA,vM,vT,vS],by simp (maxSteps := 2000000) (implicitDefEqProofs := false) (disch := first | omega | (simp only [SD.down,uA,uL] <;> omega) | fail) only [s5,TA.down,TL.down,same_nilslice,resE,oneV, ↓reduceIte,reduceCtorEq,uB,uE,uL,uA,uM,uS,uN,uX,uO,vR,vD,vL,vK,vE,vA,vM,vT,vS],by simp (maxSteps := 2000000) (implicitDefEqProofs := false) (disch := first | omega | (simp only [SD.down,uA,uL] <;> omega) | fail) only [s6,TA.down,TL.down,same_nilslice,resE,oneV, ↓reduceIte,reduceCtorEq,uB,uE,uL,uA,uM,uS,uN,uX,uO,vR,vD,vL,vK,vE,vA,vM,vT,vS],by simp (maxSteps := 2000000) (implicitDefEqProofs := false) (disch := first | omega | (simp only [SD.down,uA,uL] <;> omega) | fail) only [s7,TA.down,TL.down,same_nilslice,resE,oneV, ↓reduceIte,reduceCtorEq,uB,uE,uL,uA,uM,uS,uN,uX,uO,vR,vD,vL,vK,vE,vA,vM,vT,vS],by simp (maxSteps := 2000000) (implicitDefEqProofs := false) (disch := first | omega | (simp only [SD.down,uA,uL] <;> omega) | fail) only [s8,TA.down,TL.down,same_nilslice,resE,oneV, ↓reduceIte,reduceCtorEq,uB,uE,uL,uA,uM,uS,uN,uX,uO,vR,vD,vL,vK,vE,vA,vM,vT,vS],by simp (maxSteps := 2000000) (implicitDefEqProofs := false) (disch := first | omega | (simp only [SD.down,uA,uL] <;> omega) | fail) only [TA.down,TL.down,same_nilslice,resE,oneV, ↓reduceIte,reduceCtorEq,uB,uE,uL,uA,uM,uS,uN,uX,uO,vR,vD,vL,vK,vE,vA,vM,vT,vS],W9.mono (by omega)⟩
  ·exact ⟨0,C,ba,bb,by omega,by simp (maxSteps := 2000000) (implicitDefEqProofs := false) (disch := first | omega | (simp only [SD.down,uA,uL] <;> omega) | fail) only [s2,TA.down,TL.down,same_nilslice,resE,oneV, ↓reduceIte,reduceCtorEq,uB,uE,uL,uA,uM,uS,uN,uX,uO,vR,vD,vL,vK,vE,vA,vM,vT,vS],by simp (maxSteps := 2000000) (implicitDefEqProofs := false) (disch := first | omega | (simp only [SD.down,uA,uL] <;> omega) | fail) only [s5,TA.down,TL.down,same_nilslice,resE,oneV, ↓reduceIte,reduceCtorEq,uB,uE,uL,uA,uM,uS,uN,uX,uO,vR,vD,vL,vK,vE,vA,vM,vT,vS],by simp (maxSteps := 2000000) (implicitDefEqProofs := false) (disch := first | omega | (simp only [SD.down,uA,uL] <;> omega) | fail) only [s6,TA.down,TL.down,same_nilslice,resE,oneV, ↓reduceIte,reduceCtorEq,uB,uE,uL,uA,uM,uS,uN,uX,uO,vR,vD,vL,vK,vE,vA,vM,vT,vS],by simp (maxSteps := 2000000) (implicitDefEqProofs := false) (disch := first | omega | (simp only [SD.down,uA,uL] <;> omega) | fail) only [s7,TA.down,TL.down,same_nilslice,resE,oneV, ↓reduceIte,reduceCtorEq,uB,uE,uL,uA,uM,uS,uN,uX,uO,vR,vD,vL,vK,vE,vA,vM,vT,vS],by simp (maxSteps := 2000000) (implicitDefEqProofs := false) (disch := first | omega | (simp only [SD.down,uA,uL] <;> omega) | fail) only [s8,TA.down,TL.down,same_nilslice,resE,oneV, ↓reduceIte,reduceCtorEq,uB,uE,uL,uA,uM,uS,uN,uX,uO,vR,vD,vL,vK,vE,vA,vM,vT,vS],by simp (maxSteps := 2000000) (implicitDefEqProofs := false) (disch := first | omega | (simp only [SD.down,uA,uL] <;> omega) | fail) only [TA.down,TL.down,same_nilslice,resE,oneV, ↓reduceIte,reduceCtorEq,uB,uE,uL,uA,uM,uS,uN,uX,uO,vR,vD,vL,vK,vE,vA,vM,vT,vS],by rw [hFa0,hFb0]; exact W.mono (by omega)⟩
 ·rintro j mm σ hh ⟨i,C,D,ba,bb,hi,s2,s3,s5,s6,s7,s8,s9,W⟩ ih
  simp (maxSteps := 2000000) (implicitDefEqProofs := false) (disch := first | omega | (simp only [SD.down,uA,uL] <;> omega) | fail) only [run_it,s2,s3,s5,s6,s7,s8,s9,env_P,env_L,TA.down,TL.down,same_nilslice,resE,oneV, ↓reduceIte,reduceCtorEq,uB,uE,uL,uA,uM,uS,uN,uX,uO,vR,vD,vL,vK,vE,vA,vM,vT,vS]
  rw [run_loop]
  refine loop_ind (fun j σ hh => ∃ (q : Nat) (C : Col) (D : Img) (ba bb : BS),q + j = 2 /\ σ 2 = .ptr h.next 0 /\ σ 3 = .ptr (h.next + 1) 0 /\ σ 5 = .ptr h1.next 0 /\ σ 6 = .int .i64 54 /\ σ 7 = .ptr Xa 0 /\ σ 8 = .ptr Xb 0 /\ σ 9 = .int .i64 (i : Int) /\ σ 10 = .int .i64 (q : Int) /\ WJ hh C gg βa cpa psa ba D βb cpb psb bb D (352 * i + 176 * q)) ?_ ?_ 2 _ _ _ (by simp) ?_
  ·rintro mm σ hh ⟨q,C,D,ba,bb,hq,s2,s3,s5,s6,s7,s8,s9,s10,W⟩
   obtain rfl : q = 2 := by omega
   simp (maxSteps := 2000000) (implicitDefEqProofs := false) (disch := first | omega | (simp only [SD.down,uA,uL] <;> omega) | fail) only [run_it,s2,s3,s5,s6,s7,s8,s9,s10,env_P,env_L,TA.down,TL.down,same_nilslice,resE,oneV, ↓reduceIte,reduceCtorEq,uB,uE,uL,uA,uM,uS,uN,uX,uO,vR,vD,vL,vK,vE,vA,vM,vT,vS]
   exact ih _ _ ⟨i + 1,C,D,ba,bb,by omega,by simp (maxSteps := 2000000) (implicitDefEqProofs := false) (disch := first | omega | (simp only [SD.down,uA,uL] <;> omega) | fail) only [s2,TA.down,TL.down,same_nilslice,resE,oneV, ↓reduceIte,reduceCtorEq,uB,uE,uL,uA,uM,uS,uN,uX,uO,vR,vD,vL,vK,vE,vA,vM,vT,vS],by simp (maxSteps := 2000000) (implicitDefEqProofs := false) (disch := first | omega | (simp only [SD.down,uA,uL] <;> omega) | fail) only [s3,TA.down,TL.down,same_nilslice,resE,oneV, ↓reduceIte,reduceCtorEq,uB,uE,uL,uA,uM,uS,uN,uX,uO,vR,vD,vL,vK,vE,vA,vM,vT,vS],by simp (maxSteps := 2000000) (implicitDefEqProofs := false) (disch := first | omega | (simp only [SD.down,uA,uL] <;> omega) | fail) only [s5,TA.down,TL.down,same_nilslice,resE,oneV, ↓reduceIte,reduceCtorEq,uB,uE,uL,uA,uM,uS,uN,uX,uO,vR,vD,vL,vK,vE,vA,vM,vT,vS],by simp (maxSteps := 2000000) (implicitDefEqProofs := false) (disch := first | omega | (simp only [SD.down,uA,uL] <;> omega) | fail) only [s6,TA.down,TL.down,same_nilslice,resE,oneV, ↓reduceIte,reduceCtorEq,uB,uE,uL,uA,uM,uS,uN,uX,uO,vR,vD,vL,vK,vE,vA,vM,vT,vS],by simp (maxSteps := 2000000) (implicitDefEqProofs := false) (disch := first | omega | (simp only [SD.down,uA,uL] <;> omega) | fail) only [s7,TA.down,TL.down,same_nilslice,resE,oneV, ↓reduceIte,reduceCtorEq,uB,uE,uL,uA,uM,uS,uN,uX,uO,vR,vD,vL,vK,vE,vA,vM,vT,vS],by simp (maxSteps := 2000000) (implicitDefEqProofs := false) (disch := first | omega | (simp only [SD.down,uA,uL] <;> omega) | fail) only [s8,TA.down,TL.down,same_nilslice,resE,oneV, ↓reduceIte,reduceCtorEq,uB,uE,uL,uA,uM,uS,uN,uX,uO,vR,vD,vL,vK,vE,vA,vM,vT,vS],by simp (maxSteps := 2000000) (implicitDefEqProofs := false) (disch := first | omega | (simp only [SD.down,uA,uL] <;> omega) | fail) only [TA.down,TL.down,same_nilslice,resE,oneV, ↓reduceIte,reduceCtorEq,uB,uE,uL,uA,uM,uS,uN,uX,uO,vR,vD,vL,vK,vE,vA,vM,vT,vS],W.mono (by omega)⟩
  ·rintro j mm σ hh ⟨q,C,D,ba,bb,hq,s2,s3,s5,s6,s7,s8,s9,s10,W⟩ ih2
   have hq2 : q < 2 := by omega
   have go0 := W.g.at mo
   have gG0 := W.g.at mG
   have gXa0 := W.g.at mXa
   unfold bnB at gXa0
   have po := puC_at oh oc o0 o1 q hq2
   have p1 : (puC oh oc o0 o1)[1]? = some (b8 oc) := rfl
   obtain ⟨O,hO⟩ : ∃ O,O = (if q = 0 then o0 else o1) := ⟨_,rfl⟩
   rw [<- hO] at po
   obtain ⟨kO,hkO⟩ : ∃ kO,kO = O % 256 % 18 := ⟨_,rfl⟩
   have hk17 : kO <= 17 := by omega
   have hkm : kO % 256 = kO := by omega
   simp (maxSteps := 2000000) (implicitDefEqProofs := false) (disch := first | omega | (simp only [SD.down,uA,uL] <;> omega) | fail) only [run_it,s2,s3,s5,s6,s7,s8,s9,s10,go0,gG0,gXa0,p1,env_P,env_L,TA.down,TL.down,same_nilslice,resE,oneV, ↓reduceIte,reduceCtorEq,uB,uE,uL,uA,uM,uS,uN,uX,uO,vR,vD,vL,vK,vE,vA,vM,vT,vS]
   first | refine G.call (text_ok (d + 14) hh oc 128 (by omega)) ?_ | refine G.callC (text_ok (d + 14) hh oc 128 (by omega)) ?_ | refine G.callL (text_ok (d + 14) hh oc 128 (by omega)) ?_
   rintro rv h4 ⟨by1,bk1,k4⟩
   obtain ⟨ro,rs,rl⟩ := by1.ok
   have ce4 : ∀ j,j < hh.next -> pnt C hh.next 0 j = C j := fun j hj => pnt_lt hj
   have W4 := W.kp k4 ce4
   have go4 := W4.g.at mo
   have gG4 := W4.g.at mG
   have gXa4 := W4.g.at mXa
   unfold bnB at gXa4
   simp (maxSteps := 2000000) (implicitDefEqProofs := false) (disch := first | omega | (simp only [SD.down,uA,uL] <;> omega) | fail) only [s2,s3,s5,s6,s7,s8,s9,s10,go4,gG4,gXa4,p1,po,hq2,rem18,cvB,<- hkO,hkm,ro,env_P,env_L,TA.down,TL.down,same_nilslice,resE,oneV, ↓reduceIte,reduceCtorEq,uB,uE,uL,uA,uM,uS,uN,uX,uO,vR,vD,vL,vK,vE,vA,vM,vT,vS]
   first | refine G.call (text_ok (d + 14) h4 (oc + 1) (69 * kO) (by omega)) ?_ | refine G.callC (text_ok (d + 14) h4 (oc + 1) (69 * kO) (by omega)) ?_ | refine G.callL (text_ok (d + 14) h4 (oc + 1) (69 * kO) (by omega)) ?_
   rintro bv h5 ⟨by2,bk2,k5⟩
   obtain ⟨bo,bs,bl⟩ := by2.ok
   have ce5 : ∀ j,j < h4.next -> pnt (pnt C hh.next 0) h4.next 0 j = pnt C hh.next 0 j := fun j hj => pnt_lt hj
   have W5 := W4.kp k5 ce5
   have go5 := W5.g.at mo
   have gG5 := W5.g.at mG
   have gXa5 := W5.g.at mXa
   unfold bnB at gXa5
   have n4 := k4.1
   have hp := hput4 (d + 2) h5 _ 100 βa cpa psa ba D q rv bv (txt oc 128) (txt (oc + 1) (69 * kO)) (by omega) W5.a W5.sa (by omega) (by1.keep k5.1 fun j hj _ => k5.2 j hj) by2 (txt_len _ _) (by rw [txt_len]; omega) (by have := W5.la; omega)
   simp (maxSteps := 2000000) (implicitDefEqProofs := false) (disch := first | omega | (simp only [SD.down,uA,uL] <;> omega) | fail) only [s2,s3,s5,s6,s7,s8,s9,s10,go0,go4,go5,gG0,gG4,gG5,gXa0,gXa4,gXa5,p1,po,hq2,rem18,cvB,<- hkO,hkm,ro,rs,bo,bs,env_P,env_L,TA.down,TL.down,same_nilslice,resE,oneV, ↓reduceIte,reduceCtorEq,uB,uE,uL,uA,uM,uS,uN,uX,uO,vR,vD,vL,vK,vE,vA,vM,vT,vS]
   first | refine G.call (hp) ?_ | refine G.callC (hp) ?_ | refine G.callL (hp) ?_
   rintro v h6 ⟨C6,tv,ba6,rfl,tok,B6,st6,lg6,fr6,hC6⟩
   have W6 := W5.doA (k := 88) B6 st6 lg6 fr6 hC6 (putAll_uq _ _ _ W5.ua)
   have go6 := W6.g.at mo
   have gG6 := W6.g.at mG
   have gXa6 := W6.g.at mXa
   have gXb6 := W6.g.at mXb
   unfold bnB at gXa6 gXb6
   simp (maxSteps := 2000000) (implicitDefEqProofs := false) (disch := first | omega | (simp only [SD.down,uA,uL] <;> omega) | fail) only [s2,s3,s5,s6,s7,s8,s9,s10,go0,go4,go5,go6,gG0,gG4,gG5,gG6,gXa0,gXa4,gXa5,gXa6,gXb6,p1,po,hq2,rem18,cvB,<- hkO,hkm,sgA,same_b8,ro,rs,bo,bs,env_P,env_L,TA.down,TL.down,same_nilslice,resE,oneV, ↓reduceIte,reduceCtorEq,uB,uE,uL,uA,uM,uS,uN,uX,uO,vR,vD,vL,vK,vE,vA,vM,vT,vS]
   first | refine G.call (text_ok (d + 14) h6 oc 128 (by omega)) ?_ | refine G.callC (text_ok (d + 14) h6 oc 128 (by omega)) ?_ | refine G.callL (text_ok (d + 14) h6 oc 128 (by omega)) ?_
   rintro rv7 h7 ⟨by7,bk7,k7⟩
   obtain ⟨ro7,rs7,rl7⟩ := by7.ok
   have ce7 : ∀ j,j < h6.next -> pnt C6 h6.next 0 j = C6 j := fun j hj => pnt_lt hj
   have W7 := W6.kp k7 ce7
   have go7 := W7.g.at mo
   have gG7 := W7.g.at mG
   have gXb7 := W7.g.at mXb
   unfold bnB at gXb7
   simp (maxSteps := 2000000) (implicitDefEqProofs := false) (disch := first | omega | (simp only [SD.down,uA,uL] <;> omega) | fail) only [s2,s3,s5,s6,s7,s8,s9,s10,go7,gG7,gXb7,p1,po,hq2,rem18,cvB,<- hkO,hkm,ro7,env_P,env_L,TA.down,TL.down,same_nilslice,resE,oneV, ↓reduceIte,reduceCtorEq,uB,uE,uL,uA,uM,uS,uN,uX,uO,vR,vD,vL,vK,vE,vA,vM,vT,vS]
   first | refine G.call (text_ok (d + 14) h7 (oc + 1) (69 * kO) (by omega)) ?_ | refine G.callC (text_ok (d + 14) h7 (oc + 1) (69 * kO) (by omega)) ?_ | refine G.callL (text_ok (d + 14) h7 (oc + 1) (69 * kO) (by omega)) ?_
   rintro bv8 h8 ⟨by8,bk8,k8⟩
   obtain ⟨bo8,bs8,bl8⟩ := by8.ok
   have ce8 : ∀ j,j < h7.next -> pnt (pnt C6 h6.next 0) h7.next 0 j = pnt C6 h6.next 0 j := fun j hj => pnt_lt hj
   have W8 := W7.kp k8 ce8
   have go8 := W8.g.at mo
   have gG8 := W8.g.at mG
   have gXb8 := W8.g.at mXb
   unfold bnB at gXb8
   have hp2 := hput4 (d + 2) h8 _ 200 βb cpb psb bb D q rv7 bv8 (txt oc 128) (txt (oc + 1) (69 * kO)) (by omega) W8.b W8.sb (by omega) (by7.keep k8.1 fun j hj _ => k8.2 j hj) by8 (txt_len _ _) (by rw [txt_len]; omega) (by have := W8.lb; omega)
   simp (maxSteps := 2000000) (implicitDefEqProofs := false) (disch := first | omega | (simp only [SD.down,uA,uL] <;> omega) | fail) only [s2,s3,s5,s6,s7,s8,s9,s10,go6,go7,go8,gG6,gG7,gG8,gXb6,gXb7,gXb8,p1,po,hq2,rem18,cvB,<- hkO,hkm,ro7,rs7,bo8,bs8,env_P,env_L,TA.down,TL.down,same_nilslice,resE,oneV, ↓reduceIte,reduceCtorEq,uB,uE,uL,uA,uM,uS,uN,uX,uO,vR,vD,vL,vK,vE,vA,vM,vT,vS]
   first | refine G.call (hp2) ?_ | refine G.callC (hp2) ?_ | refine G.callL (hp2) ?_
   rintro v h9 ⟨C9,tv9,bb9,rfl,tok9,B9,st9,lg9,fr9,hC9⟩
   have W9 := W8.doB (k := 88) B9 st9 lg9 fr9 hC9 (putAll_uq _ _ _ W8.ub)
   have go9 := W9.g.at mo
   have gG9 := W9.g.at mG
   have gXb9 := W9.g.at mXb
   unfold bnB at gXb9
   simp (maxSteps := 2000000) (implicitDefEqProofs := false) (disch := first | omega | (simp only [SD.down,uA,uL] <;> omega) | fail) only [s2,s3,s5,s6,s7,s8,s9,s10,go6,go7,go8,go9,gG6,gG7,gG8,gG9,gXb6,gXb7,gXb8,gXb9,p1,po,hq2,rem18,cvB,<- hkO,hkm,sgA,same_b8,ro7,rs7,bo8,bs8,env_P,env_L,TA.down,TL.down,same_nilslice,resE,oneV, ↓reduceIte,reduceCtorEq,uB,uE,uL,uA,uM,uS,uN,uX,uO,vR,vD,vL,vK,vE,vA,vM,vT,vS]
   exact ih2 _ _ ⟨q + 1,C9,_,ba6,bb9,by omega,by simp (maxSteps := 2000000) (implicitDefEqProofs := false) (disch := first | omega | (simp only [SD.down,uA,uL] <;> omega) | fail) only [s2,TA.down,TL.down,same_nilslice,resE,oneV, ↓reduceIte,reduceCtorEq,uB,uE,uL,uA,uM,uS,uN,uX,uO,vR,vD,vL,vK,vE,vA,vM,vT,vS],by simp (maxSteps := 2000000) (implicitDefEqProofs := false) (disch := first | omega | (simp only [SD.down,uA,uL] <;> omega) | fail) only [s3,TA.down,TL.down,same_nilslice,resE,oneV, ↓reduceIte,reduceCtorEq,uB,uE,uL,uA,uM,uS,uN,uX,uO,vR,vD,vL,vK,vE,vA,vM,vT,vS],by simp (maxSteps := 2000000) (implicitDefEqProofs := false) (disch := first | omega | (simp only [SD.down,uA,uL] <;> omega) | fail) only [s5,TA.down,TL.down,same_nilslice,resE,oneV, ↓reduceIte,reduceCtorEq,uB,uE,uL,uA,uM,uS,uN,uX,uO,vR,vD,vL,vK,vE,vA,vM,vT,vS],by simp (maxSteps := 2000000) (implicitDefEqProofs := false) (disch := first | omega | (simp only [SD.down,uA,uL] <;> omega) | fail) only [s6,TA.down,TL.down,same_nilslice,resE,oneV, ↓reduceIte,reduceCtorEq,uB,uE,uL,uA,uM,uS,uN,uX,uO,vR,vD,vL,vK,vE,vA,vM,vT,vS],by simp (maxSteps := 2000000) (implicitDefEqProofs := false) (disch := first | omega | (simp only [SD.down,uA,uL] <;> omega) | fail) only [s7,TA.down,TL.down,same_nilslice,resE,oneV, ↓reduceIte,reduceCtorEq,uB,uE,uL,uA,uM,uS,uN,uX,uO,vR,vD,vL,vK,vE,vA,vM,vT,vS],by simp (maxSteps := 2000000) (implicitDefEqProofs := false) (disch := first | omega | (simp only [SD.down,uA,uL] <;> omega) | fail) only [s8,TA.down,TL.down,same_nilslice,resE,oneV, ↓reduceIte,reduceCtorEq,uB,uE,uL,uA,uM,uS,uN,uX,uO,vR,vD,vL,vK,vE,vA,vM,vT,vS],by simp (maxSteps := 2000000) (implicitDefEqProofs := false) (disch := first | omega | (simp only [SD.down,uA,uL] <;> omega) | fail) only [s9,TA.down,TL.down,same_nilslice,resE,oneV, ↓reduceIte,reduceCtorEq,uB,uE,uL,uA,uM,uS,uN,uX,uO,vR,vD,vL,vK,vE,vA,vM,vT,vS],by simp (maxSteps := 2000000) (implicitDefEqProofs := false) (disch := first | omega | (simp only [SD.down,uA,uL] <;> omega) | fail) only [TA.down,TL.down,same_nilslice,resE,oneV, ↓reduceIte,reduceCtorEq,uB,uE,uL,uA,uM,uS,uN,uX,uO,vR,vD,vL,vK,vE,vA,vM,vT,vS],W9.mono (by omega)⟩
  ·exact ⟨0,C,D,ba,bb,by omega,by simp (maxSteps := 2000000) (implicitDefEqProofs := false) (disch := first | omega | (simp only [SD.down,uA,uL] <;> omega) | fail) only [s2,TA.down,TL.down,same_nilslice,resE,oneV, ↓reduceIte,reduceCtorEq,uB,uE,uL,uA,uM,uS,uN,uX,uO,vR,vD,vL,vK,vE,vA,vM,vT,vS],by simp (maxSteps := 2000000) (implicitDefEqProofs := false) (disch := first | omega | (simp only [SD.down,uA,uL] <;> omega) | fail) only [s3,TA.down,TL.down,same_nilslice,resE,oneV, ↓reduceIte,reduceCtorEq,uB,uE,uL,uA,uM,uS,uN,uX,uO,vR,vD,vL,vK,vE,vA,vM,vT,vS],by simp (maxSteps := 2000000) (implicitDefEqProofs := false) (disch := first | omega | (simp only [SD.down,uA,uL] <;> omega) | fail) only [s5,TA.down,TL.down,same_nilslice,resE,oneV, ↓reduceIte,reduceCtorEq,uB,uE,uL,uA,uM,uS,uN,uX,uO,vR,vD,vL,vK,vE,vA,vM,vT,vS],by simp (maxSteps := 2000000) (implicitDefEqProofs := false) (disch := first | omega | (simp only [SD.down,uA,uL] <;> omega) | fail) only [s6,TA.down,TL.down,same_nilslice,resE,oneV, ↓reduceIte,reduceCtorEq,uB,uE,uL,uA,uM,uS,uN,uX,uO,vR,vD,vL,vK,vE,vA,vM,vT,vS],by simp (maxSteps := 2000000) (implicitDefEqProofs := false) (disch := first | omega | (simp only [SD.down,uA,uL] <;> omega) | fail) only [s7,TA.down,TL.down,same_nilslice,resE,oneV, ↓reduceIte,reduceCtorEq,uB,uE,uL,uA,uM,uS,uN,uX,uO,vR,vD,vL,vK,vE,vA,vM,vT,vS],by simp (maxSteps := 2000000) (implicitDefEqProofs := false) (disch := first | omega | (simp only [SD.down,uA,uL] <;> omega) | fail) only [s8,TA.down,TL.down,same_nilslice,resE,oneV, ↓reduceIte,reduceCtorEq,uB,uE,uL,uA,uM,uS,uN,uX,uO,vR,vD,vL,vK,vE,vA,vM,vT,vS],by simp (maxSteps := 2000000) (implicitDefEqProofs := false) (disch := first | omega | (simp only [SD.down,uA,uL] <;> omega) | fail) only [s9,TA.down,TL.down,same_nilslice,resE,oneV, ↓reduceIte,reduceCtorEq,uB,uE,uL,uA,uM,uS,uN,uX,uO,vR,vD,vL,vK,vE,vA,vM,vT,vS],by simp (maxSteps := 2000000) (implicitDefEqProofs := false) (disch := first | omega | (simp only [SD.down,uA,uL] <;> omega) | fail) only [TA.down,TL.down,same_nilslice,resE,oneV, ↓reduceIte,reduceCtorEq,uB,uE,uL,uA,uM,uS,uN,uX,uO,vR,vD,vL,vK,vE,vA,vM,vT,vS],W.mono (by omega)⟩
 ·exact ⟨0,C3,[],ba,bb,by omega,by simp (maxSteps := 2000000) (implicitDefEqProofs := false) (disch := first | omega | (simp only [SD.down,uA,uL] <;> omega) | fail) only [TA.down,TL.down,same_nilslice,resE,oneV, ↓reduceIte,reduceCtorEq,uB,uE,uL,uA,uM,uS,uN,uX,uO,vR,vD,vL,vK,vE,vA,vM,vT,vS],by simp (maxSteps := 2000000) (implicitDefEqProofs := false) (disch := first | omega | (simp only [SD.down,uA,uL] <;> omega) | fail) only [TA.down,TL.down,same_nilslice,resE,oneV, ↓reduceIte,reduceCtorEq,uB,uE,uL,uA,uM,uS,uN,uX,uO,vR,vD,vL,vK,vE,vA,vM,vT,vS],by simp (maxSteps := 2000000) (implicitDefEqProofs := false) (disch := first | omega | (simp only [SD.down,uA,uL] <;> omega) | fail) only [TA.down,TL.down,same_nilslice,resE,oneV, ↓reduceIte,reduceCtorEq,uB,uE,uL,uA,uM,uS,uN,uX,uO,vR,vD,vL,vK,vE,vA,vM,vT,vS],by simp (maxSteps := 2000000) (implicitDefEqProofs := false) (disch := first | omega | (simp only [SD.down,uA,uL] <;> omega) | fail) only [TA.down,TL.down,same_nilslice,resE,oneV, ↓reduceIte,reduceCtorEq,uB,uE,uL,uA,uM,uS,uN,uX,uO,vR,vD,vL,vK,vE,vA,vM,vT,vS],by simp (maxSteps := 2000000) (implicitDefEqProofs := false) (disch := first | omega | (simp only [SD.down,uA,uL] <;> omega) | fail) only [TA.down,TL.down,same_nilslice,resE,oneV, ↓reduceIte,reduceCtorEq,uB,uE,uL,uA,uM,uS,uN,uX,uO,vR,vD,vL,vK,vE,vA,vM,vT,vS],by simp (maxSteps := 2000000) (implicitDefEqProofs := false) (disch := first | omega | (simp only [SD.down,uA,uL] <;> omega) | fail) only [TA.down,TL.down,same_nilslice,resE,oneV, ↓reduceIte,reduceCtorEq,uB,uE,uL,uA,uM,uS,uN,uX,uO,vR,vD,vL,vK,vE,vA,vM,vT,vS],by simp (maxSteps := 2000000) (implicitDefEqProofs := false) (disch := first | omega | (simp only [SD.down,uA,uL] <;> omega) | fail) only [TA.down,TL.down,same_nilslice,resE,oneV, ↓reduceIte,reduceCtorEq,uB,uE,uL,uA,uM,uS,uN,uX,uO,vR,vD,vL,vK,vE,vA,vM,vT,vS],W3⟩
theorem four_of {l : List Nat} (h : l.length = 4) : ∃ a b c d,B l = puC a b c d := by
 match l,h with
 | [a,b,c,d],_ => exact ⟨a,b,c,d,rfl⟩
theorem jorder_row (d : Nat) (h : Heap) (l0 : List Nat) (hl0 : l0.length = 4) (hb0 : ∀ i,l0.getD i 0 < 256) (l1 : List Nat) (hl1 : l1.length = 4) (hb1 : ∀ i,l1.getD i 0 < 256) : ∃ x h',callD env (d + 16) 4 [.agg (B l0), .agg (B l1)] h = some (x,h') /\ x = .bool true := by
 obtain ⟨a,b,c,e,h0⟩ := four_of hl0
 obtain ⟨a',b',c',e',h1⟩ := four_of hl1
 rw [h0,h1]
 obtain ⟨x,h',hh,q⟩ := jorder_ok d h a b c e a' b' c' e'
 exact ⟨x,h',hh,q⟩
end Go.Proofs.Ytlnepbkeiianmaa
