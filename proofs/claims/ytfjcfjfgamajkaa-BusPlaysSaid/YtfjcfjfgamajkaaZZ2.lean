/- Of this program, for all inputs: contracts. No condition but those in the theorems. -/
import Derived.Test.YtfjcfjfgamajkaaZZ1
import Derived.Test.YtfjcfjfgamajkaaZPQ
namespace Go.Proofs.Ytfjcfjfgamajkaa
open Go Go.Ai Go.Aw Go.Proofs
open Nat renaming reduceBEq -> uB,reduceEqDiff -> uE,reduceLT -> uL,reduceAdd -> uA,reduceMul -> uM,reduceSub -> uS,reduceAnd -> uN,reduceXor -> uX,reduceOr -> uO
open Int renaming reduceMod -> vR,reduceDiv -> vD,reduceLT -> vL,reduceLE -> vK,reduceEq -> vE,reduceAdd -> vA,reduceMul -> vM,reduceToNat -> vT,reduceSub -> vS
set_option linter.unusedSimpArgs false
set_option linter.unusedVariables false
set_option maxRecDepth 10000
def refK (kr n : Nat) : Prop := kr <= n /\ n < kr + 100
def RCellI (h : Heap) (c : Col) (k cx N : Nat) (x : Nat × List Nat) : Prop := ∃ (lv : AV) (K : Nat) (l : List (Nat × List Nat)),cx < h.next /\ c cx = k /\ h.get cx = some (.cells (cC x.1 x.2 ++ [lv]) 0 false) /\ HisIs h lv K l /\ c K = k /\ l.length <= N /\ (∀ y ∈ l,y.2.length = 32) /\ 0 < l.length
theorem cC_app_cut (n : Nat) (t : List Nat) (ht : t.length = 32) (v : AV) : cutE 1 32 (cC n t ++ [v]) = some (B t) := by
 rw [cutE_of (by simp [cC,B_len,ht])]
 unfold cC
 simp only [List.cons_append,List.drop_succ_cons,List.drop_zero]
 rw [List.take_append_of_le_length (by rw [B_len]; omega),List.take_of_length_le (by rw [B_len]; omega)]
theorem cC_app_over (n : Nat) (t u : List Nat) (ht : t.length = 32) (hu : u.length = 32) (v : AV) : overE 1 (B u) (cC n t ++ [v]) = some (cC n u ++ [v]) := by
 unfold overE
 rw [if_pos ⟨by simp [cC,B_len,ht,hu],allSc_B _⟩]
 unfold cC
 simp only [List.cons_append,List.take_succ_cons,List.take_zero,B_len,hu]
 rw [show 1 + 32 = 32 + 1 from rfl,List.drop_succ_cons,List.drop_append_of_le_length (by rw [B_len]; omega),List.drop_of_length_le (by rw [B_len]; omega)]
 simp
theorem cC_app_tail (n : Nat) (t : List Nat) (ht : t.length = 32) (u v : AV) (hv : isSc v = true) : overE 33 [v] (cC n t ++ [u]) = some (cC n t ++ [v]) := by
 have hl : (cC n t).length = 33 := by simp [cC,B_len,ht]
 unfold overE
 rw [if_pos ⟨by simp [hl],by simp [allSc,hv]⟩]
 rw [List.take_append_of_le_length (by omega),List.take_of_length_le (by omega),List.drop_of_length_le (by simp [hl])]
 simp
theorem cc_read (d : Nat) (h : Heap) (cx : Nat) (n : Nat) (t : List Nat) (lv : AV) (hc : h.get cx = some (.cells (cC n t ++ [lv]) 0 false)) (ht : t.length = 32) (lc : cx < h.next) :
  G (callD env (d + 1) 88 [.ptr cx 0] h) fun v h' => v = .agg (cC n t) /\ Keeps h h' := by
 refine G.gen fun Q hX => ?_
 have c0 : (cC n t ++ [lv])[0]? = some (.int .u64 (n : Int)) := rfl
 have c1 := cC_app_cut n t ht lv
 have cz : czz.length = 32 := by simp [czz]
 have cl := cC_len n t ht
 rw [callD_run (E := env) [] (by kernel_rfl) Try.func88 rfl (by rw [Try.ntmps88]; simp) (by kernel_rfl)]; simp (disch := first | omega | (simp only [SD.down,uA,uL] <;> omega) | fail) only [Try.ntmps88,Try.results88,env_P,env_L,hc,c0,c1,c33_fold,cz_fold,cl,ht,cC_n,cC_l _ _ _ cz ht,cC_over _ _ _ czz ht cz,cC_cut _ _ ht,cutB_all,over_B,TQ.down,resE,oneV, ↓reduceIte,reduceCtorEq,uB,uE,uL,uA,uM,uS,vL,vK,vE,vA,vS]
 subst hX
 exact G.ok ⟨rfl,⟨by simp (disch := omega) only [TH.down,uA,uB]; omega,fun j hj => by simp (disch := omega) only [TH.down,uA,uB]⟩⟩
theorem cc_adv (d : Nat) (h : Heap) (c : Col) (k cx N : Nat) (x : Nat × List Nat) (I : RCellI h c k cx N x) (hx : x.2.length = 32) (hN : N < 3900) (hm : x.1 <= 4611686018427387904) (lb : List Nat) (hlb : lb.length = 32) :
  G (callD env (d + 2) 107 [.ptr cx 0, .agg (B lb)] h) fun v h' => v = .tup (if x.1 = 4611686018427387904 then [.int .u64 0, .int .i64 15] else [.int .u64 ((x.1 + 1 : Nat) : Int), .int .i64 0]) /\ RCellI h' (pnt c h.next k) k cx (N + 1) (if x.1 = 4611686018427387904 then x else (x.1 + 1,lb)) /\ Fr (· = k) c h h' := by
 refine G.gen fun Q hX => ?_
 have I0 := I
 obtain ⟨lv,K,l,l1,c1,g1,hh,cK,hll,hl,h0⟩ := I
 obtain ⟨n,t⟩ := x
 have e0 : (cC n t ++ [lv])[0]? = some (.int .u64 (n : Int)) := rfl
 have e1 := cC_app_cut n t hx lv
 have hok := hh.ok
 have hsm := hh.same
 by_cases hf : n = 4611686018427387904
 ·have df : decide ((n : Int) = 4611686018427387904) = true := decide_eq_true (by omega)
  rw [if_pos hf,if_pos hf] at hX
  rw [callD_run (E := env) [(5, .fl [(4,0,2)])] (by kernel_rfl) Try.func107 rfl (by rw [Try.ntmps107]; simp) (by kernel_rfl)]; simp (disch := first | omega | (simp only [SD.down,uA,uL] <;> omega) | fail) only [Try.ntmps107,Try.results107,env_P,env_L,g1,e0,df,hlb,cutB_all,over_B,TQ.down,resE,oneV, ↓reduceIte,reduceCtorEq,uB,uE,uL,uA,uM,uS,vL,vK,vE,vA,vS]
  subst hX
  have kp : Keeps h (h.new (Blk.cells (B lb) 0 false)) := ⟨by simp (disch := omega) only [TH.down,uA,uB]; omega,fun j hj => by simp (disch := omega) only [TH.down,uA,uB]⟩
  exact G.ok ⟨rfl,⟨lv,K,l,Nat.lt_of_lt_of_le l1 kp.1,(pnt_lt l1).trans c1,(kp.2 _ l1).trans g1,hh.keep kp.1 (fun hK => kp.2 K hK),(pnt_lt hh.lt).trans cK,by omega,hl,h0⟩, .of kp⟩
 have df : decide ((n : Int) = 4611686018427387904) = false := decide_eq_false (by omega)
 rw [if_neg hf,if_neg hf] at hX
 have eo := cC_app_over (n + 1) t lb hx hlb lv
 have es : (cC n t ++ [lv]).set 0 (.int .u64 ((n + 1 : Nat) : Int)) = cC (n + 1) t ++ [lv] := rfl
 have e2 : (cC (n + 1) lb ++ [lv])[0]? = some (.int .u64 ((n + 1 : Nat) : Int)) := rfl
 have e3 : (cC (n + 1) lb ++ [lv])[33]? = some lv := by simp [cC,B_len,hlb]
 rw [callD_run (E := env) [(5, .fl [(4,0,2)])] (by kernel_rfl) Try.func107 rfl (by rw [Try.ntmps107]; simp) (by kernel_rfl)]; simp (disch := first | omega | (simp only [SD.down,uA,uL] <;> omega) | fail) only [Try.ntmps107,Try.results107,env_P,env_L,g1,e0,df,hlb,cutB_all,over_B,es,eo,e2,e3,hok,hsm,TQ.down,resE,oneV, ↓reduceIte,reduceCtorEq,uB,uE,uL,uA,uM,uS,vL,vK,vE,vA,vS]
 have lK := hh.lt
 have gH : ((h.new (Blk.cells (B lb) 0 false)).put cx (some (Blk.cells (cC (n + 1) lb ++ [lv]) 0 false))).get cx = some (Blk.cells (cC (n + 1) lb ++ [lv]) 0 false) := by simp (disch := omega) only [TH.down,uA,uB]
 have nH : ((h.new (Blk.cells (B lb) 0 false)).put cx (some (Blk.cells (cC (n + 1) lb ++ [lv]) 0 false))).next = h.next + 1 := by simp (disch := omega) only [TH.down,uA,uB]
 have kH : ∀ j,j < h.next -> j ≠ cx -> ((h.new (Blk.cells (B lb) 0 false)).put cx (some (Blk.cells (cC (n + 1) lb ++ [lv]) 0 false))).get j = h.get j := fun j hj jc => by simp (disch := omega) only [TH.down,uA,uB]
 have hKc : K ≠ cx := by
  rintro rfl
  rcases hh with ⟨y,rfl,rfl,y1,_⟩ | ⟨rfl,y1,_⟩
  ·rw [g1] at y1
   have := congrArg (fun z => match z with | some (Blk.cells c _ _) => c.length | _ => 0) y1
   simp [cC,B_len,hx,hl y (by simp)] at this
  ·rw [g1] at y1
   have := congrArg (fun z => match z with | some (Blk.cells _ e _) => e | _ => 0) y1
   simp at this
 generalize ((h.new (Blk.cells (B lb) 0 false)).put cx (some (Blk.cells (cC (n + 1) lb ++ [lv]) 0 false))) = H at gH nH kH ⊢
 refine G.callC (cc_read d H cx (n + 1) lb lv gH hlb (by omega)) ?_
 rintro v H2 ⟨rfl,k2⟩
 have k2n := k2.1
 have hh2 : HisIs H2 lv K l := hh.keep (by omega) (fun hK => (k2.2 K (by omega)).trans (kH K hK hKc))
 have kn : Keeps H2 (H2.new (.cells (cC (n + 1) lb) 0 false)) := ⟨Nat.le_succ _,fun j hj => new_ne _ _ (by omega)⟩
 obtain ⟨H3,ea,en,eg,ef⟩ := app141 (n := n + 1) (k := H2.next) hlb hl (by omega) (hh2.keep kn.1 (fun hK => kn.2 K (by have := hh2.lt; omega))) (new_same _ _)
 have enn : (H2.new (.cells (cC (n + 1) lb) 0 false)).next = H2.next + 1 := rfl
 rw [enn] at ea en eg ef
 have g2 := (k2.2 cx (by omega)).trans gH
 have g2n := (kn.2 cx (by omega)).trans g2
 have g3 := (ef cx (by omega) (Ne.symm hKc)).trans g2n
 simp (disch := omega) only [gH,g2,g2n,g3,e2,e3,ea,cls_append,ap141,bs141G _ _ hlb,hok,hsm,cC_app_tail (n + 1) lb hlb lv _ (show isSc (.eslice (H2.next + 1) 0 0 (l.length + 1)) = true from rfl),TQ.down,resE,oneV, ↓reduceIte,reduceCtorEq,uB,uE,uL,uA,uM,vE]
 subst hX
 refine G.ok ⟨rfl,⟨.eslice (H2.next + 1) 0 0 (l.length + 1),H2.next + 1,l ++ [(n + 1,lb)],by simp (disch := omega) only [TH.down,uA,uB]; omega,(pnt_lt l1).trans c1,by simp (disch := omega) only [TH.down,uA,uB], .inr ⟨by simp,by simp (disch := omega) only [TH.down,uA,uB]; exact eg,by simp (disch := omega) only [TH.down,uA,uB]; omega⟩,pnt_ge (by omega),by simp; omega,fun y hy => ?_,by simp⟩,⟨by simp (disch := omega) only [TH.down,uA,uB]; omega,fun j hj hq => ?_⟩⟩
 ·rcases List.mem_append.1 hy with q | q
  ·exact hl y q
  ·simp at q; subst q; exact hlb
 ·have j1 : j ≠ cx := fun e => hq (e ▸ c1)
  have j2 : j ≠ K := fun e => hq (e ▸ cK)
  simp (disch := omega) only [TH.down,uA,uB]
  rw [ef j (by omega) j2,kn.2 j (by omega),k2.2 j (by omega)]
  exact kH j hj j1
def PickC (h : Heap) (c : Col) (u : AV) (l : List Nat) : Prop :=
 (l = [] /\ (u = .nilslice \/ (∃ q o n,u = .slice q o 0 n) \/ ∃ a,u = .zslice a)) \/ ∃ (K o n : Nat) (cells : List AV) (ext : Nat) (ro : Bool),l ≠ [] /\ u = .slice K o l.length n /\ K < h.next /\ c K = 0 /\ h.get K = some (.cells cells ext ro) /\ cutE o l.length cells = some (B l)
theorem PickC.fr {K : Nat -> Prop} {h h' : Heap} {c c' : Col} {v : AV} {l : List Nat} (x : PickC h c v l) (f : Fr K c h h') (hk : ¬ K 0) (e : ∀ j,j < h.next -> c' j = c j) : PickC h' c' v l := by
 rcases x with x | ⟨L,o,n,C,ext,ro,h0,rfl,h1,h2,h3,h4⟩
 ·exact .inl x
 ·exact .inr ⟨L,o,n,C,ext,ro,h0,rfl,Nat.lt_of_lt_of_le h1 f.le,(e _ h1).trans h2,(f.get L h1 (by rw [h2]; exact hk)).trans h3,h4⟩
theorem PickC.ok {h : Heap} {c : Col} {u : AV} {l : List Nat} (x : PickC h c u l) : okv u = some u /\ isSc u = true /\ AV.same u u = true /\ lenE Try.prog 40 u = some (.int .i64 (l.length : Int)) := by
 rcases x with ⟨rfl,rfl | ⟨q,o,n,rfl⟩ | ⟨a,rfl⟩⟩ | ⟨L,o,n,C,ext,ro,h0,rfl,_⟩
 ·exact ⟨rfl,rfl,rfl,lnn40⟩
 ·exact ⟨rfl,rfl,same_slice ..,lns40 ..⟩
 ·exact ⟨rfl,rfl,same_z a,by kernel_rfl⟩
 ·exact ⟨rfl,rfl,same_slice ..,lns40 ..⟩
theorem PickC.get {h : Heap} {c : Col} {u : AV} {l : List Nat} (x : PickC h c u l) {k b : Nat} (hb : l[k]? = some b) : ∃ K o n cells ext ro,u = .slice K o l.length n /\ K < h.next /\ h.get K = some (.cells cells ext ro) /\ cells[o + k]? = some (b8 b) := by
 rcases x with ⟨rfl,_⟩ | ⟨L,o,n,C,ext,ro,h0,rfl,h1,h2,h3,h4⟩
 ·simp at hb
 ·refine ⟨L,o,n,C,ext,ro,rfl,h1,h3, ?_⟩
  have hq : k < l.length := (List.getElem?_eq_some_iff.1 hb).1
  have hle := cutE_len h4
  rw [cutE_of hle] at h4
  have h5 := Option.some.inj h4
  have : ((C.drop o).take l.length)[k]? = C[o + k]? := by rw [List.getElem?_take_of_lt hq,List.getElem?_drop]
  rw [<- this,h5,B,List.getElem?_map,hb]
  rfl
def RSt (h : Heap) (c : Col) (v : AV) (l : List Stp) : Prop := (l = [] /\ v = .nilslice) \/ ∃ (K : Nat) (vs : List AV),l ≠ [] /\ v = .eslice K 0 0 l.length /\ K < h.next /\ c K = 0 /\ vs.length = l.length /\ h.get K = some (.cells (stpsC (l.zip vs)) 70 false) /\ ∀ (i : Nat) (s : Stp) (u : AV),l[i]? = some s -> vs[i]? = some u -> PickC h c u s.picks
theorem RSt.fr {K : Nat -> Prop} {h h' : Heap} {c c' : Col} {v : AV} {l : List Stp} (x : RSt h c v l) (f : Fr K c h h') (hk : ¬ K 0) (e : ∀ j,j < h.next -> c' j = c j) : RSt h' c' v l := by
 rcases x with x | ⟨L,vs,h0,rfl,h1,h2,h3,h4,h5⟩
 ·exact .inl x
 ·exact .inr ⟨L,vs,h0,rfl,Nat.lt_of_lt_of_le h1 f.le,(e _ h1).trans h2,h3,(f.get L h1 (by rw [h2]; exact hk)).trans h4,fun i s u a b => (h5 i s u a b).fr f hk e⟩
def RLog (h : Heap) (c : Col) (k : Nat) (v : AV) (l : List Ent) : Prop := (l = [] /\ v = .nilslice) \/ ∃ (L : Nat),l ≠ [] /\ v = .eslice L 0 0 l.length /\ L < h.next /\ c L = k /\ h.get L = some (.cells (blogC l) 68 false)
theorem RLog.fr {K : Nat -> Prop} {h h' : Heap} {c c' : Col} {k : Nat} {v : AV} {l : List Ent} (x : RLog h c k v l) (f : Fr K c h h') (hk : ¬ K k) (e : ∀ j,j < h.next -> c' j = c j) : RLog h' c' k v l := by
 rcases x with x | ⟨L,h0,rfl,h1,h2,h3⟩
 ·exact .inl x
 ·exact .inr ⟨L,h0,rfl,Nat.lt_of_lt_of_le h1 f.le,(e _ h1).trans h2,(f.get L h1 (by rw [h2]; exact hk)).trans h3⟩
theorem RCellI.fr {K : Nat -> Prop} {h h' : Heap} {c c' : Col} {k cx N : Nat} {x : Nat × List Nat} (I : RCellI h c k cx N x) (f : Fr K c h h') (hk : ¬ K k) (e : ∀ j,j < h.next -> c' j = c j) : RCellI h' c' k cx N x := by
 obtain ⟨lv,L,l,l1,c1,g1,hh,cK,hl⟩ := I
 exact ⟨lv,L,l,Nat.lt_of_lt_of_le l1 f.le,(e _ l1).trans c1,(f.get cx l1 (by rw [c1]; exact hk)).trans g1,hh.keep f.le (fun hK => f.get L hK (by rw [cK]; exact hk)),(e _ hh.lt).trans cK,hl⟩
def RefB (h : Heap) (c : Col) (kr ρ : Nat) (ps : List Nat) (b : RB) : Prop := ∃ (Ms cx : Nat) (stv lgv : AV),
 ρ < h.next /\ c ρ = kr /\ Ms < h.next /\ c Ms = 0 /\ h.get ρ = some (.cells [.eslice Ms 0 0 b.ms.length, .ptr cx 0,stv, .bool b.off,lgv] 0 false) /\ h.get Ms = some (.cells (ps.map (AV.ptr · 0)) 1 false) /\ ps.length = b.ms.length /\
 (∀ (i p : Nat) (R : RS),ps[i]? = some p -> b.ms[i]? = some R -> RefM h c (kr + 2 + i) p R) /\ RCellI h c (kr + 1) cx (b.log.length + 1) b.cell /\ RSt h c stv b.steps /\ RLog h c kr lgv b.log
structure RB.wf (b : RB) (N : Nat) : Prop where
 ms : ∀ R ∈ b.ms,R.wf N
 msl : b.ms.length <= 64
 N : N < 3000
 cell : b.cell.2.length = 32
 cellm : b.cell.1 <= 4611686018427387904
 stl : b.steps.length < 4000
 st : ∀ s ∈ b.steps,s.data.length = 64
 logl : b.log.length < 3000
 log : ∀ t ∈ b.log,t.x.length = 64
theorem RefB.fr {K : Nat -> Prop} {h h' : Heap} {c c' : Col} {kr ρ : Nat} {ps : List Nat} {b : RB} (I : RefB h c kr ρ ps b) (ml : b.ms.length <= 64) (f : Fr K c h h') (h0 : ¬ K 0) (hk : ∀ n,refK kr n -> ¬ K n) (e : ∀ j,j < h.next -> c' j = c j) : RefB h' c' kr ρ ps b := by
 obtain ⟨Ms,cx,stv,lgv,l1,c1,l2,c2,g1,g2,pl,mm,ce,st,lg⟩ := I
 refine ⟨Ms,cx,stv,lgv,Nat.lt_of_lt_of_le l1 f.le,(e _ l1).trans c1,Nat.lt_of_lt_of_le l2 f.le,(e _ l2).trans c2,(f.get ρ l1 (by rw [c1]; exact hk _ ⟨by omega,by omega⟩)).trans g1,(f.get Ms l2 (by rw [c2]; exact h0)).trans g2,pl,fun i p R hp hR => (mm i p R hp hR).fr f (hk _ ⟨by omega, ?_⟩) h0 e,ce.fr f (hk _ ⟨by omega,by omega⟩) e,st.fr f h0 e,lg.fr f (hk _ ⟨by omega,by omega⟩) e⟩
 have := (List.getElem?_eq_some_iff.1 hR).1
 omega
theorem refK0 {kr : Nat} (h : 10 <= kr) : ¬ refK kr 0 := fun x => by have := x.1; omega
theorem pnt_pnt {c : Col} {n m k : Nat} (h : n <= m) : pnt (pnt c n k) m k = pnt c n k := by
 funext j
 unfold pnt
 split
 ·rfl
 ·rw [if_neg (by omega)]
theorem RefB.setM {h h' : Heap} {c c' : Col} {kr ρ : Nat} {ps : List Nat} {b : RB} {i p : Nat} {R R' : RS} (I : RefB h c kr ρ ps b) (ml : b.ms.length <= 64) (hr : 10 <= kr) (hp : ps[i]? = some p) (hR : b.ms[i]? = some R) (f : Fr (· = kr + 2 + i) c h h') (e : ∀ j,j < h.next -> c' j = c j) (J : RefM h' c' (kr + 2 + i) p R') : RefB h' c' kr ρ ps { b with ms := b.ms.set i R' } := by
 obtain ⟨Ms,cx,stv,lgv,l1,c1,l2,c2,g1,g2,pl,mm,ce,st,lg⟩ := I
 refine ⟨Ms,cx,stv,lgv,Nat.lt_of_lt_of_le l1 f.le,(e _ l1).trans c1,Nat.lt_of_lt_of_le l2 f.le,(e _ l2).trans c2, ?_,(f.get Ms l2 (by omega)).trans g2,by simp [pl],fun k q T hq hT => ?_,ce.fr f (by omega) e,st.fr f (by omega) e,lg.fr f (by omega) e⟩
 ·rw [(f.get ρ l1 (by omega)).trans g1]
  simp
 ·have hT : (b.ms.set i R')[k]? = some T := hT
  rw [List.getElem?_set] at hT
  by_cases ik : i = k
  ·subst ik
   rw [if_pos rfl] at hT
   rw [hp] at hq
   cases hq
   split at hT
   ·cases hT; exact J
   ·cases hT
  ·rw [if_neg ik] at hT
   exact (mm k q T hq hT).fr f (by omega) (by omega) e
theorem lncP {dd : Option Tmp} {t : TypeId} {p : String} {a : Array Edge} {g : Option (Nat × Bool)} (x : Operand) : cls Try.prog ⟨dd, .call ⟨.builtin .len,#[x],#[96]⟩,t,p,a,g⟩ = .p := cls_len1 Try.underlying96 x
theorem lnoP {call : CallK} {ρ : Operand -> AV} {h : Heap} {dd : Option Tmp} {t : TypeId} {p : String} {a : Array Edge} {g : Option (Nat × Bool)} (x : Operand) : opE Try.prog call ρ ⟨dd, .call ⟨.builtin .len,#[x],#[96]⟩,t,p,a,g⟩ h = th (okv (ρ x)) fun v => th (lenE Try.prog 96 v) fun v => some (v,h) := opE_len1 Try.underlying96 x
theorem lneP (k o l c : Nat) : lenE Try.prog 96 (.eslice k o l c) = some (.int .i64 (c : Int)) := len_eslice Try.underlying96 k o l c
theorem bs40 (b : Nat) (h : Heap) : bsE Try.prog 40 1 [(0,b8 b)] h = some (.slice h.next 0 1 1,h.new (.cells [b8 b] 0 false)) := bsE_of (fun K => rfl) h
theorem crashRL_len : ∀ (l : List RS) (p : List Nat),(crashRL l p).length = l.length
 | [],_ => rfl
 | S :: r,p => by simp [crashRL,crashRL_len r]
theorem RS.crash_wf {R : RS} {N : Nat} (w : R.wf N) (p : List Nat) : (R.crash p).wf N := by
 have := kept_len p R.lg
 have := w.sz
 exact ⟨w.n0,fun y hy => (List.mem_append.1 hy).elim (w.dur y) (kept_ok w.lg y),(fun y hy => by cases hy),by simp only [RS.crash,List.length_append,List.length_nil]; omega,w.mkl,w.mks⟩
theorem crashRL_wf {N : Nat} : ∀ (l : List RS) (p : List Nat),(∀ R ∈ l,R.wf N) -> ∀ R ∈ crashRL l p,R.wf N
 | [],_,_,S,hS => by cases hS
 | T :: r,p,h,S,hS => by
  rw [crashRL] at hS
  rcases List.mem_cons.1 hS with rfl | hS
  ·exact RS.crash_wf (h T (by simp)) _
  ·exact crashRL_wf r _ (fun S hS => h S (List.mem_cons_of_mem _ hS)) S hS
theorem rb_crash (d : Nat) (h : Heap) (c : Col) (kr ρ : Nat) (ps : List Nat) (b : RB) (N : Nat) (hr : 10 <= kr) (I : RefB h c kr ρ ps b) (w : b.wf N) (pv : AV) (picks : List Nat) (xp : PickC h c pv picks) (hpl : picks.length <= 140737488351232) :
  G (callD env (d + 5) 129 [.ptr ρ 0,pv] h) fun v h' => v = .tup [] /\ RefB h' (pnt c h.next 0) kr ρ ps { b with ms := crashRL b.ms picks,off := true } /\ Fr (refK kr) c h h' := by
 refine G.gen fun Q hX => ?_
 have I0 := I.fr (c' := pnt c h.next 0) w.msl (.refl (fun _ => False) c h) id (fun _ _ => id) pnt_o
 have ml := w.msl
 obtain ⟨pok,psc,psm,plen⟩ := xp.ok
 rw [callD_run (E := env) [] (by kernel_rfl) Try.func129 rfl (by rw [Try.ntmps129]; simp) (by kernel_rfl)]; simp (disch := first | omega | (simp only [SD.down,uA,uL] <;> omega) | fail) only [Try.ntmps129,Try.results129,env_P,env_L,lncP,lnoP,TQ.down,resE,oneV, ↓reduceIte,reduceCtorEq,uB,uE,uL,uA,uM,uS,vL,vK,vE,vA,vS]
 rw [run_loop]
 refine loop_ind (fun j σ hh => ∃ i k done,i + j = b.ms.length /\ k <= picks.length /\ done.length = i /\ crashRL b.ms picks = done ++ crashRL (b.ms.drop i) (picks.drop k) /\ (∀ R ∈ done,R.wf N) /\ σ 0 = .ptr ρ 0 /\ σ 1 = pv /\ σ 4 = .int .i64 (k : Int) /\ σ 5 = .int .i64 (i : Int) /\ RefB hh (pnt c h.next 0) kr ρ ps { b with ms := done ++ b.ms.drop i } /\ Fr (refK kr) c h hh) ?_ ?_ b.ms.length _ _ _ (by simp; omega) ?_
 ·rintro mm σ hh ⟨i,k,done,hi,hk,hd,hc,wd,s0,s1,s2,s3,J,fr⟩
  obtain ⟨Ms,cx,stv,lgv,l1,c1,l2,c2,g1,g2,pl,mm',ce,st,lg⟩ := J
  have di : decide ((i : Int) < (b.ms.length : Int)) = false := decide_eq_false (by omega)
  have hl : (done ++ b.ms.drop i).length = b.ms.length := by simp; omega
  rw [hl] at g1
  simp (disch := first | omega | (simp only [SD.down,uA,uL] <;> omega) | fail) only [run_it,s0,s1,s2,s3,g1,lncP,lnoP,lneP,di,env_P,env_L,TQ.down,resE,oneV, ↓reduceIte,reduceCtorEq,uB,uE,uL,uA,uM,uS,vL,vK,vE,vA,vS]
  subst hX
  have fr2 : Fr (refK kr) (pnt c h.next 0) hh (hh.put ρ (some (Blk.cells [AV.eslice Ms 0 0 b.ms.length,AV.ptr cx 0,stv,AV.bool true,lgv] 0 false))) := ⟨by simp (disch := omega) only [TH.down,uA,uB]; omega,fun j hj hq => by
   have : j ≠ ρ := fun e => hq (by rw [e,c1]; exact ⟨by omega,by omega⟩)
   simp (disch := omega) only [TH.down,uA,uB]⟩
  have fr1 : Fr (· = kr) (pnt c h.next 0) hh (hh.put ρ (some (Blk.cells [AV.eslice Ms 0 0 b.ms.length,AV.ptr cx 0,stv,AV.bool true,lgv] 0 false))) := ⟨by simp (disch := omega) only [TH.down,uA,uB]; omega,fun j hj hq => by
   have : j ≠ ρ := fun e => hq (by rw [e,c1])
   simp (disch := omega) only [TH.down,uA,uB]⟩
  have em : crashRL b.ms picks = done ++ b.ms.drop i := by
   rw [hc,List.drop_of_length_le (show b.ms.length <= i by omega)]
   rfl
  rw [em]
  refine G.ok ⟨rfl,⟨Ms,cx,stv,lgv,by simp (disch := omega) only [TH.down,uA,uB]; omega,c1,by simp (disch := omega) only [TH.down,uA,uB]; omega,c2,by rw [hl]; simp (disch := omega) only [TH.down,uA,uB],(fr1.get Ms l2 (by omega)).trans g2,pl,fun q p R hp hR => (mm' q p R hp hR).fr fr1 (by omega) (by omega) fun _ _ => rfl,ce.fr fr1 (by omega) fun _ _ => rfl,st.fr fr1 (by omega) fun _ _ => rfl, ?_⟩,fr.trans fr2 pnt_o⟩
  rcases lg with y | ⟨L,y0,rfl,y1,y2,y3⟩
  ·exact .inl y
  ·refine .inr ⟨L,y0,rfl,by simp (disch := omega) only [TH.down,uA,uB]; omega,y2, ?_⟩
   have : L ≠ ρ := by
    rintro rfl
    rw [g1] at y3
    have := congrArg (fun z => match z with | some (Blk.cells _ e _) => e | _ => 0) y3
    simp at this
   simp (disch := omega) only [TH.down,uA,uB]
   exact y3
 ·rintro j mm σ hh ⟨i,k,done,hi,hk,hd,hc,wd,s0,s1,s2,s3,J,fr⟩ ih
  have J0 := J
  obtain ⟨Ms,cx,stv,lgv,l1,c1,l2,c2,g1,g2,pl,mm',ce,st,lg⟩ := J
  have di : decide ((i : Int) < (b.ms.length : Int)) = true := decide_eq_true (by omega)
  have hl : (done ++ b.ms.drop i).length = b.ms.length := by simp; omega
  rw [hl] at g1
  have hil : i < b.ms.length := by omega
  obtain ⟨R,hR⟩ : ∃ R,b.ms[i]? = some R := ⟨_,List.getElem?_eq_getElem hil⟩
  have hR' : (done ++ b.ms.drop i)[i]? = some R := by
   rw [List.getElem?_append_right (by omega),hd,Nat.sub_self,List.getElem?_drop]
   exact hR
  have pl' : ps.length = b.ms.length := pl.trans hl
  obtain ⟨p,hp⟩ : ∃ p,ps[i]? = some p := ⟨_,List.getElem?_eq_getElem (by omega)⟩
  have hpm : (ps.map (AV.ptr · 0))[i]? = some (.ptr p 0) := by rw [List.getElem?_map,hp]; rfl
  have wR := w.ms R (List.mem_of_getElem? hR)
  have JM := mm' i p R hp hR'
  have JM0 := JM
  obtain ⟨dv,lv,mv,m1,cm,gm,x1,x2,x3⟩ := JM
  unfold refG at gm
  have len2 := x2.rw.len
  have ok2 := x2.rw.ok
  simp (disch := first | omega | (simp only [SD.down,uA,uL] <;> omega) | fail) only [run_it,s0,s1,s2,s3,g1,g2,hpm,gm,len2,ok2.1,ok2.2,lncR,lnoR,lncP,lnoP,lneP,di,env_P,env_L,TQ.down,resE,oneV, ↓reduceIte,reduceCtorEq,uB,uE,uL,uA,uM,uS,vL,vK,vE,vA,vS]
  have hlgl : R.lg.length < 3000 := by have := wR.sz; have := w.N; omega
  have hn0 := fr.le
  rw [run_loop]
  refine loop_ind (fun jj τ h2 => ∃ q own,q + jj = R.lg.length /\ k + q <= picks.length /\ τ 0 = .ptr ρ 0 /\ τ 1 = pv /\ τ 4 = .int .i64 ((k + q : Nat) : Int) /\ τ 5 = .int .i64 (i : Int) /\ τ 6 = own /\ τ 7 = .int .i64 (R.lg.length : Int) /\ τ 8 = .int .i64 (q : Int) /\ Keeps hh h2 /\ ((q = 0 /\ own = .nilslice) \/ ∃ K,own = .eslice K 0 0 q /\ hh.next <= K /\ K < h2.next /\ h2.get K = some (.cells (B ((picks.drop k).take q)) 1 false))) ?_ ?_ R.lg.length _ _ _ (by simp; omega) ?_
  ·rintro mm2 τ h2 ⟨q,own,hq,hkq,t0,t1,t4,t5,t6,t7,t8,k2,ho⟩
   have dq : decide ((q : Int) < (R.lg.length : Int)) = false := decide_eq_false (by omega)
   have r1 := (k2.2 ρ l1).trans g1
   have r2 := (k2.2 Ms l2).trans g2
   have rm := (k2.2 p m1).trans gm
   obtain ⟨ook,osm⟩ : okv own = some own /\ AV.same own own = true := by
    rcases ho with ⟨_,rfl⟩ | ⟨K,rfl,_⟩
    ·exact ⟨rfl,rfl⟩
    ·exact ⟨rfl,same_eslice ..⟩
   simp (disch := first | omega | (simp only [SD.down,uA,uL] <;> omega) | fail) only [run_it,t0,t1,t4,t5,t6,t7,t8,r1,r2,rm,hpm,dq,ook,osm,len2,ok2.1,ok2.2,lncR,lnoR,lncP,lnoP,lneP,env_P,env_L,TQ.down,resE,oneV, ↓reduceIte,reduceCtorEq,uB,uE,uL,uA,uM,uS,vL,vK,vE,vA,vS]
   have hM2 : RefM h2 (pnt c h.next 0) (kr + 2 + i) p R := JM0.fr (K := fun _ => False) (.of k2) id id fun _ _ => rfl
   have hql : ((picks.drop k).take q).length = q := by rw [List.length_take,List.length_drop]; omega
   have how : OwnI h2 (pnt c h.next 0) (kr + 2 + i) own ((picks.drop k).take q) := by
    rcases ho with ⟨rfl,rfl⟩ | ⟨K,rfl,y1,y2,y3⟩
    ·exact .inl ⟨by simp,rfl⟩
    ·exact .inr ⟨K,[],by rw [hql],y2,by rw [pnt_ge (by omega)]; omega,by rw [List.append_nil]; exact y3⟩
   have hNN := w.N
   have k2n := k2.1
   refine G.call (r_crash d h2 (pnt c h.next 0) (kr + 2 + i) p N R hM2 wR (by omega) (by omega) own ((picks.drop k).take q) how (by rw [hql]; omega)) ?_
   rintro v h3 ⟨rfl,J3,f3⟩
   rw [pnt_pnt (by omega)] at J3
   have et : (picks.drop k).take q = (picks.drop k).take R.lg.length := by
    by_cases e : q = R.lg.length
    ·rw [e]
    ·rw [List.take_of_length_le (by rw [List.length_drop]; omega),List.take_of_length_le (by rw [List.length_drop]; omega)]
   have ed : (picks.drop k).drop R.lg.length = picks.drop (k + q) := by
    by_cases e : q = R.lg.length
    ·rw [List.drop_drop,e]
    ·rw [List.drop_of_length_le (by rw [List.length_drop]; omega),List.drop_of_length_le (by omega)]
   have edr : b.ms.drop i = R :: b.ms.drop (i + 1) := by
    rw [List.drop_eq_getElem_cons hil]
    congr 1
    exact Option.some.inj ((List.getElem?_eq_getElem hil).symm.trans hR)
   have J2 : RefB h2 (pnt c h.next 0) kr ρ ps { b with ms := done ++ b.ms.drop i } := J0.fr (by rw [hl]; exact ml) (.of (K := fun _ => False) k2) id (fun _ _ => id) fun _ _ => rfl
   have J4 := J2.setM (by rw [hl]; exact ml) hr hp hR' f3 (fun _ _ => rfl) J3
   have eset : (done ++ b.ms.drop i).set i (R.crash ((picks.drop k).take q)) = (done ++ [R.crash ((picks.drop k).take q)]) ++ b.ms.drop (i + 1) := by
    rw [List.set_append_right _ _ (by omega),hd,Nat.sub_self,edr,List.set_cons_zero,List.append_assoc]
    rfl
   simp (disch := first | omega | (simp only [SD.down,uA,uL] <;> omega) | fail) only [t0,t1,t4,t5,t6,t7,t8,env_P,env_L,TQ.down,resE,oneV, ↓reduceIte,reduceCtorEq,uB,uE,uL,uA,uM,uS,vL,vK,vE,vA,vS]
   refine ih _ _ ⟨i + 1,k + q,done ++ [R.crash ((picks.drop k).take q)],by omega,hkq,by simp [hd], ?_,fun T hT => ?_,by simp (disch := omega) only [t0,TH.down,uA,uB],by simp (disch := omega) only [t1,TH.down,uA,uB],by simp (disch := omega) only [t4,TH.down,uA,uB],by simp (disch := omega) only [TH.down,uA,uB], ?_,(fr.keeps k2).trans (f3.mono fun n hn => ⟨by omega,by omega⟩) pnt_o⟩
   ·rw [hc,edr,crashRL,List.append_assoc,et,ed]
    rfl
   ·rcases List.mem_append.1 hT with q | q
    ·exact wd T q
    ·simp at q; subst q; exact RS.crash_wf wR _
   ·have J4 : RefB h3 (pnt c h.next 0) kr ρ ps { b with ms := (done ++ b.ms.drop i).set i (R.crash ((picks.drop k).take q)) } := J4
    rw [eset] at J4
    exact J4
  ·rintro jj mm2 τ h2 ⟨q,own,hq,hkq,t0,t1,t4,t5,t6,t7,t8,k2,ho⟩ ih2
   have dq : decide ((q : Int) < (R.lg.length : Int)) = true := decide_eq_true (by omega)
   have r1 := (k2.2 ρ l1).trans g1
   have r2 := (k2.2 Ms l2).trans g2
   have rm := (k2.2 p m1).trans gm
   by_cases hp2 : picks.length <= k + q
   ·have dp : decide (((k + q : Nat) : Int) < (picks.length : Int)) = false := decide_eq_false (by omega)
    obtain ⟨ook,osm⟩ : okv own = some own /\ AV.same own own = true := by
     rcases ho with ⟨_,rfl⟩ | ⟨K,rfl,_⟩
     ·exact ⟨rfl,rfl⟩
     ·exact ⟨rfl,same_eslice ..⟩
    simp (disch := first | omega | (simp only [SD.down,uA,uL] <;> omega) | fail) only [run_it,t0,t1,t4,t5,t6,t7,t8,r1,r2,rm,hpm,dq,dp,plen,pok,psm,ook,osm,len2,ok2.1,ok2.2,lncR,lnoR,lncP,lnoP,lneP,env_P,env_L,TQ.down,resE,oneV, ↓reduceIte,reduceCtorEq,uB,uE,uL,uA,uM,uS,vL,vK,vE,vA,vS]
    have hM2 : RefM h2 (pnt c h.next 0) (kr + 2 + i) p R := JM0.fr (K := fun _ => False) (.of k2) id id fun _ _ => rfl
    have hql : ((picks.drop k).take q).length = q := by rw [List.length_take,List.length_drop]; omega
    have how : OwnI h2 (pnt c h.next 0) (kr + 2 + i) own ((picks.drop k).take q) := by
     rcases ho with ⟨rfl,rfl⟩ | ⟨K,rfl,y1,y2,y3⟩
     ·exact .inl ⟨by simp,rfl⟩
     ·exact .inr ⟨K,[],by rw [hql],y2,by rw [pnt_ge (by omega)]; omega,by rw [List.append_nil]; exact y3⟩
    have hNN := w.N
    have k2n := k2.1
    refine G.call (r_crash d h2 (pnt c h.next 0) (kr + 2 + i) p N R hM2 wR (by omega) (by omega) own ((picks.drop k).take q) how (by rw [hql]; omega)) ?_
    rintro v h3 ⟨rfl,J3,f3⟩
    rw [pnt_pnt (by omega)] at J3
    have et : (picks.drop k).take q = (picks.drop k).take R.lg.length := by
     by_cases e : q = R.lg.length
     ·rw [e]
     ·rw [List.take_of_length_le (by rw [List.length_drop]; omega),List.take_of_length_le (by rw [List.length_drop]; omega)]
    have ed : (picks.drop k).drop R.lg.length = picks.drop (k + q) := by
     by_cases e : q = R.lg.length
     ·rw [List.drop_drop,e]
     ·rw [List.drop_of_length_le (by rw [List.length_drop]; omega),List.drop_of_length_le (by omega)]
    have edr : b.ms.drop i = R :: b.ms.drop (i + 1) := by
     rw [List.drop_eq_getElem_cons hil]
     congr 1
     exact Option.some.inj ((List.getElem?_eq_getElem hil).symm.trans hR)
    have J2 : RefB h2 (pnt c h.next 0) kr ρ ps { b with ms := done ++ b.ms.drop i } := J0.fr (by rw [hl]; exact ml) (.of (K := fun _ => False) k2) id (fun _ _ => id) fun _ _ => rfl
    have J4 := J2.setM (by rw [hl]; exact ml) hr hp hR' f3 (fun _ _ => rfl) J3
    have eset : (done ++ b.ms.drop i).set i (R.crash ((picks.drop k).take q)) = (done ++ [R.crash ((picks.drop k).take q)]) ++ b.ms.drop (i + 1) := by
     rw [List.set_append_right _ _ (by omega),hd,Nat.sub_self,edr,List.set_cons_zero,List.append_assoc]
     rfl
    simp (disch := first | omega | (simp only [SD.down,uA,uL] <;> omega) | fail) only [t0,t1,t4,t5,t6,t7,t8,env_P,env_L,TQ.down,resE,oneV, ↓reduceIte,reduceCtorEq,uB,uE,uL,uA,uM,uS,vL,vK,vE,vA,vS]
    refine ih _ _ ⟨i + 1,k + q,done ++ [R.crash ((picks.drop k).take q)],by omega,hkq,by simp [hd], ?_,fun T hT => ?_,by simp (disch := omega) only [t0,TH.down,uA,uB],by simp (disch := omega) only [t1,TH.down,uA,uB],by simp (disch := omega) only [t4,TH.down,uA,uB],by simp (disch := omega) only [TH.down,uA,uB], ?_,(fr.keeps k2).trans (f3.mono fun n hn => ⟨by omega,by omega⟩) pnt_o⟩
    ·rw [hc,edr,crashRL,List.append_assoc,et,ed]
     rfl
    ·rcases List.mem_append.1 hT with q | q
     ·exact wd T q
     ·simp at q; subst q; exact RS.crash_wf wR _
    ·have J4 : RefB h3 (pnt c h.next 0) kr ρ ps { b with ms := (done ++ b.ms.drop i).set i (R.crash ((picks.drop k).take q)) } := J4
     rw [eset] at J4
     exact J4
   have dp : decide (((k + q : Nat) : Int) < (picks.length : Int)) = true := decide_eq_true (by omega)
   obtain ⟨x,hx⟩ : ∃ x,picks[k + q]? = some x := ⟨_,List.getElem?_eq_getElem (by omega)⟩
   obtain ⟨Kp,op,np,Cp,extp,rop,rfl,kp1,kp2,kp3⟩ := xp.get hx
   have kpc : pnt c h.next 0 Kp = 0 := by
    rcases xp with ⟨y,_⟩ | ⟨_,_,_,_,_,_,_,y,_,y2,_⟩
    ·rw [y] at hx; simp at hx
    ·cases y
     exact (pnt_lt kp1).trans y2
   have gp := (k2.2 Kp (by omega)).trans ((fr.get Kp kp1 (by rw [<- pnt_lt (c := c) (k := 0) kp1,kpc]; exact refK0 hr)).trans kp2)
   have et : (picks.drop k).take (q + 1) = (picks.drop k).take q ++ [x] := by
    rw [List.take_add_one,List.getElem?_drop,hx]
    rfl
   have hB : B ((picks.drop k).take (q + 1)) = B ((picks.drop k).take q) ++ [b8 x] := by rw [et]; simp [B]
   have hql : (B ((picks.drop k).take q)).length = q := by rw [B_len,List.length_take,List.length_drop]; omega
   have ook : okv own = some own := by
    rcases ho with ⟨_,rfl⟩ | ⟨K,rfl,_⟩ <;> rfl
   have k3 : Keeps h2 (h2.new (.cells [b8 x] 0 false)) := ⟨Nat.le_succ _,fun j hj => new_ne _ _ (by omega)⟩
   have hap : ∃ h4,appE Try.prog 40 own (.slice h2.next 0 1 1) (h2.new (.cells [b8 x] 0 false)) = some (.eslice (h2.next + 1) 0 0 (q + 1),h4) /\ h4.next = h2.next + 2 /\ h4.get (h2.next + 1) = some (.cells (B ((picks.drop k).take (q + 1))) 1 false) /\ Keeps hh h4 := by
    rcases ho with ⟨rfl,rfl⟩ | ⟨K,rfl,y1,y2,y3⟩
    ·refine ⟨_,app_nil el40 (new_same _ _) (cut_all rfl) rfl rfl,by simp [Heap.new], ?_, ?_⟩
     ·rw [hB]; exact new_same _ _
     ·have := k2.1
      exact ⟨by simp [Heap.new]; omega,fun j hj => by rw [new_ne _ _ (by simp [Heap.new]; omega),new_ne _ _ (by omega)]; exact k2.2 j hj⟩
    ·have y3' := (k3.2 K y2).trans y3
     refine ⟨_,app_es el40 y3' (by rw [hql]; omega) (by omega) (new_same _ _) (cut_all rfl) rfl rfl,by simp [Heap.new,Heap.put], ?_, ?_⟩
     ·rw [hB]; exact new_same _ _
     ·have := k2.1
      refine ⟨by simp [Heap.new,Heap.put]; omega,fun j hj => ?_⟩
      rw [new_ne _ _ (by simp [Heap.new,Heap.put]; omega),get_put_ne (by omega),new_ne _ _ (by omega)]
      exact k2.2 j hj
   obtain ⟨h4,ea,n4,g4,k4⟩ := hap
   simp (disch := first | omega | (simp only [SD.down,uA,uL] <;> omega) | fail) only [run_it,t0,t1,t4,t5,t6,t7,t8,r1,r2,rm,hpm,dq,dp,plen,pok,psm,ook,gp,kp3,bs40,cls_append,ap40,ea,len2,ok2.1,ok2.2,lncR,lnoR,lncP,lnoP,lneP,env_P,env_L,TQ.down,resE,oneV, ↓reduceIte,reduceCtorEq,uB,uE,uL,uA,uM,uS,vL,vK,vE,vA,vS]
   have := k2.1
   exact ih2 _ _ ⟨q + 1, .eslice (h2.next + 1) 0 0 (q + 1),by omega,by omega,by simp (disch := omega) only [t0,TH.down,uA,uB],by simp (disch := omega) only [t1,TH.down,uA,uB],by simp (disch := omega) only [TH.down,uA,uB]; try rfl,by simp (disch := omega) only [t5,TH.down,uA,uB],by simp (disch := omega) only [TH.down,uA,uB],by simp (disch := omega) only [t7,TH.down,uA,uB],by simp (disch := omega) only [TH.down,uA,uB],k4, .inr ⟨h2.next + 1,rfl,by omega,by omega,g4⟩⟩
  ·refine ⟨0, .nilslice,by omega,by omega,by simp (disch := omega) only [s0,TQ.down,resE,oneV, ↓reduceIte,reduceCtorEq,uB,uE,uL,uA,uM,vE],by simp (disch := omega) only [s1,TQ.down,resE,oneV, ↓reduceIte,reduceCtorEq,uB,uE,uL,uA,uM,vE],by simp (disch := omega) only [s2,TQ.down,resE,oneV, ↓reduceIte,reduceCtorEq,uB,uE,uL,uA,uM,vE],by simp (disch := omega) only [s3,TQ.down,resE,oneV, ↓reduceIte,reduceCtorEq,uB,uE,uL,uA,uM,vE],by simp (disch := omega) only [TQ.down,resE,oneV, ↓reduceIte,reduceCtorEq,uB,uE,uL,uA,uM,vE],by simp (disch := omega) only [TQ.down,resE,oneV, ↓reduceIte,reduceCtorEq,uB,uE,uL,uA,uM,vE],by simp (disch := omega) only [TQ.down,resE,oneV, ↓reduceIte,reduceCtorEq,uB,uE,uL,uA,uM,vE], .refl _, .inl ⟨rfl,rfl⟩⟩
 ·refine ⟨0,0,[],by omega,by omega,rfl,rfl,by simp,by simp (disch := omega) only [TQ.down,resE,oneV, ↓reduceIte,reduceCtorEq,uB,uE,uL,uA,uM,vE],by simp (disch := omega) only [TQ.down,resE,oneV, ↓reduceIte,reduceCtorEq,uB,uE,uL,uA,uM,vE],by simp (disch := omega) only [TQ.down,resE,oneV, ↓reduceIte,reduceCtorEq,uB,uE,uL,uA,uM,vE],by simp (disch := omega) only [TQ.down,resE,oneV, ↓reduceIte,reduceCtorEq,uB,uE,uL,uA,uM,vE], ?_, .refl _ _ _⟩
  exact I0
theorem RS.wf.mono {R : RS} {N M : Nat} (w : R.wf N) (h : N <= M) : R.wf M := ⟨w.n0,w.dur,w.lg,Nat.le_trans w.sz h,w.mkl,fun l hl => ⟨(w.mks l hl).1,Nat.le_trans (w.mks l hl).2 h⟩⟩
theorem RS.did_wf {R : RS} {N : Nat} (w : R.wf N) (s : Stp) (hs : s.data.length = 64) : (R.did s).wf (N + 1) := by
 have w1 : R.wf (N + 1) := w.mono (by omega)
 have hsz := w.sz
 unfold RS.did
 split
 ·unfold RS.set
  split
  ·have := List.length_filter_le (fun x : Int × List Nat => decide (x.1 ≠ s.i)) R.lg
   refine ⟨w.n0,fun x hx => ?_,fun x hx => w.lg x (List.mem_filter.1 hx).1, ?_,w.mkl,w1.mks⟩
   ·rcases List.mem_append.1 hx with q | q
    ·exact w.dur x q
    ·simp at q; subst q; exact hs
   ·show (R.dur ++ [(s.i,s.data)]).length + (R.lg.filter _).length <= N + 1
    rw [List.length_append]
    simp only [List.length_cons,List.length_nil]
    omega
  ·exact w1
 split
 ·unfold RS.mark
  split
  ·exact w1
  ·refine ⟨w.n0,w.dur,w.lg,w1.sz, ?_,fun l hl => ?_⟩
   ·show (R.marks ++ [_]).length <= 64
    rw [List.length_append]; simp; omega
   ·rcases List.mem_append.1 hl with q | q
    ·exact w1.mks l q
    ·simp at q; subst q
     exact ⟨fun x hx => (List.mem_append.1 hx).elim (w.dur x) (w.lg x),by rw [List.length_append]; omega⟩
 split
 ·unfold RS.back
  split
  ·exact w1
  ·split
   ·rename_i l hl
    have := w1.mks l (List.mem_of_getElem? hl)
    exact ⟨w.n0,this.1,(fun x hx => by cases hx),by show l.length + 0 <= N + 1; omega,w.mkl,w1.mks⟩
   ·exact w1
 split
 ·exact ⟨w.n0,w.dur,w.lg,w1.sz,w.mkl,w1.mks⟩
 split
 ·exact ⟨w.n0,w.dur,w.lg,w1.sz,w.mkl,w1.mks⟩
 ·exact w1
theorem RB.wf.mono {b : RB} {N M : Nat} (w : b.wf N) (h : N <= M) (hM : M < 3000) : b.wf M := ⟨fun R hR => (w.ms R hR).mono h,w.msl,hM,w.cell,w.cellm,w.stl,w.st,w.logl,w.log⟩
theorem RB.step_len (b : RB) (s : Stp) : (b.step s).ms.length = b.ms.length := by
 unfold RB.step
 split
 ·exact crashRL_len _ _
 ·split
  ·rfl
  ·exact List.length_modify ..
theorem RB.step_wf {b : RB} {N : Nat} (w : b.wf N) (s : Stp) (hs : s.data.length = 64) (hN : N + 1 < 3000) : (b.step s).wf (N + 1) := by
 obtain ⟨e1,e2,e3⟩ := b.step_same s
 have e4 := b.step_len s
 refine ⟨?_,by rw [e4]; exact w.msl,hN,by rw [e3]; exact w.cell,by rw [e3]; exact w.cellm,by rw [e1]; exact w.stl,by rw [e1]; exact w.st,by rw [e2]; exact w.logl,by rw [e2]; exact w.log⟩
 unfold RB.step
 split
 ·exact fun R hR => (crashRL_wf _ _ w.ms R hR).mono (by omega)
 ·split
  ·exact fun R hR => (w.ms R hR).mono (by omega)
  ·intro S hS
   obtain ⟨j,hj⟩ := List.mem_iff_getElem?.1 hS
   have hj : (b.ms.modify s.m.toNat fun R => R.did s)[j]? = some S := hj
   rw [List.getElem?_modify] at hj
   cases hq : b.ms[j]? with
   | none => rw [hq] at hj; simp at hj
   | some T =>
    rw [hq] at hj
    have hT := w.ms T (List.mem_of_getElem? hq)
    simp at hj
    split at hj <;> subst hj
    ·exact RS.did_wf hT s hs
    ·exact hT.mono (by omega)
def cntS (now : Nat) (l : List Stp) : Nat := (l.filter fun s => decide (s.tm = (now : Int))).length
theorem aheadRL_app (now : Nat) (s : Stp) : ∀ (l : List Stp) (b : RB),aheadRL now (l ++ [s]) b = if s.tm = now then (aheadRL now l b).step s else aheadRL now l b
 | [],b => rfl
 | t :: r,b => by rw [List.cons_append,aheadRL,aheadRL,aheadRL_app now s r]
theorem cntS_app (now : Nat) (s : Stp) (l : List Stp) : cntS now (l ++ [s]) = cntS now l + if s.tm = now then 1 else 0 := by
 unfold cntS
 rw [List.filter_append,List.length_append]
 by_cases e : s.tm = now <;> simp [e]
theorem cntS_take (now q : Nat) (l : List Stp) : cntS now (l.take q) <= cntS now l := by
 conv => rhs; rw [<- List.take_append_drop q l]
 unfold cntS
 rw [List.filter_append,List.length_append]
 omega
theorem aheadRL_same (now : Nat) : ∀ (l : List Stp) (r : RB),(aheadRL now l r).cell = r.cell /\ (aheadRL now l r).steps = r.steps /\ (aheadRL now l r).log = r.log /\ (aheadRL now l r).ms.length = r.ms.length
 | [],r => ⟨rfl,rfl,rfl,rfl⟩
 | s :: l,r => by
  rw [aheadRL]
  obtain ⟨h1,h2,h3,h4⟩ := aheadRL_same now l (if s.tm = now then r.step s else r)
  rw [h1,h2,h3,h4]
  split
  ·obtain ⟨g1,g2,g3⟩ := r.step_same s
   exact ⟨g3,g1,g2,r.step_len s⟩
  ·exact ⟨rfl,rfl,rfl,rfl⟩
theorem modify_setG {α : Type} {l : List α} {n : Nat} {x : α} {f : α -> α} (h : l[n]? = some x) : l.modify n f = l.set n (f x) := by
 refine List.ext_getElem? fun i => ?_
 rw [List.getElem?_modify,List.getElem?_set]
 by_cases e : n = i
 ·subst e
  have := (List.getElem?_eq_some_iff.1 h).1
  rw [if_pos rfl,if_pos this,h]
  simp
 ·rw [if_neg e]
  simp [e]
theorem lnc13s {dd : Option Tmp} {t : TypeId} {p : String} {a : Array Edge} {g : Option (Nat × Bool)} (x : Operand) : cls Try.prog ⟨dd, .call ⟨.builtin .len,#[x],#[98]⟩,t,p,a,g⟩ = .p := cls_len1 Try.underlying98 x
theorem lno13s {call : CallK} {ρ : Operand -> AV} {h : Heap} {dd : Option Tmp} {t : TypeId} {p : String} {a : Array Edge} {g : Option (Nat × Bool)} (x : Operand) : opE Try.prog call ρ ⟨dd, .call ⟨.builtin .len,#[x],#[98]⟩,t,p,a,g⟩ h = th (okv (ρ x)) fun v => th (lenE Try.prog 98 v) fun v => some (v,h) := opE_len1 Try.underlying98 x
theorem RSt.ok {h : Heap} {c : Col} {v : AV} {l : List Stp} (x : RSt h c v l) : okv v = some v /\ AV.same v v = true /\ lenE Try.prog 98 v = some (.int .i64 (l.length : Int)) := by
 rcases x with ⟨rfl,rfl⟩ | ⟨K,vs,_,rfl,_⟩
 ·exact ⟨rfl,rfl,len_nilslice Try.underlying98⟩
 ·exact ⟨rfl,same_eslice ..,len_eslice Try.underlying98 ..⟩
theorem lnc13e {dd : Option Tmp} {t : TypeId} {p : String} {a : Array Edge} {g : Option (Nat × Bool)} (x : Operand) : cls Try.prog ⟨dd, .call ⟨.builtin .len,#[x],#[99]⟩,t,p,a,g⟩ = .p := cls_len1 Try.underlying99 x
theorem lno13e {call : CallK} {ρ : Operand -> AV} {h : Heap} {dd : Option Tmp} {t : TypeId} {p : String} {a : Array Edge} {g : Option (Nat × Bool)} (x : Operand) : opE Try.prog call ρ ⟨dd, .call ⟨.builtin .len,#[x],#[99]⟩,t,p,a,g⟩ h = th (okv (ρ x)) fun v => th (lenE Try.prog 99 v) fun v => some (v,h) := opE_len1 Try.underlying99 x
theorem RLog.ok {h : Heap} {c : Col} {k : Nat} {v : AV} {l : List Ent} (x : RLog h c k v l) : okv v = some v /\ AV.same v v = true /\ lenE Try.prog 99 v = some (.int .i64 (l.length : Int)) := by
 rcases x with ⟨rfl,rfl⟩ | ⟨L,_,rfl,_⟩
 ·exact ⟨rfl,rfl,len_nilslice Try.underlying99⟩
 ·exact ⟨rfl,same_eslice ..,len_eslice Try.underlying99 ..⟩
theorem rb_ahead (d : Nat) (h : Heap) (c : Col) (kr ρ : Nat) (ps : List Nat) (b : RB) (N : Nat) (hr : 10 <= kr) (I : RefB h c kr ρ ps b) (w : b.wf N) (hN : N + cntS b.log.length b.steps < 2990) (hpk : ∀ s ∈ b.steps,s.picks.length <= 140737488351232) :
  G (callD env (d + 6) 102 [.ptr ρ 0] h) fun v h' => v = .tup [] /\ RefB h' (pnt c h.next 0) kr ρ ps b.ahead /\ b.ahead.wf (N + cntS b.log.length b.steps) /\ Fr (refK kr) c h h' := by
 refine G.gen fun Q hX => ?_
 have I0 := I.fr (c' := pnt c h.next 0) w.msl (.refl (fun _ => False) c h) id (fun _ _ => id) pnt_o
 have ml := w.msl
 obtain ⟨Ms,cx,stv,lgv,l1,c1,l2,c2,g1,g2,pl,mm',ce,st,lg⟩ := I
 obtain ⟨lok,lsm,llen⟩ := lg.ok
 obtain ⟨sok,ssm,slen⟩ := st.ok
 rw [callD_run (E := env) [] (by kernel_rfl) Try.func102 rfl (by rw [Try.ntmps102]; simp) (by kernel_rfl)]; simp (disch := first | omega | (simp only [SD.down,uA,uL] <;> omega) | fail) only [Try.ntmps102,Try.results102,env_P,env_L,g1,lok,lsm,llen,lnc13s,lno13s,lnc13e,lno13e,TQ.down,resE,oneV, ↓reduceIte,reduceCtorEq,uB,uE,uL,uA,uM,uS,vL,vK,vE,vA,vS]
 rw [run_loop]
 refine loop_ind (fun j σ hh => ∃ q,q + j = b.steps.length /\ σ 0 = .ptr ρ 0 /\ σ 2 = .int .i64 (b.log.length : Int) /\ σ 3 = .int .i64 (q : Int) /\ RefB hh (pnt c h.next 0) kr ρ ps (aheadRL b.log.length (b.steps.take q) b) /\ (aheadRL b.log.length (b.steps.take q) b).wf (N + cntS b.log.length (b.steps.take q)) /\ Fr (refK kr) c h hh) ?_ ?_ b.steps.length _ _ _ (by have := w.stl; simp; omega) ?_
 ·rintro mm σ hh ⟨q,hq,s0,s1,s2,J,w2,fr⟩
  obtain rfl : q = b.steps.length := by omega
  rw [List.take_of_length_le (Nat.le_refl _)] at J w2
  obtain ⟨a1,a2,a3,a4⟩ := aheadRL_same b.log.length b.steps b
  obtain ⟨Ms2,cx2,stv2,lgv2,l12,c12,l22,c22,g12,g22,pl2,mm2,ce2,st2,lg2⟩ := id J
  rw [a2] at st2
  obtain ⟨sok2,ssm2,slen2⟩ := st2.ok
  simp (disch := first | omega | (simp only [SD.down,uA,uL] <;> omega) | fail) only [run_it,s0,s1,s2,g12,sok2,ssm2,slen2,lnc13s,lno13s,env_P,env_L,TQ.down,resE,oneV, ↓reduceIte,reduceCtorEq,uB,uE,uL,uA,uM,uS,vL,vK,vE,vA,vS]
  subst hX
  exact G.ok ⟨rfl,J,w2,fr⟩
 ·rintro j mm σ hh ⟨q,hq,s0,s1,s2,J,w2,fr⟩ ih
  have hst4 := w.stl
  have hql : q < b.steps.length := by omega
  have dq : decide ((q : Int) < (b.steps.length : Int)) = true := decide_eq_true (by omega)
  obtain ⟨s,hs⟩ : ∃ s,b.steps[q]? = some s := ⟨_,List.getElem?_eq_getElem hql⟩
  have hsm := List.mem_of_getElem? hs
  have hsl := w.st s hsm
  have et : b.steps.take (q + 1) = b.steps.take q ++ [s] := by rw [List.take_add_one,hs]; rfl
  have ea := aheadRL_app b.log.length s (b.steps.take q) b
  have ec := cntS_app b.log.length s (b.steps.take q)
  have ect := cntS_take b.log.length (q + 1) b.steps
  rw [<- et] at ea ec
  obtain ⟨a1,a2,a3,a4⟩ := aheadRL_same b.log.length (b.steps.take q) b
  generalize hbb : aheadRL b.log.length (b.steps.take q) b = bb at J w2 ea a1 a2 a3 a4
  have J0 := J
  obtain ⟨Ms2,cx2,stv2,lgv2,l12,c12,l22,c22,g12,g22,pl2,mm2,ce2,st2,lg2⟩ := J
  have st20 := st2
  rw [a2] at st2
  obtain ⟨sok2,ssm2,slen2⟩ := st2.ok
  rcases st2 with ⟨z0,_⟩ | ⟨K,vs,z0,rfl,z1,z2,z3,z4,z5⟩
  ·rw [z0] at hql; simp at hql
  obtain ⟨u,hu⟩ : ∃ u,vs[q]? = some u := ⟨_,List.getElem?_eq_getElem (by omega)⟩
  have hzip : (b.steps.zip vs)[q]? = some (s,u) := by rw [List.getElem?_zip_eq_some]; exact ⟨hs,hu⟩
  have hzl : ∀ x ∈ b.steps.zip vs,(x.1.C x.2).length = 70 := fun x hx => x.1.C_len x.2 (w.st _ (List.of_mem_zip hx).1)
  have hcut : cutE (q * 70) 70 (stpsC (b.steps.zip vs)) = some (s.C u) := flat_cut (fun x : Stp × AV => x.1.C x.2) 70 (b.steps.zip vs) q (s,u) hzl hzip
  have hpu := z5 q s u hs hu
  obtain ⟨uok,usc,usm,ulen⟩ := hpu.ok
  have scut := stp_cut s u hsl
  have spl := stpZ_len
  have scl := s.C_len u hsl
  have sov := stp_ov s u hsl usc
  have b1 : (s.C u)[1]? = some (.int .i64 s.kind) := rfl
  have b2 : (s.C u)[2]? = some (.int .i64 s.m) := rfl
  have b3 : (s.C u)[3]? = some (.int .i64 s.i) := rfl
  have b4 : (s.C u)[4]? = some (.int .i64 s.n) := rfl
  have b5 : cutE 5 64 (s.C u) = some (B s.data) := stp_data hsl
  have b69 : (s.C u)[69]? = some u := by
   show (B s.data ++ [u])[64]? = _
   rw [List.getElem?_append_right (by simp [B_len,hsl])]
   simp [B_len,hsl]
  have kp : Keeps hh ((hh.new (Blk.cells stpZ 0 false)).put hh.next (some (Blk.cells (s.C u) 0 false))) := ⟨by simp (disch := omega) only [TH.down,uA,uB]; omega,fun j hj => by simp (disch := omega) only [TH.down,uA,uB]⟩
  have gl : ((hh.new (Blk.cells stpZ 0 false)).put hh.next (some (Blk.cells (s.C u) 0 false))).get hh.next = some (.cells (s.C u) 0 false) := by simp (disch := omega) only [TH.down,uA,uB]
  have gn : ((hh.new (Blk.cells stpZ 0 false)).put hh.next (some (Blk.cells (s.C u) 0 false))).next = hh.next + 1 := by simp (disch := omega) only [TH.down,uA,uB]
  have gρ := (kp.2 ρ l12).trans g12
  have gM := (kp.2 Ms2 l22).trans g22
  have ml2 : bb.ms.length <= 64 := by rw [a4]; exact ml
  have hn0 := fr.le
  have J1 := J0.fr ml2 (.of (K := fun _ => False) kp) id (fun _ _ => id) (fun _ _ => rfl)
  have f1 := fr.keeps kp
  by_cases h0 : s.tm = (b.log.length : Int)
  rotate_left
  ·have d0 : decide (s.tm = (b.log.length : Int)) = false := decide_eq_false h0
   rw [if_neg h0] at ea ec
   simp (disch := first | omega | (simp only [SD.down,uA,uL] <;> omega) | fail) only [run_it,s0,s1,s2,g12,g22,dq,z4,hcut,sok2,ssm2,slen2,lnc13s,lno13s,lncP,lnoP,lneP,zz_fold,stpZ_fold,spl,stp_0,b1,b2,b3,b4,b69,b5,scut,scl,sov,uok,usm,d0,env_P,env_L,TQ.down,resE,oneV, ↓reduceIte,reduceCtorEq,uB,uE,uL,uA,uM,uS,vL,vK,vE,vA,vS]
   exact ih _ _ ⟨q + 1,by omega,by simp (disch := omega) only [s0,TH.down,uA,uB],by simp (disch := omega) only [s1,TH.down,uA,uB],by simp (disch := omega) only [TH.down,uA,uB],by rw [ea]; exact J1,by rw [ea,ec]; exact w2,f1⟩
  have d0 : decide (s.tm = (b.log.length : Int)) = true := decide_eq_true h0
  rw [if_pos h0] at ea ec
  have wst := RB.step_wf w2 s hsl (by omega)
  by_cases h6 : s.kind = 6
  ·have d6 : decide (s.kind = 6) = true := decide_eq_true h6
   have est : bb.step s = { bb with ms := crashRL bb.ms s.picks,off := true } := if_pos h6
   rw [est] at ea wst
   simp (disch := first | omega | (simp only [SD.down,uA,uL] <;> omega) | fail) only [run_it,s0,s1,s2,g12,g22,dq,z4,hcut,sok2,ssm2,slen2,lnc13s,lno13s,lncP,lnoP,lneP,zz_fold,stpZ_fold,spl,stp_0,b1,b2,b3,b4,b69,b5,scut,scl,sov,uok,usm,d0,d6,env_P,env_L,TQ.down,resE,oneV, ↓reduceIte,reduceCtorEq,uB,uE,uL,uA,uM,uS,vL,vK,vE,vA,vS]
   refine G.call (rb_crash d _ (pnt c h.next 0) kr ρ ps bb (N + cntS b.log.length (b.steps.take q)) hr J1 w2 u s.picks (hpu.fr (K := fun _ => False) (.of kp) id fun _ _ => rfl) (hpk s hsm)) ?_
   rintro v H2 ⟨rfl,J2,f2⟩
   rw [pnt_pnt (by rw [gn]; omega)] at J2
   simp (disch := first | omega | (simp only [SD.down,uA,uL] <;> omega) | fail) only [s0,s1,s2,env_P,env_L,TQ.down,resE,oneV, ↓reduceIte,reduceCtorEq,uB,uE,uL,uA,uM,uS,vL,vK,vE,vA,vS]
   exact ih _ _ ⟨q + 1,by omega,by simp (disch := omega) only [s0,TH.down,uA,uB],by simp (disch := omega) only [s1,TH.down,uA,uB],by simp (disch := omega) only [TH.down,uA,uB],by rw [ea]; exact J2,by rw [ea,ec]; exact wst,f1.trans f2 pnt_o⟩
  have d6 : decide (s.kind = 6) = false := decide_eq_false h6
  by_cases hm0 : s.m < 0
  ·have dm : decide (s.m < 0) = true := decide_eq_true hm0
   have est : bb.step s = bb := by unfold RB.step; rw [if_neg h6,if_pos (.inl hm0)]
   rw [est] at ea wst
   simp (disch := first | omega | (simp only [SD.down,uA,uL] <;> omega) | fail) only [run_it,s0,s1,s2,g12,g22,dq,z4,hcut,sok2,ssm2,slen2,lnc13s,lno13s,lncP,lnoP,lneP,zz_fold,stpZ_fold,spl,stp_0,b1,b2,b3,b4,b69,b5,scut,scl,sov,uok,usm,d0,d6,dm,env_P,env_L,TQ.down,resE,oneV, ↓reduceIte,reduceCtorEq,uB,uE,uL,uA,uM,uS,vL,vK,vE,vA,vS]
   exact ih _ _ ⟨q + 1,by omega,by simp (disch := omega) only [s0,TH.down,uA,uB],by simp (disch := omega) only [s1,TH.down,uA,uB],by simp (disch := omega) only [TH.down,uA,uB],by rw [ea]; exact J1,by rw [ea,ec]; exact wst,f1⟩
  have dm : decide (s.m < 0) = false := decide_eq_false hm0
  obtain ⟨n,hn⟩ : ∃ n : Nat,s.m = (n : Int) := ⟨s.m.toNat,by omega⟩
  rw [hn] at b2 dm
  by_cases hm1 : bb.ms.length <= n
  ·have dm1 : decide ((bb.ms.length : Int) <= (n : Int)) = true := decide_eq_true (by omega)
   have est : bb.step s = bb := by unfold RB.step; rw [if_neg h6,if_pos (.inr (by omega))]
   rw [est] at ea wst
   simp (disch := first | omega | (simp only [SD.down,uA,uL] <;> omega) | fail) only [run_it,s0,s1,s2,g12,g22,dq,z4,hcut,sok2,ssm2,slen2,lnc13s,lno13s,lncP,lnoP,lneP,zz_fold,stpZ_fold,spl,stp_0,b1,b2,b3,b4,b69,b5,scut,scl,sov,uok,usm,gl,gρ,d0,d6,dm,dm1,env_P,env_L,TQ.down,resE,oneV, ↓reduceIte,reduceCtorEq,uB,uE,uL,uA,uM,uS,vL,vK,vE,vA,vS]
   exact ih _ _ ⟨q + 1,by omega,by simp (disch := omega) only [s0,TH.down,uA,uB],by simp (disch := omega) only [s1,TH.down,uA,uB],by simp (disch := omega) only [TH.down,uA,uB],by rw [ea]; exact J1,by rw [ea,ec]; exact wst,f1⟩
  have dm1 : decide ((bb.ms.length : Int) <= (n : Int)) = false := decide_eq_false (by omega)
  have hnl : n < bb.ms.length := by omega
  obtain ⟨R,hR⟩ : ∃ R,bb.ms[n]? = some R := ⟨_,List.getElem?_eq_getElem hnl⟩
  obtain ⟨p,hp⟩ : ∃ p,ps[n]? = some p := ⟨_,List.getElem?_eq_getElem (by omega)⟩
  have hpm : (ps.map (AV.ptr · 0))[n]? = some (.ptr p 0) := by rw [List.getElem?_map,hp]; rfl
  have wR := w2.ms R (List.mem_of_getElem? hR)
  have JM := (mm2 n p R hp hR).fr (.of (K := fun _ => False) kp) id id (fun _ _ => rfl)
  have est : bb.step s = { bb with ms := bb.ms.set n (R.did s) } := by
   unfold RB.step
   rw [if_neg h6,if_neg (by omega),hn,Int.toNat_natCast,modify_setG hR]
  rw [est] at ea wst
  by_cases hk1 : s.kind = 1
  ·have ed : R.did s = R.set s.i s.data := by
    unfold RS.did
    exact if_pos hk1
   rw [ed] at ea wst
   have k1 : decide (s.kind = 1) = true := decide_eq_true (by omega)
   simp (disch := first | omega | (simp only [SD.down,uA,uL] <;> omega) | fail) only [run_it,s0,s1,s2,g12,g22,dq,z4,hcut,sok2,ssm2,slen2,lnc13s,lno13s,lncP,lnoP,lneP,zz_fold,stpZ_fold,spl,stp_0,b1,b2,b3,b4,b69,b5,scut,scl,sov,uok,usm,gl,gρ,gM,hpm,hnl,d0,d6,dm,dm1,k1,env_P,env_L,TQ.down,resE,oneV, ↓reduceIte,reduceCtorEq,uB,uE,uL,uA,uM,uS,vL,vK,vE,vA,vS]
   refine G.call (r_set (d + 1) _ (pnt c h.next 0) (kr + 2 + n) p (N + cntS b.log.length (b.steps.take q)) R JM wR (by omega) (by omega) s.i s.data hsl) ?_
   rintro v H2 ⟨⟨e,rfl⟩,J2,f2⟩
   rw [pnt_pnt (by rw [gn]; omega)] at J2
   have J3 := J1.setM ml2 hr hp hR f2 (fun _ _ => rfl) J2
   simp (disch := first | omega | (simp only [SD.down,uA,uL] <;> omega) | fail) only [s0,s1,s2,env_P,env_L,TQ.down,resE,oneV, ↓reduceIte,reduceCtorEq,uB,uE,uL,uA,uM,uS,vL,vK,vE,vA,vS]
   exact ih _ _ ⟨q + 1,by omega,by simp (disch := omega) only [s0,TH.down,uA,uB],by simp (disch := omega) only [s1,TH.down,uA,uB],by simp (disch := omega) only [TH.down,uA,uB],by rw [ea]; exact J3,by rw [ea,ec]; exact wst,f1.trans (f2.mono fun n hn => ⟨by omega,by omega⟩) pnt_o⟩
  by_cases hk2 : s.kind = 2
  ·have ed : R.did s = R.mark := by
    unfold RS.did
    rw [if_neg (show ¬ s.kind = 1 by omega)]; exact if_pos hk2
   rw [ed] at ea wst
   have k1 : decide (s.kind = 1) = false := decide_eq_false (by omega)
   have k2 : decide (s.kind = 2) = true := decide_eq_true (by omega)
   simp (disch := first | omega | (simp only [SD.down,uA,uL] <;> omega) | fail) only [run_it,s0,s1,s2,g12,g22,dq,z4,hcut,sok2,ssm2,slen2,lnc13s,lno13s,lncP,lnoP,lneP,zz_fold,stpZ_fold,spl,stp_0,b1,b2,b3,b4,b69,b5,scut,scl,sov,uok,usm,gl,gρ,gM,hpm,hnl,d0,d6,dm,dm1,k1,k2,env_P,env_L,TQ.down,resE,oneV, ↓reduceIte,reduceCtorEq,uB,uE,uL,uA,uM,uS,vL,vK,vE,vA,vS]
   refine G.call (r_mark (d + 1) _ (pnt c h.next 0) (kr + 2 + n) p (N + cntS b.log.length (b.steps.take q)) R JM wR (by omega) (by omega)) ?_
   rintro v H2 ⟨⟨e,f,rfl⟩,J2,f2⟩
   rw [pnt_pnt (by rw [gn]; omega)] at J2
   have J3 := J1.setM ml2 hr hp hR f2 (fun _ _ => rfl) J2
   simp (disch := first | omega | (simp only [SD.down,uA,uL] <;> omega) | fail) only [s0,s1,s2,env_P,env_L,TQ.down,resE,oneV, ↓reduceIte,reduceCtorEq,uB,uE,uL,uA,uM,uS,vL,vK,vE,vA,vS]
   exact ih _ _ ⟨q + 1,by omega,by simp (disch := omega) only [s0,TH.down,uA,uB],by simp (disch := omega) only [s1,TH.down,uA,uB],by simp (disch := omega) only [TH.down,uA,uB],by rw [ea]; exact J3,by rw [ea,ec]; exact wst,f1.trans (f2.mono fun n hn => ⟨by omega,by omega⟩) pnt_o⟩
  by_cases hk3 : s.kind = 3
  ·have ed : R.did s = R.back s.n := by
    unfold RS.did
    rw [if_neg (show ¬ s.kind = 1 by omega)]; rw [if_neg (show ¬ s.kind = 2 by omega)]; exact if_pos hk3
   rw [ed] at ea wst
   have k1 : decide (s.kind = 1) = false := decide_eq_false (by omega)
   have k2 : decide (s.kind = 2) = false := decide_eq_false (by omega)
   have k3 : decide (s.kind = 3) = true := decide_eq_true (by omega)
   simp (disch := first | omega | (simp only [SD.down,uA,uL] <;> omega) | fail) only [run_it,s0,s1,s2,g12,g22,dq,z4,hcut,sok2,ssm2,slen2,lnc13s,lno13s,lncP,lnoP,lneP,zz_fold,stpZ_fold,spl,stp_0,b1,b2,b3,b4,b69,b5,scut,scl,sov,uok,usm,gl,gρ,gM,hpm,hnl,d0,d6,dm,dm1,k1,k2,k3,env_P,env_L,TQ.down,resE,oneV, ↓reduceIte,reduceCtorEq,uB,uE,uL,uA,uM,uS,vL,vK,vE,vA,vS]
   refine G.call (r_back (d + 2) _ (pnt c h.next 0) (kr + 2 + n) p (N + cntS b.log.length (b.steps.take q)) R JM wR (by omega) s.n) ?_
   rintro v H2 ⟨⟨e,rfl⟩,J2,f2⟩
   rw [pnt_pnt (by rw [gn]; omega)] at J2
   have J3 := J1.setM ml2 hr hp hR f2 (fun _ _ => rfl) J2
   simp (disch := first | omega | (simp only [SD.down,uA,uL] <;> omega) | fail) only [s0,s1,s2,env_P,env_L,TQ.down,resE,oneV, ↓reduceIte,reduceCtorEq,uB,uE,uL,uA,uM,uS,vL,vK,vE,vA,vS]
   exact ih _ _ ⟨q + 1,by omega,by simp (disch := omega) only [s0,TH.down,uA,uB],by simp (disch := omega) only [s1,TH.down,uA,uB],by simp (disch := omega) only [TH.down,uA,uB],by rw [ea]; exact J3,by rw [ea,ec]; exact wst,f1.trans (f2.mono fun n hn => ⟨by omega,by omega⟩) pnt_o⟩
  by_cases hk4 : s.kind = 4
  ·have ed : R.did s = R.fail true := by
    unfold RS.did
    rw [if_neg (show ¬ s.kind = 1 by omega)]; rw [if_neg (show ¬ s.kind = 2 by omega)]; rw [if_neg (show ¬ s.kind = 3 by omega)]; exact if_pos hk4
   rw [ed] at ea wst
   have k1 : decide (s.kind = 1) = false := decide_eq_false (by omega)
   have k2 : decide (s.kind = 2) = false := decide_eq_false (by omega)
   have k3 : decide (s.kind = 3) = false := decide_eq_false (by omega)
   have k4 : decide (s.kind = 4) = true := decide_eq_true (by omega)
   simp (disch := first | omega | (simp only [SD.down,uA,uL] <;> omega) | fail) only [run_it,s0,s1,s2,g12,g22,dq,z4,hcut,sok2,ssm2,slen2,lnc13s,lno13s,lncP,lnoP,lneP,zz_fold,stpZ_fold,spl,stp_0,b1,b2,b3,b4,b69,b5,scut,scl,sov,uok,usm,gl,gρ,gM,hpm,hnl,d0,d6,dm,dm1,k1,k2,k3,k4,env_P,env_L,TQ.down,resE,oneV, ↓reduceIte,reduceCtorEq,uB,uE,uL,uA,uM,uS,vL,vK,vE,vA,vS]
   refine G.call (r_fail (d + 2) _ (pnt c h.next 0) (kr + 2 + n) p R JM (by omega) true) ?_
   rintro v H2 ⟨rfl,J2,f2⟩
   rw [pnt_pnt (by rw [gn]; omega)] at J2
   have J3 := J1.setM ml2 hr hp hR f2 (fun _ _ => rfl) J2
   simp (disch := first | omega | (simp only [SD.down,uA,uL] <;> omega) | fail) only [s0,s1,s2,env_P,env_L,TQ.down,resE,oneV, ↓reduceIte,reduceCtorEq,uB,uE,uL,uA,uM,uS,vL,vK,vE,vA,vS]
   exact ih _ _ ⟨q + 1,by omega,by simp (disch := omega) only [s0,TH.down,uA,uB],by simp (disch := omega) only [s1,TH.down,uA,uB],by simp (disch := omega) only [TH.down,uA,uB],by rw [ea]; exact J3,by rw [ea,ec]; exact wst,f1.trans (f2.mono fun n hn => ⟨by omega,by omega⟩) pnt_o⟩
  by_cases hk5 : s.kind = 5
  ·have ed : R.did s = R.fail false := by
    unfold RS.did
    rw [if_neg (show ¬ s.kind = 1 by omega)]; rw [if_neg (show ¬ s.kind = 2 by omega)]; rw [if_neg (show ¬ s.kind = 3 by omega)]; rw [if_neg (show ¬ s.kind = 4 by omega)]; exact if_pos hk5
   rw [ed] at ea wst
   have k1 : decide (s.kind = 1) = false := decide_eq_false (by omega)
   have k2 : decide (s.kind = 2) = false := decide_eq_false (by omega)
   have k3 : decide (s.kind = 3) = false := decide_eq_false (by omega)
   have k4 : decide (s.kind = 4) = false := decide_eq_false (by omega)
   have k5 : decide (s.kind = 5) = true := decide_eq_true (by omega)
   simp (disch := first | omega | (simp only [SD.down,uA,uL] <;> omega) | fail) only [run_it,s0,s1,s2,g12,g22,dq,z4,hcut,sok2,ssm2,slen2,lnc13s,lno13s,lncP,lnoP,lneP,zz_fold,stpZ_fold,spl,stp_0,b1,b2,b3,b4,b69,b5,scut,scl,sov,uok,usm,gl,gρ,gM,hpm,hnl,d0,d6,dm,dm1,k1,k2,k3,k4,k5,env_P,env_L,TQ.down,resE,oneV, ↓reduceIte,reduceCtorEq,uB,uE,uL,uA,uM,uS,vL,vK,vE,vA,vS]
   refine G.call (r_fail (d + 2) _ (pnt c h.next 0) (kr + 2 + n) p R JM (by omega) false) ?_
   rintro v H2 ⟨rfl,J2,f2⟩
   rw [pnt_pnt (by rw [gn]; omega)] at J2
   have J3 := J1.setM ml2 hr hp hR f2 (fun _ _ => rfl) J2
   simp (disch := first | omega | (simp only [SD.down,uA,uL] <;> omega) | fail) only [s0,s1,s2,env_P,env_L,TQ.down,resE,oneV, ↓reduceIte,reduceCtorEq,uB,uE,uL,uA,uM,uS,vL,vK,vE,vA,vS]
   exact ih _ _ ⟨q + 1,by omega,by simp (disch := omega) only [s0,TH.down,uA,uB],by simp (disch := omega) only [s1,TH.down,uA,uB],by simp (disch := omega) only [TH.down,uA,uB],by rw [ea]; exact J3,by rw [ea,ec]; exact wst,f1.trans (f2.mono fun n hn => ⟨by omega,by omega⟩) pnt_o⟩
  have k1 : decide (s.kind = 1) = false := decide_eq_false hk1
  have k2 : decide (s.kind = 2) = false := decide_eq_false hk2
  have k3 : decide (s.kind = 3) = false := decide_eq_false hk3
  have k4 : decide (s.kind = 4) = false := decide_eq_false hk4
  have k5 : decide (s.kind = 5) = false := decide_eq_false hk5
  have ed : R.did s = R := by
   unfold RS.did
   rw [if_neg hk1,if_neg hk2,if_neg hk3,if_neg hk4,if_neg hk5]
  have es2 : ({ bb with ms := bb.ms.set n (R.did s) } : RB) = bb := by
   rw [ed]
   have : bb.ms.set n R = bb.ms := List.ext_getElem? fun i => by
    rw [List.getElem?_set]
    by_cases e : n = i
    ·subst e
     rw [if_pos rfl,if_pos hnl,hR]
    ·rw [if_neg e]
   rw [this]
  rw [es2] at ea wst
  simp (disch := first | omega | (simp only [SD.down,uA,uL] <;> omega) | fail) only [run_it,s0,s1,s2,g12,g22,dq,z4,hcut,sok2,ssm2,slen2,lnc13s,lno13s,lncP,lnoP,lneP,zz_fold,stpZ_fold,spl,stp_0,b1,b2,b3,b4,b69,b5,scut,scl,sov,uok,usm,gl,gρ,gM,hpm,hnl,d0,d6,dm,dm1,k1,k2,k3,k4,k5,env_P,env_L,TQ.down,resE,oneV, ↓reduceIte,reduceCtorEq,uB,uE,uL,uA,uM,uS,vL,vK,vE,vA,vS]
  exact ih _ _ ⟨q + 1,by omega,by simp (disch := omega) only [s0,TH.down,uA,uB],by simp (disch := omega) only [s1,TH.down,uA,uB],by simp (disch := omega) only [TH.down,uA,uB],by rw [ea]; exact J1,by rw [ea,ec]; exact wst,f1⟩
 ·exact ⟨0,by omega,by simp (disch := omega) only [TQ.down,resE,oneV, ↓reduceIte,reduceCtorEq,uB,uE,uL,uA,uM,vE],by simp (disch := omega) only [TQ.down,resE,oneV, ↓reduceIte,reduceCtorEq,uB,uE,uL,uA,uM,vE],by simp (disch := omega) only [TQ.down,resE,oneV, ↓reduceIte,reduceCtorEq,uB,uE,uL,uA,uM,vE],I0,w.mono (by simp [cntS]) (by simp [cntS]; omega), .refl _ _ _⟩
end Go.Proofs.Ytfjcfjfgamajkaa
