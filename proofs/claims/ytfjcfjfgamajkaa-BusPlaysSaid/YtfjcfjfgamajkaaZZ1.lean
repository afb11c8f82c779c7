/- Of this program, for all inputs: contracts. No condition but those in the theorems. -/
import Derived.Test.YtfjcfjfgamajkaaZPQ
namespace Go.Proofs.Ytfjcfjfgamajkaa
open Go Go.Ai Go.Aw Go.Proofs
open Nat renaming reduceBEq -> uB,reduceEqDiff -> uE,reduceLT -> uL,reduceAdd -> uA,reduceMul -> uM,reduceSub -> uS,reduceAnd -> uN,reduceXor -> uX,reduceOr -> uO
open Int renaming reduceMod -> vR,reduceDiv -> vD,reduceLT -> vL,reduceLE -> vK,reduceEq -> vE,reduceAdd -> vA,reduceMul -> vM,reduceToNat -> vT,reduceSub -> vS
set_option linter.unusedSimpArgs false
set_option linter.unusedVariables false
set_option maxRecDepth 10000
def RC (h : Heap) (c : Col) (k : Nat) (v : AV) (l : Img) : Prop := (l = [] /\ v = .nilslice) \/ ∃ K junk,l ≠ [] /\ v = .eslice K 0 0 l.length /\ K < h.next /\ c K = k /\ h.get K = some (.cells (logC l ++ junk) 65 false)
theorem RC.rw {h : Heap} {c : Col} {k : Nat} {v : AV} {l : Img} (x : RC h c k v l) : RW h v l := by
 rcases x with x | ⟨K,junk,_,rfl,h1,h2,h3⟩
 ·exact .inl x
 ·exact .inr ⟨K,junk,rfl,h1,h3⟩
theorem RC.rl {h : Heap} {c : Col} {k : Nat} {v : AV} {l : Img} (x : RC h c k v l) (hl : Img.ok l) : RL h v l := by
 rcases x with x | ⟨K,junk,h0,rfl,h1,h2,h3⟩
 ·exact .inl x
 ·refine .inr ⟨K,0,0,_,h0,rfl,h1,h3, ?_⟩
  rw [cutE_of (by rw [List.length_append,logC_len hl]; omega),List.drop_zero,<- logC_len hl,List.take_left]
theorem RC.fr {K : Nat -> Prop} {h h' : Heap} {c c' : Col} {k : Nat} {v : AV} {l : Img} (x : RC h c k v l) (f : Fr K c h h') (hk : ¬ K k) (e : ∀ j,j < h.next -> c' j = c j) : RC h' c' k v l := by
 rcases x with x | ⟨L,junk,h0,rfl,h1,h2,h3⟩
 ·exact .inl x
 ·exact .inr ⟨L,junk,h0,rfl,Nat.lt_of_lt_of_le h1 f.le,(e _ h1).trans h2,(f.get L h1 (by rw [h2]; exact hk)).trans h3⟩
def RMk (h : Heap) (c : Col) (k : Nat) (v : AV) (ls : List Img) : Prop := (ls = [] /\ v = .nilslice) \/ ∃ K vs,ls ≠ [] /\ v = .eslice K 0 0 ls.length /\ K < h.next /\ c K = k /\ h.get K = some (.cells vs 1 false) /\ vs.length = ls.length /\ ∀ (i : Nat) (u : AV) (l : Img),vs[i]? = some u -> ls[i]? = some l -> RC h c k u l
theorem RMk.fr {K : Nat -> Prop} {h h' : Heap} {c c' : Col} {k : Nat} {v : AV} {l : List Img} (x : RMk h c k v l) (f : Fr K c h h') (hk : ¬ K k) (e : ∀ j,j < h.next -> c' j = c j) : RMk h' c' k v l := by
 rcases x with x | ⟨L,vs,h0,rfl,h1,h2,h3,h4,h5⟩
 ·exact .inl x
 ·exact .inr ⟨L,vs,h0,rfl,Nat.lt_of_lt_of_le h1 f.le,(e _ h1).trans h2,(f.get L h1 (by rw [h2]; exact hk)).trans h3,h4,fun i u l a b => (h5 i u l a b).fr f hk e⟩
theorem RC.cl {h : Heap} {c : Col} {k : Nat} {v : AV} {l : Img} (x : RC h c k v l) : v.cells = [v] /\ isSc v = true := by
 rcases x with ⟨_,rfl⟩ | ⟨K,junk,_,rfl,_⟩ <;> exact ⟨rfl,rfl⟩
theorem lnnM : lenE Try.prog 163 .nilslice = some (.int .i64 0) := len_nilslice Try.underlying163
theorem lneM (k o l c : Nat) : lenE Try.prog 163 (.eslice k o l c) = some (.int .i64 (c : Int)) := len_eslice Try.underlying163 k o l c
theorem lncM {dd : Option Tmp} {t : TypeId} {p : String} {a : Array Edge} {g : Option (Nat × Bool)} (x : Operand) : cls Try.prog ⟨dd, .call ⟨.builtin .len,#[x],#[163]⟩,t,p,a,g⟩ = .p := cls_len1 Try.underlying163 x
theorem lnoM {call : CallK} {ρ : Operand -> AV} {h : Heap} {dd : Option Tmp} {t : TypeId} {p : String} {a : Array Edge} {g : Option (Nat × Bool)} (x : Operand) : opE Try.prog call ρ ⟨dd, .call ⟨.builtin .len,#[x],#[163]⟩,t,p,a,g⟩ h = th (okv (ρ x)) fun v => th (lenE Try.prog 163 v) fun v => some (v,h) := opE_len1 Try.underlying163 x
theorem RMk.len {h : Heap} {c : Col} {k : Nat} {v : AV} {ls : List Img} (x : RMk h c k v ls) : lenE Try.prog 163 v = some (.int .i64 (ls.length : Int)) := by
 rcases x with ⟨rfl,rfl⟩ | ⟨K,vs,_,rfl,_⟩
 ·exact lnnM
 ·exact lneM ..
theorem RMk.ok {h : Heap} {c : Col} {k : Nat} {v : AV} {ls : List Img} (x : RMk h c k v ls) : okv v = some v /\ AV.same v v = true := by
 rcases x with ⟨_,rfl⟩ | ⟨K,vs,_,rfl,_⟩
 ·exact ⟨rfl,rfl⟩
 ·exact ⟨rfl,same_eslice ..⟩
def RefM (h : Heap) (c : Col) (km m : Nat) (R : RS) : Prop := ∃ dv lv mv,m < h.next /\ c m = km /\ h.get m = some (.cells (refG R.n dv lv mv R.fails R.hurt) 0 false) /\ RC h c 0 dv R.dur /\ RC h c 0 lv R.lg /\ RMk h c 0 mv R.marks
theorem RefM.fr {K : Nat -> Prop} {h h' : Heap} {c c' : Col} {km m : Nat} {R : RS} (x : RefM h c km m R) (f : Fr K c h h') (hk : ¬ K km) (h0 : ¬ K 0) (e : ∀ j,j < h.next -> c' j = c j) : RefM h' c' km m R := by
 obtain ⟨dv,lv,mv,l1,c1,g1,x1,x2,x3⟩ := x
 exact ⟨dv,lv,mv,Nat.lt_of_lt_of_le l1 f.le,(e _ l1).trans c1,(f.get m l1 (by rw [c1]; exact hk)).trans g1,x1.fr f h0 e,x2.fr f h0 e,x3.fr f h0 e⟩
structure RS.wf (R : RS) (N : Nat) : Prop where
 n0 : 0 < R.n
 dur : Img.ok R.dur
 lg : Img.ok R.lg
 sz : R.dur.length + R.lg.length <= N
 mkl : R.marks.length <= 64
 mks : ∀ l ∈ R.marks,Img.ok l /\ l.length <= N
theorem find_len {l : Img} (i : Int) : Img.ok l -> ((rFind l i).getD zz).length = 64 := by
 induction l with
 | nil => intro _; exact zz_len
 | cons y r ih =>
  intro h
  have ih := ih fun z hz => h z (List.mem_cons_of_mem _ hz)
  rw [rFind]
  cases hr : rFind r i with
  | some s => rw [hr] at ih; exact ih
  | none =>
   simp only
   split
   ·exact h y (by simp)
   ·exact zz_len
theorem pnt_o {c : Col} {n k : Nat} : ∀ j,j < n -> pnt c n k j = c j := fun j hj => pnt_lt hj
theorem joined_one (d : Nat) (h : Heap) (a : AV) (x : Img) (q : Nat) (i : Int) (s : List Nat) (hx : RL h a x) (ox : Img.ok x) (hs : s.length = 64) (hn : x.length < 4000) (hq : h.get q = some (.cells (wrC i s) 0 false)) (ql : q < h.next) :
  G (callD env (d + 1) 134 [a, .slice q 0 1 1] h) fun v h' => Keeps h h' /\ ∃ K,v = .eslice K 0 0 (x ++ [(i,s)]).length /\ h.next <= K /\ K < h'.next /\ h'.get K = some (.cells (logC (x ++ [(i,s)])) 65 false) := by
 refine G.gen fun Q hX => ?_
 have fin : ∀ u h1 v h2,appE Try.prog 162 .nilslice a h = some (u,h1) -> (okv u = some u /\ AV.same u u = true) -> appE Try.prog 162 u (.slice q 0 1 1) h1 = some (v,h2) -> (okv v = some v /\ AV.same v v = true) -> Q v h2 -> G (callD env (d + 1) 134 [a, .slice q 0 1 1] h) Q := by
  intro u h1 v h2 e1 o1 e2 o2 hQ
  exact joined_go d h a (.slice q 0 1 1) hx.ok.1 rfl Q (fun u' v' h1' h2' q1 _ q3 _ => by
   rw [e1] at q1; cases q1
   rw [e2] at q3; cases q3
   exact hQ) ⟨u,h1,v,h2,e1,o1.1,o1.2,e2,o2.1,o2.2⟩
 have llx := logC_len ox
 have sc : allSc (logC x) = true := by
  clear llx hn ox hx fin hX
  induction x with
  | nil => rfl
  | cons z r ih =>
   rw [<- List.singleton_append,logC_app,logC_one]
   have h1 := wrC_sc z.1 z.2
   simp only [allSc,List.all_append] at h1 ih ⊢
   rw [h1,ih]; rfl
 subst hX
 rcases hx with ⟨rfl,rfl⟩ | ⟨K,o,i0,C,h0,rfl,h1,h2,h3⟩
 ·exact fin _ _ _ _ (app_nn el162 h) ⟨rfl,rfl⟩ (app_nil el162 hq (wrC_cut i s hs) (wrC_len i s hs) (wrC_sc i s)) ⟨rfl,same_eslice ..⟩ ⟨⟨by simp (disch := omega) only [TH.down,uA,uB]; omega,fun j hj => by simp (disch := omega) only [TH.down,uA,uB]⟩,h.next,rfl,Nat.le_refl _,Nat.lt_succ_self _,by rw [new_same,List.nil_append,logC_one]⟩
 ·obtain ⟨n,hn1⟩ : ∃ n,x.length = n + 1 := ⟨x.length - 1,by have := List.length_pos_iff.2 h0; omega⟩
  rw [hn1] at h3 llx hn fin ⊢
  have e1 := app_nilE (ix := i0) el162 (by omega) h2 h3 llx sc
  have gu : (h.new (.cells (logC x) (64 + 1) false)).get h.next = some (.cells (logC x) (64 + 1) false) := new_same _ _
  have gq : (h.new (.cells (logC x) (64 + 1) false)).get q = some (.cells (wrC i s) 0 false) := by rw [new_ne _ _ (by omega)]; exact hq
  refine fin _ _ _ _ e1 ⟨rfl,same_eslice ..⟩ (app_es el162 gu llx (by omega) gq (wrC_cut i s hs) (wrC_len i s hs) (wrC_sc i s)) ⟨rfl,same_eslice ..⟩ ⟨⟨by simp (disch := first | omega | (simp only [SD.down,uA,uL] <;> omega) | fail) only [TQ.down,resE,oneV, ↓reduceIte,reduceCtorEq,uB,uE,uL,uA,uM,uS,vL,vK,vE,vA,vS]; omega,fun j hj => by simp (disch := first | omega | (simp only [SD.down,uA,uL] <;> omega) | fail) only [TQ.down,resE,oneV, ↓reduceIte,reduceCtorEq,uB,uE,uL,uA,uM,uS,vL,vK,vE,vA,vS]⟩,h.next + 1,by simp [hn1,Heap.new],by omega,by simp (disch := first | omega | (simp only [SD.down,uA,uL] <;> omega) | fail) only [TQ.down,resE,oneV, ↓reduceIte,reduceCtorEq,uB,uE,uL,uA,uM,uS,vL,vK,vE,vA,vS]; omega,by rw [logC_app,logC_one]; simp (disch := first | omega | (simp only [SD.down,uA,uL] <;> omega) | fail) only [TQ.down,resE,oneV, ↓reduceIte,reduceCtorEq,uB,uE,uL,uA,uM,uS,vL,vK,vE,vA,vS]⟩
theorem r_seen (d : Nat) (h : Heap) (m n : Nat) (dv lv mv : AV) (f hu : Bool) (dur lg : Img) (i : Int) (hm : h.get m = some (.cells (refG n dv lv mv f hu) 0 false)) (hml : m < h.next) (od : Img.ok dur) (ol : Img.ok lg) (nd : dur.length < 4000) (nl : lg.length < 4000) (xd : RW h dv dur) (xl : RW h lv lg) :
  G (callD env (d + 4) 135 [.ptr m 0, .int .i64 i] h) fun u h' => u = .agg (B (rSeen dur lg i)) /\ Keeps h h' := by
 refine G.gen fun Q hX => ?_
 unfold refG at hm
 have hzl := zz_len
 have f1 := find_len i ol
 have f2 := find_len i od
 rw [callD_run (E := env) [] (by kernel_rfl) Try.func135 rfl (by rw [Try.ntmps135]; simp) (by kernel_rfl)]; simp (disch := first | omega | (simp only [SD.down,uA,uL] <;> omega) | fail) only [Try.ntmps135,Try.results135,env_P,env_L,hm,bz25,zz_fold,hzl,cutB_all,over_B,xd.ok.1,xl.ok.1,xd.ok.2,xl.ok.2,TQ.down,resE,oneV, ↓reduceIte,reduceCtorEq,uB,uE,uL,uA,uM,uS,vL,vK,vE,vA,vS]
 have kp : Keeps h (h.new (Blk.cells (B zz) 0 false)) := ⟨by simp (disch := omega) only [TH.down,uA,uB]; omega,fun j hj => by simp (disch := omega) only [TH.down,uA,uB]⟩
 have g0 : (h.new (Blk.cells (B zz) 0 false)).get h.next = some (.cells (B zz) 0 false) := by simp (disch := omega) only [TH.down,uA,uB]
 have gn : (h.new (Blk.cells (B zz) 0 false)).next = h.next + 1 := by simp (disch := omega) only [TH.down,uA,uB]
 generalize (h.new (Blk.cells (B zz) 0 false)) = H at kp g0 gn ⊢
 refine G.call (find_RW d H lv i lg ol nl (xl.keep kp)) ?_
 rintro v h1 ⟨rfl,k1⟩
 have n1 := k1.1
 have kk := kp.trans k1
 have gm1 := (kk.2 m hml).trans hm
 have gz := (k1.2 h.next (by omega)).trans g0
 cases hr : rFind lg i with
 | some s =>
  rw [hr] at f1
  have e : rSeen dur lg i = s := by unfold rSeen; rw [hr]
  rw [e] at hX
  have f1 : s.length = 64 := f1
  simp only [Option.getD_some,Option.isSome_some]
  simp (disch := first | omega | (simp only [SD.down,uA,uL] <;> omega) | fail) only [gm1,gz,bz25,zz_fold,hzl,f1,cutB_all,over_B,xd.ok.1,xd.ok.2,TQ.down,resE,oneV, ↓reduceIte,reduceCtorEq,uB,uE,uL,uA,uM,uS,vL,vK,vE,vA,vS]
  subst hX
  exact G.ok ⟨rfl,⟨by simp (maxSteps := 2000000) (implicitDefEqProofs := false) (disch := first | omega | (simp only [SD.down,uA,uL] <;> omega) | fail) only [TQ.down,resE,oneV, ↓reduceIte,reduceCtorEq,uB,uE,uL,uA,uM,uS,uN,uX,uO,vR,vD,vL,vK,vE,vA,vM,vT,vS]; omega,fun j hj => by simp (maxSteps := 2000000) (implicitDefEqProofs := false) (disch := first | omega | (simp only [SD.down,uA,uL] <;> omega) | fail) only [TQ.down,resE,oneV, ↓reduceIte,reduceCtorEq,uB,uE,uL,uA,uM,uS,uN,uX,uO,vR,vD,vL,vK,vE,vA,vM,vT,vS]; exact kk.2 j hj⟩⟩
 | none =>
  have e : rSeen dur lg i = (rFind dur i).getD zz := by unfold rSeen; rw [hr]
  rw [e] at hX
  simp only [Option.getD_none,Option.isSome_none]
  simp (implicitDefEqProofs := false) (disch := first | omega | (simp only [SD.down,uA,uL] <;> omega) | fail) only [gm1,gz,bz25,zz_fold,hzl,cutB_all,over_B,xd.ok.1,xd.ok.2,TQ.down,resE,oneV, ↓reduceIte,reduceCtorEq,uB,uE,uL,uA,uM,uS,uN,uX,uO,vR,vD,vL,vK,vE,vA,vM,vT,vS]
  have k3 : Keeps h1 ((h1.new (Blk.cells (B zz) 0 false)).put h1.next (some (Blk.cells (B zz) 0 false))) := ⟨by simp (disch := first | omega | (simp only [SD.down,uA,uL] <;> omega) | fail) only [TQ.down,resE,oneV, ↓reduceIte,reduceCtorEq,uB,uE,uL,uA,uM,uS,vL,vK,vE,vA,vS]; omega,fun j hj => by simp (disch := first | omega | (simp only [SD.down,uA,uL] <;> omega) | fail) only [TQ.down,resE,oneV, ↓reduceIte,reduceCtorEq,uB,uE,uL,uA,uM,uS,vL,vK,vE,vA,vS]⟩
  have g3 : ((h1.new (Blk.cells (B zz) 0 false)).put h1.next (some (Blk.cells (B zz) 0 false))).get h1.next = some (.cells (B zz) 0 false) := by simp (maxSteps := 2000000) (implicitDefEqProofs := false) (disch := first | omega | (simp only [SD.down,uA,uL] <;> omega) | fail) only [TQ.down,resE,oneV, ↓reduceIte,reduceCtorEq,uB,uE,uL,uA,uM,uS,uN,uX,uO,vR,vD,vL,vK,vE,vA,vM,vT,vS]
  have gn3 : ((h1.new (Blk.cells (B zz) 0 false)).put h1.next (some (Blk.cells (B zz) 0 false))).next = h1.next + 1 := by simp (maxSteps := 2000000) (implicitDefEqProofs := false) (disch := first | omega | (simp only [SD.down,uA,uL] <;> omega) | fail) only [TQ.down,resE,oneV, ↓reduceIte,reduceCtorEq,uB,uE,uL,uA,uM,uS,uN,uX,uO,vR,vD,vL,vK,vE,vA,vM,vT,vS]
  generalize ((h1.new (Blk.cells (B zz) 0 false)).put h1.next (some (Blk.cells (B zz) 0 false))) = H2 at k3 g3 gn3 ⊢
  refine G.call (find_RW d H2 dv i dur od nd ((xd.keep kk).keep k3)) ?_
  rintro v h4 ⟨rfl,k4⟩
  have n4 := k4.1
  have gz4 := (k4.2 h.next (by omega)).trans ((k3.2 h.next (by omega)).trans gz)
  have gl4 := (k4.2 h1.next (by omega)).trans g3
  have k14 := (kk.trans k3).trans k4
  simp (disch := omega) only [gz4,gl4,bz25,zz_fold,hzl,f2,cutB_all,over_B,xd.ok.1,xd.ok.2,TQ.down,resE,oneV, ↓reduceIte,reduceCtorEq,uB,uE,uL,uA,uM,vE]
  subst hX
  exact G.ok ⟨rfl,⟨by simp (disch := omega) only [TH.down,uA,uB]; omega,fun j hj => by simp (disch := omega) only [TH.down,uA,uB]; exact k14.2 j hj⟩⟩
theorem mIO_lo {n : Nat} {f : Bool} {i : Int} (h : i < 0) : mIO n f i = 2 := if_pos (.inl h)
theorem mIO_hi {n : Nat} {f : Bool} {i : Int} (h : (n : Int) <= i) : mIO n f i = 2 := if_pos (.inr h)
theorem mIO_in {n : Nat} {f : Bool} {i : Int} (h0 : ¬ i < 0) (h1 : ¬ (n : Int) <= i) : mIO n f i = cond f 10 0 := if_neg (by omega)
theorem RS.read_len {R : RS} {N : Nat} (w : R.wf N) (i : Int) : (R.read i).1.length = 64 := by
 unfold RS.read
 split
 ·rw [rSeen_app]
  exact find_len i fun x hx => (List.mem_append.1 hx).elim (w.dur x) (w.lg x)
 ·exact zz_len
theorem r_read (d : Nat) (h : Heap) (c : Col) (km m N : Nat) (R : RS) (I : RefM h c km m R) (w : R.wf N) (hN : N < 3999) (i : Int) :
  G (callD env (d + 5) 108 [.ptr m 0, .int .i64 i] h) fun v h' => v = .tup [.agg (B (R.read i).1), .int .i64 (R.read i).2] /\ Keeps h h' := by
 refine G.gen fun Q hX => ?_
 obtain ⟨dv,lv,mv,l1,c1,g1,x1,x2,x3⟩ := I
 have g0 := g1
 unfold refG at g1
 have hzl := zz_len
 by_cases h0 : i < 0
 ·have d0 : decide (0 <= i) = false := decide_eq_false (by omega)
  have e : R.read i = (zz,2) := by unfold RS.read; rw [mIO_lo h0]; rfl
  rw [e] at hX
  rw [callD_run (E := env) [] (by kernel_rfl) Try.func108 rfl (by rw [Try.ntmps108]; simp) (by kernel_rfl)]; simp (disch := first | omega | (simp only [SD.down,uA,uL] <;> omega) | fail) only [Try.ntmps108,Try.results108,env_P,env_L,g1,in109,Try.f109,d0,bz25,zz_fold,hzl,cutB_all,over_B,TQ.down,resE,oneV, ↓reduceIte,reduceCtorEq,uB,uE,uL,uA,uM,uS,vL,vK,vE,vA,vS]
  subst hX
  exact G.ok ⟨rfl,⟨by simp (disch := omega) only [TH.down,uA,uB]; omega,fun j hj => by simp (disch := omega) only [TH.down,uA,uB]⟩⟩
 have d0 : decide (0 <= i) = true := decide_eq_true (by omega)
 by_cases h1 : (R.n : Int) <= i
 ·have d1 : decide (i < (R.n : Int)) = false := decide_eq_false (by omega)
  have e : R.read i = (zz,2) := by unfold RS.read; rw [mIO_hi h1]; rfl
  rw [e] at hX
  rw [callD_run (E := env) [] (by kernel_rfl) Try.func108 rfl (by rw [Try.ntmps108]; simp) (by kernel_rfl)]; simp (disch := first | omega | (simp only [SD.down,uA,uL] <;> omega) | fail) only [Try.ntmps108,Try.results108,env_P,env_L,g1,in109,Try.f109,d0,d1,bz25,zz_fold,hzl,cutB_all,over_B,TQ.down,resE,oneV, ↓reduceIte,reduceCtorEq,uB,uE,uL,uA,uM,uS,vL,vK,vE,vA,vS]
  subst hX
  exact G.ok ⟨rfl,⟨by simp (disch := omega) only [TH.down,uA,uB]; omega,fun j hj => by simp (disch := omega) only [TH.down,uA,uB]⟩⟩
 have d1 : decide (i < (R.n : Int)) = true := decide_eq_true (by omega)
 cases hf : R.fails with
 | true =>
  have e : R.read i = (zz,10) := by unfold RS.read; rw [mIO_in h0 h1,hf]; rfl
  rw [e] at hX
  rw [hf] at g1
  rw [callD_run (E := env) [] (by kernel_rfl) Try.func108 rfl (by rw [Try.ntmps108]; simp) (by kernel_rfl)]; simp (disch := first | omega | (simp only [SD.down,uA,uL] <;> omega) | fail) only [Try.ntmps108,Try.results108,env_P,env_L,g1,in109,Try.f109,d0,d1,bz25,zz_fold,hzl,cutB_all,over_B,TQ.down,resE,oneV, ↓reduceIte,reduceCtorEq,uB,uE,uL,uA,uM,uS,vL,vK,vE,vA,vS]
  subst hX
  exact G.ok ⟨rfl,⟨by simp (disch := omega) only [TH.down,uA,uB]; omega,fun j hj => by simp (disch := omega) only [TH.down,uA,uB]⟩⟩
 | false =>
  have e : R.read i = (rSeen R.dur R.lg i,0) := by unfold RS.read; rw [mIO_in h0 h1,hf]; rfl
  rw [e] at hX
  rw [hf] at g1 g0
  have sl : (rSeen R.dur R.lg i).length = 64 := by have := RS.read_len w i; rw [e] at this; exact this
  rw [callD_run (E := env) [] (by kernel_rfl) Try.func108 rfl (by rw [Try.ntmps108]; simp) (by kernel_rfl)]; simp (disch := first | omega | (simp only [SD.down,uA,uL] <;> omega) | fail) only [Try.ntmps108,Try.results108,env_P,env_L,g1,in109,Try.f109,d0,d1,bz25,zz_fold,hzl,cutB_all,over_B,TQ.down,resE,oneV, ↓reduceIte,reduceCtorEq,uB,uE,uL,uA,uM,uS,vL,vK,vE,vA,vS]
  have hsz := w.sz
  have kp : Keeps h (h.new (Blk.cells (B zz) 0 false)) := ⟨by simp (disch := omega) only [TH.down,uA,uB]; omega,fun j hj => by simp (disch := omega) only [TH.down,uA,uB]⟩
  have gz : (h.new (Blk.cells (B zz) 0 false)).get h.next = some (.cells (B zz) 0 false) := by simp (disch := omega) only [TH.down,uA,uB]
  have gn : (h.new (Blk.cells (B zz) 0 false)).next = h.next + 1 := by simp (disch := omega) only [TH.down,uA,uB]
  generalize (h.new (Blk.cells (B zz) 0 false)) = H at kp gz gn ⊢
  refine G.call (r_seen d H m R.n dv lv mv false R.hurt R.dur R.lg i ((kp.2 m l1).trans g0) (by omega) w.dur w.lg (by omega) (by omega) (x1.rw.keep kp) (x2.rw.keep kp)) ?_
  rintro v h2 ⟨rfl,k2⟩
  have n2 := k2.1
  have gz2 := (k2.2 h.next (by omega)).trans gz
  have kk := kp.trans k2
  simp (disch := omega) only [gz2,sl,hzl,zz_fold,cutB_all,over_B,TQ.down,resE,oneV, ↓reduceIte,reduceCtorEq,uB,uE,uL,uA,uM,vE]
  subst hX
  exact G.ok ⟨rfl,⟨by simp (disch := omega) only [TH.down,uA,uB]; omega,fun j hj => by simp (disch := omega) only [TH.down,uA,uB]; exact kk.2 j hj⟩⟩
theorem RC.new {h h' : Heap} {c : Col} {v : AV} {l : Img} (n : h.next <= h'.next) (x : (l = [] /\ v = .nilslice) \/ l ≠ [] /\ ∃ K,v = .eslice K 0 0 l.length /\ h.next <= K /\ K < h'.next /\ h'.get K = some (.cells (logC l) 65 false)) : RC h' (pnt c h.next 0) 0 v l := by
 rcases x with x | ⟨h0,K,rfl,h1,h2,h3⟩
 ·exact .inl x
 ·exact .inr ⟨K,[],h0,rfl,h2,pnt_ge h1,by rw [List.append_nil]; exact h3⟩
theorem RefM.put {h H h' : Heap} {c : Col} {km m : Nat} {R R' : RS} {dv lv mv dv' lv' mv' : AV} (l1 : m < h.next) (c1 : c m = km) (hk : km ≠ 0) (kp : Keeps h H) (hn : h'.next = H.next) (hm : h'.get m = some (.cells (refG R'.n dv' lv' mv' R'.fails R'.hurt) 0 false)) (hg : ∀ j,j < H.next -> j ≠ m -> h'.get j = H.get j)
  (x1 : RC H (pnt c h.next 0) 0 dv' R'.dur) (x2 : RC H (pnt c h.next 0) 0 lv' R'.lg) (x3 : RMk H (pnt c h.next 0) 0 mv' R'.marks) : RefM h' (pnt c h.next 0) km m R' /\ Fr (· = km) c h h' := by
 have n1 := kp.1
 have fr : Fr (· = km) (pnt c h.next 0) H h' := ⟨by omega,fun j hj hq => hg j hj fun e => hq (by rw [e,pnt_lt l1]; exact c1)⟩
 refine ⟨⟨dv',lv',mv',by omega,(pnt_lt l1).trans c1,hm,x1.fr fr (Ne.symm hk) fun _ _ => rfl,x2.fr fr (Ne.symm hk) fun _ _ => rfl,x3.fr fr (Ne.symm hk) fun _ _ => rfl⟩,⟨by omega,fun j hj hq => (hg j (by omega) fun e => hq (e ▸ c1)).trans (kp.2 j hj)⟩⟩
theorem RC.kp {h H : Heap} {c : Col} {v : AV} {l : Img} (x : RC h c 0 v l) (k : Keeps h H) : RC H (pnt c h.next 0) 0 v l := x.fr (K := fun _ => False) (.of k) id fun j hj => pnt_lt hj
theorem RMk.kp {h H : Heap} {c : Col} {v : AV} {l : List Img} (x : RMk h c 0 v l) (k : Keeps h H) : RMk H (pnt c h.next 0) 0 v l := x.fr (K := fun _ => False) (.of k) id fun j hj => pnt_lt hj
theorem RefM.kp {h H : Heap} {c : Col} {km m : Nat} {R : RS} (x : RefM h c km m R) (k : Keeps h H) : RefM H (pnt c h.next 0) km m R := x.fr (K := fun _ => False) (.of k) id id fun j hj => pnt_lt hj
theorem bs162 (i : Int) (s : List Nat) (hs : s.length = 64) (h : Heap) : bsE Try.prog 162 1 [(0, .agg (wrC i s))] h = some (.slice h.next 0 1 1,h.new (.cells (wrC i s) 0 false)) := bs_one Try.underlying162 (s := 64) (by kernel_rfl) (z := ((zeroE Try.prog 195).getD .nilptr)) (by kernel_rfl) (by kernel_rfl) (by kernel_rfl) (wrC_len i s hs) (wrC_sc i s) h
theorem r_fail (d : Nat) (h : Heap) (c : Col) (km m : Nat) (R : RS) (I : RefM h c km m R) (hk : km ≠ 0) (on : Bool) :
  G (callD env (d + 3) 133 [.ptr m 0, .bool on] h) fun v h' => v = .tup [] /\ RefM h' (pnt c h.next 0) km m (R.fail on) /\ Fr (· = km) c h h' := by
 refine G.gen fun Q hX => ?_
 obtain ⟨dv,lv,mv,l1,c1,g1,x1,x2,x3⟩ := I
 unfold refG at g1
 cases on with
 | true =>
  rw [callD_run (E := env) [] (by kernel_rfl) Try.func133 rfl (by rw [Try.ntmps133]; simp) (by kernel_rfl)]; simp (disch := first | omega | (simp only [SD.down,uA,uL] <;> omega) | fail) only [Try.ntmps133,Try.results133,env_P,env_L,g1,TQ.down,resE,oneV, ↓reduceIte,reduceCtorEq,uB,uE,uL,uA,uM,uS,vL,vK,vE,vA,vS]
  subst hX
  exact G.ok ⟨rfl,RefM.put (R := R) (R' := R.fail true) (dv := dv) (lv := lv) (mv := mv) l1 c1 hk (.refl h) (by simp (disch := omega) only [TH.down,uA,uB]) (by simp (disch := omega) only [refG,RS.fail,Bool.or_true,TH.down,uA,uB]) (fun j hj jm => by simp (disch := omega) only [TH.down,uA,uB]) (x1.kp (.refl h)) (x2.kp (.refl h)) (x3.kp (.refl h))⟩
 | false =>
  rw [callD_run (E := env) [] (by kernel_rfl) Try.func133 rfl (by rw [Try.ntmps133]; simp) (by kernel_rfl)]; simp (disch := first | omega | (simp only [SD.down,uA,uL] <;> omega) | fail) only [Try.ntmps133,Try.results133,env_P,env_L,g1,TQ.down,resE,oneV, ↓reduceIte,reduceCtorEq,uB,uE,uL,uA,uM,uS,vL,vK,vE,vA,vS]
  subst hX
  exact G.ok ⟨rfl,RefM.put (R := R) (R' := R.fail false) (dv := dv) (lv := lv) (mv := mv) l1 c1 hk (.refl h) (by simp (disch := omega) only [TH.down,uA,uB]) (by simp (disch := omega) only [refG,RS.fail,Bool.or_false,TH.down,uA,uB]) (fun j hj jm => by simp (disch := omega) only [TH.down,uA,uB]) (x1.kp (.refl h)) (x2.kp (.refl h)) (x3.kp (.refl h))⟩
theorem r_flush (d : Nat) (h : Heap) (c : Col) (km m N : Nat) (R : RS) (I : RefM h c km m R) (w : R.wf N) (hN : N < 3999) (hk : km ≠ 0) :
  G (callD env (d + 4) 105 [.ptr m 0] h) fun v h' => v = .int .i64 R.flush.2 /\ RefM h' (pnt c h.next 0) km m R.flush.1 /\ Fr (· = km) c h h' := by
 refine G.gen fun Q hX => ?_
 have I0 := I
 obtain ⟨dv,lv,mv,l1,c1,g1,x1,x2,x3⟩ := I
 unfold refG at g1
 cases hf : R.fails with
 | true =>
  have e : R.flush = (R,10) := by unfold RS.flush; rw [hf]; rfl
  rw [e] at hX
  rw [hf] at g1
  rw [callD_run (E := env) [] (by kernel_rfl) Try.func105 rfl (by rw [Try.ntmps105]; simp) (by kernel_rfl)]; simp (disch := first | omega | (simp only [SD.down,uA,uL] <;> omega) | fail) only [Try.ntmps105,Try.results105,env_P,env_L,g1,TQ.down,resE,oneV, ↓reduceIte,reduceCtorEq,uB,uE,uL,uA,uM,uS,vL,vK,vE,vA,vS]
  subst hX
  exact G.ok ⟨rfl,I0.kp (.refl h), .refl _ _ _⟩
 | false =>
  have e : R.flush = ({ R with dur := R.dur ++ R.lg,lg := [] },0) := by unfold RS.flush; rw [hf]; rfl
  rw [e] at hX
  rw [hf] at g1
  have ok1 := x1.rw.ok
  have ok2 := x2.rw.ok
  rw [callD_run (E := env) [] (by kernel_rfl) Try.func105 rfl (by rw [Try.ntmps105]; simp) (by kernel_rfl)]; simp (disch := first | omega | (simp only [SD.down,uA,uL] <;> omega) | fail) only [Try.ntmps105,Try.results105,env_P,env_L,g1,ok1.1,ok1.2,ok2.1,ok2.2,TQ.down,resE,oneV, ↓reduceIte,reduceCtorEq,uB,uE,uL,uA,uM,uS,vL,vK,vE,vA,vS]
  have hsz := w.sz
  refine G.call (joined_ok (d + 2) h dv lv R.dur R.lg (x1.rl w.dur) (x2.rl w.lg) w.dur w.lg (by omega)) ?_
  rintro v H ⟨kp,hv⟩
  have gm := (kp.2 m l1).trans g1
  have hvn := RC.new (c := c) kp.1 hv
  have vok := hvn.rw.ok
  have vcl : v.cells = [v] /\ isSc v = true := by
   rcases hv with ⟨_,rfl⟩ | ⟨_,K,rfl,_⟩ <;> exact ⟨rfl,rfl⟩
  simp (disch := first | omega | (simp only [SD.down,uA,uL] <;> omega) | fail) only [gm,vok.1,vok.2,vcl.1,vcl.2,TQ.down,resE,oneV, ↓reduceIte,reduceCtorEq,uB,uE,uL,uA,uM,uS,vL,vK,vE,vA,vS]
  subst hX
  have := RefM.put (h := h) (H := H) (h' := H.put m (some (Blk.cells [AV.int IntKind.i64 ↑R.n,v,AV.nilslice,mv,AV.bool false,AV.bool R.hurt] 0 false))) (c := c) (R := R) (R' := { R with dur := R.dur ++ R.lg,lg := [] }) (dv := dv) (lv := lv) (mv := mv) l1 c1 hk kp (by simp (maxSteps := 2000000) (implicitDefEqProofs := false) (disch := first | omega | (simp only [SD.down,uA,uL] <;> omega) | fail) only [TQ.down,resE,oneV, ↓reduceIte,reduceCtorEq,uB,uE,uL,uA,uM,uS,uN,uX,uO,vR,vD,vL,vK,vE,vA,vM,vT,vS]) (by simp (maxSteps := 2000000) (implicitDefEqProofs := false) (disch := first | omega | (simp only [SD.down,uA,uL] <;> omega) | fail) only [refG,hf,TQ.down,resE,oneV, ↓reduceIte,reduceCtorEq,uB,uE,uL,uA,uM,uS,uN,uX,uO,vR,vD,vL,vK,vE,vA,vM,vT,vS]) (fun j hj jm => by simp (maxSteps := 2000000) (implicitDefEqProofs := false) (disch := first | omega | (simp only [SD.down,uA,uL] <;> omega) | fail) only [TQ.down,resE,oneV, ↓reduceIte,reduceCtorEq,uB,uE,uL,uA,uM,uS,uN,uX,uO,vR,vD,vL,vK,vE,vA,vM,vT,vS]) hvn (.inl ⟨rfl,rfl⟩) (x3.kp kp)
  refine G.ok ?_
  exact ⟨rfl,this⟩
theorem r_write (d : Nat) (h : Heap) (c : Col) (km m N : Nat) (R : RS) (I : RefM h c km m R) (w : R.wf N) (hN : N < 3999) (hk : km ≠ 0) (i : Int) (s : List Nat) (hs : s.length = 64) :
  G (callD env (d + 4) 104 [.ptr m 0, .int .i64 i, .agg (B s)] h) fun v h' => v = .int .i64 (R.write i s).2 /\ RefM h' (pnt c h.next 0) km m (R.write i s).1 /\ Fr (· = km) c h h' := by
 refine G.gen fun Q hX => ?_
 have I0 := I
 obtain ⟨dv,lv,mv,l1,c1,g1,x1,x2,x3⟩ := I
 unfold refG at g1
 have hzl := zz_len
 have same : ∀ e : Int,R.write i s = (R,e) -> ∀ H,Keeps h H -> G (some (.int .i64 e,H)) Q := fun e he H kp => by
  subst hX
  rw [he]
  exact G.ok ⟨rfl,I0.kp kp, .of kp⟩
 by_cases h0 : i < 0
 ·have d0 : decide (0 <= i) = false := decide_eq_false (by omega)
  rw [callD_run (E := env) [(5, .fl [(4,0,1)])] (by kernel_rfl) Try.func104 rfl (by rw [Try.ntmps104]; simp) (by kernel_rfl)]; simp (disch := first | omega | (simp only [SD.down,uA,uL] <;> omega) | fail) only [Try.ntmps104,Try.results104,env_P,env_L,g1,in109,Try.f109,d0,bz25,zz_fold,hzl,hs,cutB_all,over_B,TQ.down,resE,oneV, ↓reduceIte,reduceCtorEq,uB,uE,uL,uA,uM,uS,vL,vK,vE,vA,vS]
  exact same 2 (by unfold RS.write; rw [mIO_lo h0]; rfl) _ ⟨by simp (disch := omega) only [TH.down,uA,uB]; omega,fun j hj => by simp (disch := omega) only [TH.down,uA,uB]⟩
 have d0 : decide (0 <= i) = true := decide_eq_true (by omega)
 by_cases h1 : (R.n : Int) <= i
 ·have d1 : decide (i < (R.n : Int)) = false := decide_eq_false (by omega)
  rw [callD_run (E := env) [(5, .fl [(4,0,1)])] (by kernel_rfl) Try.func104 rfl (by rw [Try.ntmps104]; simp) (by kernel_rfl)]; simp (disch := first | omega | (simp only [SD.down,uA,uL] <;> omega) | fail) only [Try.ntmps104,Try.results104,env_P,env_L,g1,in109,Try.f109,d0,d1,bz25,zz_fold,hzl,hs,cutB_all,over_B,TQ.down,resE,oneV, ↓reduceIte,reduceCtorEq,uB,uE,uL,uA,uM,uS,vL,vK,vE,vA,vS]
  exact same 2 (by unfold RS.write; rw [mIO_hi h1]; rfl) _ ⟨by simp (disch := omega) only [TH.down,uA,uB]; omega,fun j hj => by simp (disch := omega) only [TH.down,uA,uB]⟩
 have d1 : decide (i < (R.n : Int)) = true := decide_eq_true (by omega)
 cases hf : R.fails with
 | true =>
  rw [hf] at g1
  rw [callD_run (E := env) [(5, .fl [(4,0,1)])] (by kernel_rfl) Try.func104 rfl (by rw [Try.ntmps104]; simp) (by kernel_rfl)]; simp (disch := first | omega | (simp only [SD.down,uA,uL] <;> omega) | fail) only [Try.ntmps104,Try.results104,env_P,env_L,g1,in109,Try.f109,d0,d1,bz25,zz_fold,hzl,hs,cutB_all,over_B,TQ.down,resE,oneV, ↓reduceIte,reduceCtorEq,uB,uE,uL,uA,uM,uS,vL,vK,vE,vA,vS]
  exact same 10 (by unfold RS.write; rw [mIO_in h0 h1,hf]; rfl) _ ⟨by simp (disch := omega) only [TH.down,uA,uB]; omega,fun j hj => by simp (disch := omega) only [TH.down,uA,uB]⟩
 | false =>
  rw [hf] at g1
  have e : R.write i s = ({ R with lg := R.lg ++ [(i,s)] },0) := by unfold RS.write; rw [mIO_in h0 h1,hf]; rfl
  rw [e] at hX
  have ok2 := x2.rw.ok
  rw [callD_run (E := env) [(5, .fl [(4,0,1)])] (by kernel_rfl) Try.func104 rfl (by rw [Try.ntmps104]; simp) (by kernel_rfl)]; simp (disch := first | omega | (simp only [SD.down,uA,uL] <;> omega) | fail) only [Try.ntmps104,Try.results104,env_P,env_L,g1,in109,Try.f109,d0,d1,bz25,zz_fold,hzl,hs,cutB_all,over_B,ok2.1,ok2.2,bs162 i s hs,wr_over i zz s hzl hs,TQ.down,resE,oneV, ↓reduceIte,reduceCtorEq,uB,uE,uL,uA,uM,uS,vL,vK,vE,vA,vS]
  have kp : Keeps h ((h.new (Blk.cells (B s) 0 false)).new (Blk.cells (wrC i s) 0 false)) := ⟨by simp (disch := first | omega | (simp only [SD.down,uA,uL] <;> omega) | fail) only [TQ.down,resE,oneV, ↓reduceIte,reduceCtorEq,uB,uE,uL,uA,uM,uS,vL,vK,vE,vA,vS]; omega,fun j hj => by simp (disch := first | omega | (simp only [SD.down,uA,uL] <;> omega) | fail) only [TQ.down,resE,oneV, ↓reduceIte,reduceCtorEq,uB,uE,uL,uA,uM,uS,vL,vK,vE,vA,vS]⟩
  have gw : ((h.new (Blk.cells (B s) 0 false)).new (Blk.cells (wrC i s) 0 false)).get (h.next + 1) = some (.cells (wrC i s) 0 false) := by simp (disch := first | omega | (simp only [SD.down,uA,uL] <;> omega) | fail) only [TQ.down,resE,oneV, ↓reduceIte,reduceCtorEq,uB,uE,uL,uA,uM,uS,vL,vK,vE,vA,vS]
  have gn : ((h.new (Blk.cells (B s) 0 false)).new (Blk.cells (wrC i s) 0 false)).next = h.next + 2 := by simp (disch := omega) only [TH.down,uA,uB]
  generalize ((h.new (Blk.cells (B s) 0 false)).new (Blk.cells (wrC i s) 0 false)) = H at kp gw gn ⊢
  have hsz := w.sz
  refine G.callC (joined_one (d + 2) H lv R.lg (h.next + 1) i s ((x2.kp kp).rl w.lg) w.lg hs (by omega) gw (by omega)) ?_
  rintro v H2 ⟨k2,K,rfl,y1,y2,y3⟩
  have gH := (kp.2 m l1).trans g1
  have gm := (k2.2 m (by omega)).trans gH
  simp (disch := first | omega | (simp only [SD.down,uA,uL] <;> omega) | fail) only [gm,gH,g1,ok2.1,ok2.2,TQ.down,resE,oneV, ↓reduceIte,reduceCtorEq,uB,uE,uL,uA,uM,uS,vL,vK,vE,vA,vS]
  subst hX
  have kk := kp.trans k2
  have := RefM.put (h := h) (H := H2) (h' := H2.put m (some (Blk.cells [AV.int IntKind.i64 ↑R.n,dv,AV.eslice K 0 0 (R.lg ++ [(i,s)]).length,mv,AV.bool false,AV.bool R.hurt] 0 false))) (c := c) (R := R) (R' := { R with lg := R.lg ++ [(i,s)] }) (dv := dv) (lv := lv) (mv := mv) l1 c1 hk kk (by simp (maxSteps := 2000000) (implicitDefEqProofs := false) (disch := first | omega | (simp only [SD.down,uA,uL] <;> omega) | fail) only [TQ.down,resE,oneV, ↓reduceIte,reduceCtorEq,uB,uE,uL,uA,uM,uS,uN,uX,uO,vR,vD,vL,vK,vE,vA,vM,vT,vS]) (by simp (maxSteps := 2000000) (implicitDefEqProofs := false) (disch := first | omega | (simp only [SD.down,uA,uL] <;> omega) | fail) only [refG,hf,TQ.down,resE,oneV, ↓reduceIte,reduceCtorEq,uB,uE,uL,uA,uM,uS,uN,uX,uO,vR,vD,vL,vK,vE,vA,vM,vT,vS]) (fun j hj jm => by simp (maxSteps := 2000000) (implicitDefEqProofs := false) (disch := first | omega | (simp only [SD.down,uA,uL] <;> omega) | fail) only [TQ.down,resE,oneV, ↓reduceIte,reduceCtorEq,uB,uE,uL,uA,uM,uS,uN,uX,uO,vR,vD,vL,vK,vE,vA,vM,vT,vS]) (x1.kp kk) (RC.new (c := c) kk.1 (.inr ⟨by simp,K,rfl,by omega,y2,y3⟩)) (x3.kp kk)
  refine G.ok ?_
  exact ⟨rfl,this⟩
end Go.Proofs.Ytfjcfjfgamajkaa
namespace Go.Aw
open Go Go.Ai
set_option linter.unusedSimpArgs false
set_option linter.unusedVariables false
variable {P : Program} {h : Heap}
theorem sl_es_full {t e n : Nat} (hu : P.underlying t = some (.slice e)) (hz : szE P e = some n) (k o i len : Nat) {q : IntKind} : sliceE P t (.eslice k o i (len + 1)) none (some (.int q ((len + 1 : Nat) : Int))) (some (.int q ((len + 1 : Nat) : Int))) = some (.slice k o (len + 1) (len + 1)) := by
 simp only [sliceE,sliceK,unK_E,hu,th_some,bndK_E,bndE,asIE,szK_E,hz,fN_eq,idx_nat (len + 1) (len + 1 + 1) (by omega)]
 rw [show Nat.beq (len + 1) 0 = false from rfl]
 simp
theorem sl_nil_full {t e n : Nat} (hu : P.underlying t = some (.slice e)) (hz : szE P e = some n) {q : IntKind} : sliceE P t .nilslice none (some (.int q 0)) (some (.int q 0)) = some .nilslice := by
 simp only [sliceE,sliceK,unK_E,hu,th_some,bndK_E,bndE,asIE,szK_E,hz,fN_eq]
 rfl
theorem app_fullD {T e s k n kx ox c ex ext : Nat} {ie : TypeInfo} {zv : Value} (E : Elem P T e s ie zv) {old junk : List AV} {ro1 : Bool} (hk : h.get k = some (.cells (old ++ junk) ext ro1)) (ho : old.length = (n + 1) * (s + 1)) (hn : n + 1 < 4095) {cs nw : List AV} {ro : Bool} (hg : h.get kx = some (.cells cs ex ro)) (hc : cutE ox (s + 1) cs = some nw) (hl : nw.length = s + 1) (hs : allSc nw = true) :
  appE P T (.slice k 0 (n + 1) (n + 1)) (.slice kx ox 1 c) h = some (.eslice h.next 0 0 (n + 1 + 1),h.new (.cells (old ++ nw) (s + 1) false)) := by
 have hsm := small_ok E.small (show n + 1 + 1 < 4096 by omega)
 have hco : cutE 0 ((n + 1) * (s + 1)) (old ++ junk) = some old := by
  rw [cutE_of (by rw [List.length_append,ho]; omega),List.drop_zero,<- ho,List.take_left]
 have eb : Nat.ble (n + 1 + 1) (n + 1) = false := by rw [Bool.eq_false_iff]; intro hh; have := Nat.le_of_ble_eq_true hh; omega
 have e0 : (n + 1) * (s + 1) = ((n + 1) * s + n) + 1 := by rw [Nat.mul_add]; omega
 simp only [appE,appendK,unK_E,E.sl,th_some,E.info,E.zero,E.zsz,E.size,lenA,fN_eq,hsm,firstK,Nat.one_mul,hgetK_eq,hg,lcut_th,hc,llen_eq,Nat.zero_add,hl,Nat.beq_refl,lsc_eq,hs,eb]
 rw [e0] at hco ⊢
 simp only [hgetK_eq,hk,lcut_th,hco,th_some,growK,lapp_eq,newK_E,p2]
end Go.Aw
namespace Go.Proofs.Ytfjcfjfgamajkaa
open Go Go.Ai Go.Aw Go.Proofs
open Nat renaming reduceBEq -> uB,reduceEqDiff -> uE,reduceLT -> uL,reduceAdd -> uA,reduceMul -> uM,reduceSub -> uS,reduceAnd -> uN,reduceXor -> uX,reduceOr -> uO
open Int renaming reduceMod -> vR,reduceDiv -> vD,reduceLT -> vL,reduceLE -> vK,reduceEq -> vE,reduceAdd -> vA,reduceMul -> vM,reduceToNat -> vT,reduceSub -> vS
set_option linter.unusedSimpArgs false
set_option linter.unusedVariables false
set_option maxRecDepth 10000
theorem app162 {i : Int} {s : List Nat} (hs : s.length = 64) {h : Heap} {lgv : AV} {L k : Nat} {l : List (Int × List Nat)} (hl : ∀ x ∈ l,x.2.length = 64) (hn : l.length < 4000) (hL : LogIs h lgv L l) (hk : h.get k = some (.cells (wrC i s) 0 false)) :
  ∃ h',appE Try.prog 162 lgv (.slice k 0 1 1) h = some (.eslice h.next 0 0 (l.length + 1),h') /\ h'.next = h.next + 1 /\ h'.get h.next = some (.cells (logC (l ++ [(i,s)])) 65 false) /\ ∀ j,j < h.next -> (lgv = .nilslice \/ j ≠ L) -> h'.get j = h.get j := by
 have e : logC (l ++ [(i,s)]) = logC l ++ wrC i s := by simp [logC]
 rcases hL with ⟨rfl,rfl⟩ | ⟨rfl,hg,hLn⟩
 ·refine ⟨_,app_nil el162 hk (wrC_cut i s hs) (wrC_len i s hs) (wrC_sc i s),by simp, ?_,fun j hj _ => ?_⟩
  ·rw [e]; simp (disch := omega) only [TH.down,uA,uB]; rfl
  ·simp (disch := omega) only [TH.down,uA,uB]
 ·refine ⟨_,app_es el162 hg (logC_len hl) (by omega) hk (wrC_cut i s hs) (wrC_len i s hs) (wrC_sc i s),by simp (disch := omega) only [TH.down,uA,uB], ?_,fun j hj hj2 => ?_⟩
  ·rw [e]; simp (disch := first | omega | (simp only [SD.down,uA,uL] <;> omega) | fail) only [TQ.down,resE,oneV, ↓reduceIte,reduceCtorEq,uB,uE,uL,uA,uM,uS,vL,vK,vE,vA,vS]
  ·have : j ≠ L := hj2.resolve_left (by simp)
   simp (disch := first | omega | (simp only [SD.down,uA,uL] <;> omega) | fail) only [TQ.down,resE,oneV, ↓reduceIte,reduceCtorEq,uB,uE,uL,uA,uM,uS,vL,vK,vE,vA,vS]
theorem r_back (d : Nat) (h : Heap) (c : Col) (km m N : Nat) (R : RS) (I : RefM h c km m R) (w : R.wf N) (hk : km ≠ 0) (n : Int) :
  G (callD env (d + 3) 132 [.ptr m 0, .int .i64 n] h) fun v h' => (∃ e,v = .int .i64 e) /\ RefM h' (pnt c h.next 0) km m (R.back n) /\ Fr (· = km) c h h' := by
 refine G.gen fun Q hX => ?_
 have I0 := I
 obtain ⟨dv,lv,mv,l1,c1,g1,x1,x2,x3⟩ := I
 unfold refG at g1
 have same : R.back n = R -> G (some (.int .i64 2,h)) Q := fun e => by
  subst hX
  rw [e]
  exact G.ok ⟨⟨_,rfl⟩,I0.kp (.refl h), .refl _ _ _⟩
 by_cases h0 : n < 0
 ·have d0 : decide (n < 0) = true := decide_eq_true h0
  rw [callD_run (E := env) [] (by kernel_rfl) Try.func132 rfl (by rw [Try.ntmps132]; simp) (by kernel_rfl)]; simp (disch := first | omega | (simp only [SD.down,uA,uL] <;> omega) | fail) only [Try.ntmps132,Try.results132,env_P,env_L,g1,d0,TQ.down,resE,oneV, ↓reduceIte,reduceCtorEq,uB,uE,uL,uA,uM,uS,vL,vK,vE,vA,vS]
  exact same (if_pos h0)
 have d0 : decide (n < 0) = false := decide_eq_false h0
 obtain ⟨i,rfl⟩ : ∃ i : Nat,n = (i : Int) := ⟨n.toNat,by omega⟩
 have hml := x3.len
 have hmo := x3.ok
 by_cases h1 : R.marks.length <= i
 ·have d1 : decide ((R.marks.length : Int) <= (i : Int)) = true := decide_eq_true (by omega)
  rw [callD_run (E := env) [] (by kernel_rfl) Try.func132 rfl (by rw [Try.ntmps132]; simp) (by kernel_rfl)]; simp (disch := first | omega | (simp only [SD.down,uA,uL] <;> omega) | fail) only [Try.ntmps132,Try.results132,env_P,env_L,g1,d0,d1,hml,lncM,lnoM,hmo.1,hmo.2,TQ.down,resE,oneV, ↓reduceIte,reduceCtorEq,uB,uE,uL,uA,uM,uS,vL,vK,vE,vA,vS]
  refine same ?_
  unfold RS.back
  rw [if_neg h0,Int.toNat_natCast,List.getElem?_eq_none h1]
 have d1 : decide ((R.marks.length : Int) <= (i : Int)) = false := decide_eq_false (by omega)
 have x30 := x3
 rcases x3 with ⟨y0,_⟩ | ⟨K,vs,y0,rfl,y1,y2,y3,y4,y5⟩
 ·rw [y0] at h1; simp at h1
 obtain ⟨l,hl⟩ : ∃ l,R.marks[i]? = some l := ⟨_,List.getElem?_eq_getElem (by omega)⟩
 obtain ⟨u,hu⟩ : ∃ u,vs[i]? = some u := ⟨_,List.getElem?_eq_getElem (by omega)⟩
 have e : R.back i = { R with dur := l,lg := [],hurt := true } := by
  unfold RS.back
  rw [if_neg h0,Int.toNat_natCast,hl]
 rw [e] at hX
 have xu := y5 i u l hu hl
 have uok := xu.rw.ok
 have ucl := xu.cl
 have hi : i < R.marks.length := by omega
 have h64 := w.mkl
 rw [callD_run (E := env) [] (by kernel_rfl) Try.func132 rfl (by rw [Try.ntmps132]; simp) (by kernel_rfl)]; simp (disch := first | omega | (simp only [SD.down,uA,uL] <;> omega) | fail) only [Try.ntmps132,Try.results132,env_P,env_L,g1,d0,d1,hml,lncM,lnoM,hmo.1,hmo.2,y3,hu,hi,uok.1,uok.2,ucl.1,ucl.2,TQ.down,resE,oneV, ↓reduceIte,reduceCtorEq,uB,uE,uL,uA,uM,uS,vL,vK,vE,vA,vS]
 subst hX
 exact G.ok ⟨⟨_,rfl⟩,RefM.put (R := R) (R' := { R with dur := l,lg := [],hurt := true }) (dv := dv) (lv := lv) (mv := .eslice K 0 0 R.marks.length) l1 c1 hk (.refl h) (by simp (disch := omega) only [TH.down,uA,uB]) (by simp (disch := omega) only [refG,TH.down,uA,uB]) (fun j hj jm => by simp (disch := omega) only [TH.down,uA,uB]) (xu.kp (.refl h)) (.inl ⟨rfl,rfl⟩) (x30.kp (.refl h))⟩
theorem el163 : Elem Try.prog 163 162 0 ((Try.prog.info? 162).getD default) ((((Try.prog.info? 162).getD default).zero).getD default) := ⟨Try.underlying163,by kernel_rfl,by kernel_rfl,by kernel_rfl,by kernel_rfl,by decide +kernel⟩
theorem ap163 (call : CallK) (ρ : Operand -> AV) (dd : Option Tmp) (t : TypeId) (p : String) (a : Array Edge) (g : Option (Nat × Bool)) (h : Heap) (s x : Operand) : opE Try.prog call ρ ⟨dd, .call ⟨.builtin .append,#[s,x],#[163,163]⟩,t,p,a,g⟩ h = th (okv (ρ s)) fun u => th (okv (ρ x)) fun v => appE Try.prog 163 u v h := opE_append Try.underlying163 s x
theorem bs163n (h : Heap) : bsE Try.prog 163 1 [(0, .nilslice)] h = some (.slice h.next 0 1 1,h.new (.cells [.nilslice] 0 false)) := bsE_of (fun K => by kernel_rfl) h
theorem bs163e (k o i n : Nat) (h : Heap) : bsE Try.prog 163 1 [(0, .eslice k o i n)] h = some (.slice h.next 0 1 1,h.new (.cells [.eslice k o i n] 0 false)) := bsE_of (fun K => by kernel_rfl) h
theorem szAt : szE Try.prog 162 = some 1 := by kernel_rfl
theorem app163 {h : Heap} {c c' : Col} (e0 : ∀ j,j < h.next -> c' j = c j) (e1 : c' h.next = 0) {mv u : AV} {q : Nat} {ls : List Img} {l : Img} (x : RMk h c 0 mv ls) (xu : RC h c 0 u l) (hn : ls.length < 64) (hq : h.get q = some (.cells [u] 0 false)) :
  ∃ sv,sliceE Try.prog 163 mv none (some (.int .i64 (ls.length : Int))) (some (.int .i64 (ls.length : Int))) = some sv /\ okv sv = some sv /\ AV.same sv sv = true /\ ∃ h',appE Try.prog 163 sv (.slice q 0 1 1) h = some (.eslice h.next 0 0 (ls.length + 1),h') /\ Keeps h h' /\ h'.next = h.next + 1 /\ RMk h' c' 0 (.eslice h.next 0 0 (ls.length + 1)) (ls ++ [l]) := by
 have kn : ∀ b,Keeps h (h.new b) := fun b => ⟨Nat.le_succ _,fun j hj => new_ne _ _ (by omega)⟩
 have ucl := xu.cl
 have usc : allSc [u] = true := by simp [allSc,ucl.2]
 rcases x with ⟨rfl,rfl⟩ | ⟨K,vs,y0,rfl,y1,y2,y3,y4,y5⟩
 ·refine ⟨.nilslice,sl_nil_full Try.underlying163 szAt,rfl,rfl,_,app_nil el163 hq (cut_all rfl) rfl usc,kn _,rfl, .inr ⟨h.next,[u],by simp,by simp,Nat.lt_succ_self _,e1,new_same _ _,rfl,fun i v l' hv hl => ?_⟩⟩
  cases i with
  | zero =>
   simp at hv hl
   subst hv hl
   exact xu.fr (K := fun _ => False) (.of (kn _)) id e0
  | succ i => simp at hv
 ·obtain ⟨n,hn1⟩ : ∃ n,ls.length = n + 1 := ⟨ls.length - 1,by have := List.length_pos_iff.2 y0; omega⟩
  have yk : h.get K = some (.cells (vs ++ []) 1 false) := by rw [List.append_nil]; exact y3
  rw [hn1] at hn ⊢
  refine ⟨.slice K 0 (n + 1) (n + 1),sl_es_full Try.underlying163 szAt K 0 0 n,rfl,same_slice ..,_,app_fullD el163 yk (by omega) (by omega) hq (cut_all rfl) rfl usc,kn _,rfl, .inr ⟨h.next,vs ++ [u],by simp,by simp [hn1],Nat.lt_succ_self _,e1,new_same _ _,by simp [y4],fun i v l' hv hl => ?_⟩⟩
  by_cases hi : i < vs.length
  ·rw [List.getElem?_append_left hi] at hv
   rw [List.getElem?_append_left (by omega)] at hl
   exact (y5 i v l' hv hl).fr (K := fun _ => False) (.of (kn _)) id e0
  ·rw [List.getElem?_append_right (by omega)] at hv hl
   rw [y4] at hv
   cases e : i - ls.length with
   | zero =>
    rw [e] at hv hl
    simp at hv hl
    subst hv hl
    exact xu.fr (K := fun _ => False) (.of (kn _)) id e0
   | succ n => rw [e] at hv; simp at hv
theorem slM {h : Heap} {c : Col} {mv : AV} {ls : List Img} (x : RMk h c 0 mv ls) : ∃ sv,sliceE Try.prog 163 mv none (some (.int .i64 (ls.length : Int))) (some (.int .i64 (ls.length : Int))) = some sv /\ okv sv = some sv /\ AV.same sv sv = true := by
 rcases x with ⟨rfl,rfl⟩ | ⟨K,vs,y0,rfl,y1,y2,y3,y4,y5⟩
 ·exact ⟨.nilslice,sl_nil_full Try.underlying163 szAt,rfl,rfl⟩
 ·obtain ⟨n,hn1⟩ : ∃ n,ls.length = n + 1 := ⟨ls.length - 1,by have := List.length_pos_iff.2 y0; omega⟩
  rw [hn1]
  exact ⟨.slice K 0 (n + 1) (n + 1),sl_es_full Try.underlying163 szAt K 0 0 n,rfl,same_slice ..⟩
theorem r_mark (d : Nat) (h : Heap) (c : Col) (km m N : Nat) (R : RS) (I : RefM h c km m R) (w : R.wf N) (hN : N < 3999) (hk : km ≠ 0) :
  G (callD env (d + 4) 131 [.ptr m 0] h) fun v h' => (∃ e f,v = .tup [.int .i64 e, .int .i64 f]) /\ RefM h' (pnt c h.next 0) km m R.mark /\ Fr (· = km) c h h' := by
 refine G.gen fun Q hX => ?_
 have I0 := I
 obtain ⟨dv,lv,mv,l1,c1,g1,x1,x2,x3⟩ := I
 unfold refG at g1
 have hml := x3.len
 have hmo := x3.ok
 have hmk := w.mkl
 by_cases h1 : 64 <= R.marks.length
 ·have d1 : decide ((64 : Int) <= (R.marks.length : Int)) = true := decide_eq_true (by omega)
  have e : R.mark = R := if_pos h1
  rw [callD_run (E := env) [(3, .fl [(4,0,2),(8,0,2),(13,0,2)])] (by kernel_rfl) Try.func131 rfl (by rw [Try.ntmps131]; simp) (by kernel_rfl)]; simp (disch := first | omega | (simp only [SD.down,uA,uL] <;> omega) | fail) only [Try.ntmps131,Try.results131,env_P,env_L,g1,d1,hml,lncM,lnoM,hmo.1,hmo.2,TQ.down,resE,oneV, ↓reduceIte,reduceCtorEq,uB,uE,uL,uA,uM,uS,vL,vK,vE,vA,vS]
  subst hX
  rw [e]
  exact G.ok ⟨⟨_,_,rfl⟩,I0.kp (.refl h), .refl _ _ _⟩
 have d1 : decide ((64 : Int) <= (R.marks.length : Int)) = false := decide_eq_false (by omega)
 have e : R.mark = { R with marks := R.marks ++ [R.dur ++ R.lg] } := if_neg h1
 rw [e] at hX
 have ok1 := x1.rw.ok
 have ok2 := x2.rw.ok
 obtain ⟨sv,es,eo,em⟩ := slM x3
 rw [callD_run (E := env) [(3, .fl [(4,0,2),(8,0,2),(13,0,2)])] (by kernel_rfl) Try.func131 rfl (by rw [Try.ntmps131]; simp) (by kernel_rfl)]; simp (disch := first | omega | (simp only [SD.down,uA,uL] <;> omega) | fail) only [Try.ntmps131,Try.results131,env_P,env_L,g1,d1,hml,lncM,lnoM,hmo.1,hmo.2,ok1.1,ok1.2,ok2.1,ok2.2,es,eo,em,TQ.down,resE,oneV, ↓reduceIte,reduceCtorEq,uB,uE,uL,uA,uM,uS,vL,vK,vE,vA,vS]
 have hsz := w.sz
 refine G.callC (joined_ok (d + 2) h dv lv R.dur R.lg (x1.rl w.dur) (x2.rl w.lg) w.dur w.lg (by omega)) ?_
 rintro v H ⟨kp,hv⟩
 have gH := (kp.2 m l1).trans g1
 have hvn := RC.new (c := c) kp.1 hv
 have vok := hvn.rw.ok
 have vcl := hvn.cl
 have hb : ∀ H : Heap,bsE Try.prog 163 1 [(0,v)] H = some (.slice H.next 0 1 1,H.new (.cells [v] 0 false)) := by
  intro H
  rcases hv with ⟨_,rfl⟩ | ⟨_,K,rfl,_⟩
  ·exact bs163n H
  ·exact bs163e _ _ _ _ H
 have kn : Keeps H (H.new (.cells [v] 0 false)) := ⟨Nat.le_succ _,fun j hj => new_ne _ _ (by omega)⟩
 have k2 := kp.trans kn
 have y3 := x3.kp k2
 have yv : RC (H.new (.cells [v] 0 false)) (pnt c h.next 0) 0 v (R.dur ++ R.lg) := hvn.fr (K := fun _ => False) (.of kn) id fun _ _ => rfl
 obtain ⟨sv',es',_,_,H3,ea,k3,n3,yr⟩ := app163 (c' := pnt c h.next 0) (fun _ _ => rfl) (pnt_ge (by have := kp.1; show h.next <= H.next + 1; omega)) y3 yv (by omega) (new_same _ _)
 rw [es] at es'
 cases es'
 have gH3 := (k3.2 m (by have := kp.1; simp (disch := omega) only [TH.down,uA,uB]; omega)).trans ((kn.2 m (by have := kp.1; omega)).trans gH)
 have en : (H.new (.cells [v] 0 false)).next = H.next + 1 := rfl
 rw [en] at ea yr n3
 have gHn := (kn.2 m (by have := kp.1; omega)).trans gH
 simp (disch := first | omega | (simp only [SD.down,uA,uL] <;> omega) | fail) only [hb,vok.1,vok.2,vcl.1,vcl.2,cls_append,ap163,ea,g1,gH,gHn,gH3,hml,eo,em,lncM,lnoM,lneM,es,hmo.1,hmo.2,TQ.down,resE,oneV, ↓reduceIte,reduceCtorEq,uB,uE,uL,uA,uM,uS,vL,vK,vE,vA,vS]
 subst hX
 have kf := k2.trans k3
 exact G.ok ⟨⟨_,_,rfl⟩,RefM.put (R := R) (R' := { R with marks := R.marks ++ [R.dur ++ R.lg] }) (dv := dv) (lv := lv) (mv := mv) (mv' := .eslice (H.next + 1) 0 0 (R.marks.length + 1)) l1 c1 hk kf (by simp (maxSteps := 2000000) (implicitDefEqProofs := false) (disch := first | omega | (simp only [SD.down,uA,uL] <;> omega) | fail) only [TQ.down,resE,oneV, ↓reduceIte,reduceCtorEq,uB,uE,uL,uA,uM,uS,uN,uX,uO,vR,vD,vL,vK,vE,vA,vM,vT,vS]) (by simp (maxSteps := 2000000) (implicitDefEqProofs := false) (disch := first | omega | (simp only [SD.down,uA,uL] <;> omega) | fail) only [refG,TQ.down,resE,oneV, ↓reduceIte,reduceCtorEq,uB,uE,uL,uA,uM,uS,uN,uX,uO,vR,vD,vL,vK,vE,vA,vM,vT,vS]) (fun j hj jm => by simp (maxSteps := 2000000) (implicitDefEqProofs := false) (disch := first | omega | (simp only [SD.down,uA,uL] <;> omega) | fail) only [TQ.down,resE,oneV, ↓reduceIte,reduceCtorEq,uB,uE,uL,uA,uM,uS,uN,uX,uO,vR,vD,vL,vK,vE,vA,vM,vT,vS]) (x1.kp kf) (x2.kp kf) yr⟩
theorem r_set (d : Nat) (h : Heap) (c : Col) (km m N : Nat) (R : RS) (I : RefM h c km m R) (w : R.wf N) (hN : N < 3999) (hk : km ≠ 0) (i : Int) (s : List Nat) (hs : s.length = 64) :
  G (callD env (d + 4) 130 [.ptr m 0, .int .i64 i, .agg (B s)] h) fun v h' => (∃ e,v = .int .i64 e) /\ RefM h' (pnt c h.next 0) km m (R.set i s) /\ Fr (· = km) c h h' := by
 refine G.gen fun Q hX => ?_
 have I0 := I
 obtain ⟨dv,lv,mv,l1,c1,g1,x1,x2,x3⟩ := I
 unfold refG at g1
 have hzl := zz_len
 have same : ∀ e : Int,R.set i s = R -> ∀ H,Keeps h H -> G (some (.int .i64 e,H)) Q := fun e he H kp => by
  subst hX
  rw [he]
  exact G.ok ⟨⟨_,rfl⟩,I0.kp kp, .of kp⟩
 by_cases h0 : i < 0
 ·have d0 : decide (0 <= i) = false := decide_eq_false (by omega)
  rw [callD_run (E := env) [(10, .fl [(4,0,1)])] (by kernel_rfl) Try.func130 rfl (by rw [Try.ntmps130]; simp) (by kernel_rfl)]; simp (disch := first | omega | (simp only [SD.down,uA,uL] <;> omega) | fail) only [Try.ntmps130,Try.results130,env_P,env_L,g1,in109,Try.f109,d0,bz25,zz_fold,hzl,hs,cutB_all,over_B,TQ.down,resE,oneV, ↓reduceIte,reduceCtorEq,uB,uE,uL,uA,uM,uS,vL,vK,vE,vA,vS]
  exact same 2 (by unfold RS.set; rw [mIO_lo h0]; rfl) _ ⟨by simp (disch := omega) only [TH.down,uA,uB]; omega,fun j hj => by simp (disch := omega) only [TH.down,uA,uB]⟩
 have d0 : decide (0 <= i) = true := decide_eq_true (by omega)
 by_cases h1 : (R.n : Int) <= i
 ·have d1 : decide (i < (R.n : Int)) = false := decide_eq_false (by omega)
  rw [callD_run (E := env) [(10, .fl [(4,0,1)])] (by kernel_rfl) Try.func130 rfl (by rw [Try.ntmps130]; simp) (by kernel_rfl)]; simp (disch := first | omega | (simp only [SD.down,uA,uL] <;> omega) | fail) only [Try.ntmps130,Try.results130,env_P,env_L,g1,in109,Try.f109,d0,d1,bz25,zz_fold,hzl,hs,cutB_all,over_B,TQ.down,resE,oneV, ↓reduceIte,reduceCtorEq,uB,uE,uL,uA,uM,uS,vL,vK,vE,vA,vS]
  exact same 2 (by unfold RS.set; rw [mIO_hi h1]; rfl) _ ⟨by simp (disch := omega) only [TH.down,uA,uB]; omega,fun j hj => by simp (disch := omega) only [TH.down,uA,uB]⟩
 have d1 : decide (i < (R.n : Int)) = true := decide_eq_true (by omega)
 have e : R.set i s = { R with lg := R.lg.filter fun x => decide (x.1 ≠ i),dur := R.dur ++ [(i,s)],hurt := true } := by unfold RS.set; rw [mIO_in h0 h1]; rfl
 rw [e] at hX
 have ok1 := x1.rw.ok
 have ok2 := x2.rw.ok
 have len2 := x2.rw.len
 rw [callD_run (E := env) [(10, .fl [(4,0,1)])] (by kernel_rfl) Try.func130 rfl (by rw [Try.ntmps130]; simp) (by kernel_rfl)]; simp (disch := first | omega | (simp only [SD.down,uA,uL] <;> omega) | fail) only [Try.ntmps130,Try.results130,env_P,env_L,g1,in109,Try.f109,d0,d1,bz25,zz_fold,hzl,hs,cutB_all,over_B,ok1.1,ok1.2,ok2.1,ok2.2,len2,lncR,lnoR,wr_over i zz s hzl hs,bs162 i s hs,TQ.down,resE,oneV, ↓reduceIte,reduceCtorEq,uB,uE,uL,uA,uM,uS,vL,vK,vE,vA,vS]
 have hwr := w.lg
 have hsz := w.sz
 have kb : Keeps h (h.new (Blk.cells (B s) 0 false)) := ⟨by simp (disch := omega) only [TH.down,uA,uB]; omega,fun j hj => by simp (disch := omega) only [TH.down,uA,uB]⟩
 have gb : (h.new (Blk.cells (B s) 0 false)).get h.next = some (.cells (B s) 0 false) := by simp (disch := omega) only [TH.down,uA,uB]
 have bn : (h.new (Blk.cells (B s) 0 false)).next = h.next + 1 := by simp (disch := omega) only [TH.down,uA,uB]
 generalize (h.new (Blk.cells (B s) 0 false)) = H0 at kb gb bn ⊢
 rw [run_loop]
 refine loop_ind (fun j σ hh => ∃ q lv' L,q + j = R.lg.length /\ σ 0 = .ptr m 0 /\ σ 1 = .int .i64 i /\ σ 5 = .ptr h.next 0 /\ σ 7 = lv' /\ σ 8 = .int .i64 (q : Int) /\ LogIs hh lv' L ((R.lg.take q).filter fun x => decide (x.1 ≠ i)) /\ H0.next <= L /\ Keeps H0 hh /\ (lv' = .nilslice \/ ((R.lg.take q).filter fun x => decide (x.1 ≠ i)) ≠ [])) ?_ ?_ R.lg.length _ _ _ (by simp; omega) ?_
 ·rintro mm σ hh ⟨q,lv',L,hq,s0,s1,s5,s7,s8,hL,hL0,kh,hne⟩
  obtain rfl : q = R.lg.length := by omega
  rw [List.take_of_length_le (Nat.le_refl _)] at hL hne
  have gm := ((kb.trans kh).2 m l1).trans g1
  have lok : okv lv' = some lv' /\ AV.same lv' lv' = true /\ lv'.cells = [lv'] /\ isSc lv' = true := by
   rcases hL with ⟨_,rfl⟩ | ⟨rfl,_⟩
   ·exact ⟨rfl,rfl,rfl,rfl⟩
   ·exact ⟨rfl,same_eslice ..,rfl,rfl⟩
  have gbh := (kh.2 h.next (by omega)).trans gb
  simp (disch := first | omega | (simp only [SD.down,uA,uL] <;> omega) | fail) only [run_it,s0,s1,s5,s7,s8,gm,gbh,hzl,hs,zz_fold,cutB_all,over_B,lok.1,lok.2.1,lok.2.2.1,lok.2.2.2,ok1.1,ok1.2,ok2.1,ok2.2,len2,lncR,lnoR,wr_over i zz s hzl hs,bs162 i s hs,env_P,env_L,TQ.down,resE,oneV, ↓reduceIte,reduceCtorEq,uB,uE,uL,uA,uM,uS,vL,vK,vE,vA,vS]
  have kn := kh.1
  have gm' : (hh.put m (some (Blk.cells [AV.int IntKind.i64 ↑R.n,dv,lv',mv,AV.bool R.fails,AV.bool R.hurt] 0 false))).get m = some (Blk.cells [AV.int IntKind.i64 ↑R.n,dv,lv',mv,AV.bool R.fails,AV.bool R.hurt] 0 false) := by simp (disch := omega) only [TH.down,uA,uB]
  have k1 : ∀ j,j < hh.next -> j ≠ m -> ((hh.put m (some (Blk.cells [AV.int IntKind.i64 ↑R.n,dv,lv',mv,AV.bool R.fails,AV.bool R.hurt] 0 false))).new (Blk.cells (wrC i s) 0 false)).get j = hh.get j := fun j hj jm => by simp (disch := first | omega | (simp only [SD.down,uA,uL] <;> omega) | fail) only [TQ.down,resE,oneV, ↓reduceIte,reduceCtorEq,uB,uE,uL,uA,uM,uS,vL,vK,vE,vA,vS]
  have gm1 : ((hh.put m (some (Blk.cells [AV.int IntKind.i64 ↑R.n,dv,lv',mv,AV.bool R.fails,AV.bool R.hurt] 0 false))).new (Blk.cells (wrC i s) 0 false)).get m = some (Blk.cells [AV.int IntKind.i64 ↑R.n,dv,lv',mv,AV.bool R.fails,AV.bool R.hurt] 0 false) := by simp (disch := first | omega | (simp only [SD.down,uA,uL] <;> omega) | fail) only [TQ.down,resE,oneV, ↓reduceIte,reduceCtorEq,uB,uE,uL,uA,uM,uS,vL,vK,vE,vA,vS]
  have gw1 : ((hh.put m (some (Blk.cells [AV.int IntKind.i64 ↑R.n,dv,lv',mv,AV.bool R.fails,AV.bool R.hurt] 0 false))).new (Blk.cells (wrC i s) 0 false)).get hh.next = some (Blk.cells (wrC i s) 0 false) := by simp (disch := first | omega | (simp only [SD.down,uA,uL] <;> omega) | fail) only [TQ.down,resE,oneV, ↓reduceIte,reduceCtorEq,uB,uE,uL,uA,uM,uS,vL,vK,vE,vA,vS]
  have n1 : ((hh.put m (some (Blk.cells [AV.int IntKind.i64 ↑R.n,dv,lv',mv,AV.bool R.fails,AV.bool R.hurt] 0 false))).new (Blk.cells (wrC i s) 0 false)).next = hh.next + 1 := by simp (disch := omega) only [TH.down,uA,uB]
  generalize ((hh.put m (some (Blk.cells [AV.int IntKind.i64 ↑R.n,dv,lv',mv,AV.bool R.fails,AV.bool R.hurt] 0 false))).new (Blk.cells (wrC i s) 0 false)) = H1 at k1 gm1 gw1 n1 ⊢
  have fr1 : Fr (· = km) c h H1 := ⟨by omega,fun j hj hq => (k1 j (by omega) fun e => hq (e ▸ c1)).trans ((kb.trans kh).2 j hj)⟩
  have y1 := x1.fr (c' := pnt c h.next 0) fr1 (Ne.symm hk) pnt_o
  refine G.callC (joined_one (d + 2) H1 dv R.dur hh.next i s (y1.rl w.dur) w.dur hs (by omega) gw1 (by omega)) ?_
  rintro v H2 ⟨k2,K,rfl,q1,q2,q3⟩
  have gm2 := (k2.2 m (by omega)).trans gm1
  simp (disch := first | omega | (simp only [SD.down,uA,uL] <;> omega) | fail) only [s0,s1,s5,gm,gm',gm1,gm2,ok1.1,ok1.2,lok.1,lok.2.1,lok.2.2.1,lok.2.2.2,env_P,env_L,TQ.down,resE,oneV, ↓reduceIte,reduceCtorEq,uB,uE,uL,uA,uM,uS,vL,vK,vE,vA,vS]
  subst hX
  have k2n := k2.1
  have fin : ∀ H3 : Heap,H3.next = H2.next -> H3.get m = some (Blk.cells [AV.int IntKind.i64 ↑R.n,AV.eslice K 0 0 (List.length (R.dur ++ [(i,s)])),lv',mv,AV.bool R.fails,AV.bool true] 0 false) -> (∀ j,j < H2.next -> j ≠ m -> H3.get j = H2.get j) -> G (some (.int .i64 0,H3)) fun v h' => (∃ e,v = .int .i64 e) /\ RefM h' (pnt c h.next 0) km m { R with lg := R.lg.filter fun x => decide (x.1 ≠ i),dur := R.dur ++ [(i,s)],hurt := true } /\ Fr (· = km) c h h' := by
   intro H3 hn hg hf
   have fr2 : Fr (· = km) c h H3 := ⟨by omega,fun j hj hq => ((hf j (by omega) fun e => hq (e ▸ c1)).trans (k2.2 j (by omega))).trans (fr1.get j hj hq)⟩
   refine G.ok ⟨⟨_,rfl⟩,⟨_,lv',mv,by omega,(pnt_lt l1).trans c1,hg, .inr ⟨K,[],by simp,rfl,by omega,pnt_ge (by omega),by rw [hf K (by omega) (by omega),q3,List.append_nil]⟩, ?_,x3.fr fr2 (Ne.symm hk) pnt_o⟩,fr2⟩
   rcases hL with ⟨y,rfl⟩ | ⟨rfl,y1,y2⟩
   ·exact .inl ⟨y,rfl⟩
   ·refine .inr ⟨L,[],hne.resolve_left (by simp),rfl,by omega,pnt_ge (by omega), ?_⟩
    rw [List.append_nil,hf L (by omega) (by omega),k2.2 L (by omega),k1 L y2 (by omega)]
    exact y1
  exact fin _ (by simp (disch := omega) only [TH.down,uA,uB]) (by simp (disch := omega) only [TH.down,uA,uB]) (fun j hj jm => by simp (disch := omega) only [TH.down,uA,uB])
 ·rintro j mm σ hh ⟨q,lv',L,hq,s0,s1,s5,s7,s8,hL,hL0,kh,hne⟩ ih
  have gm := ((kb.trans kh).2 m l1).trans g1
  have hql : q < R.lg.length := by omega
  have dq : decide ((q : Int) < (R.lg.length : Int)) = true := decide_eq_true (by omega)
  rcases x2 with ⟨z0,_⟩ | ⟨K,junk,z0,rfl,z1,z2,z3⟩
  ·rw [z0] at hql; simp at hql
  have gK := ((kb.trans kh).2 K z1).trans z3
  obtain ⟨x,hx⟩ : ∃ x,R.lg[q]? = some x := ⟨_,List.getElem?_eq_getElem hql⟩
  have hcut := logC_cutj w.lg junk hx
  have hxl := w.lg x (List.mem_of_getElem? hx)
  have c0 : (logC R.lg ++ junk)[q * 65]? = some (.int .i64 x.1) := by
   have hle := cutE_len hcut
   rw [cutE_of hle] at hcut
   have this := Option.some.inj hcut
   have h0 := congrArg (fun z => z[0]?) this
   simp only [List.getElem?_take_of_lt (show 0 < 65 by omega),List.getElem?_drop,Nat.add_zero] at h0
   exact h0
  have et : (R.lg.take (q + 1)).filter (fun x => decide (x.1 ≠ i)) = (R.lg.take q).filter (fun x => decide (x.1 ≠ i)) ++ (if x.1 = i then [] else [x]) := by
   rw [List.take_add_one,hx,List.filter_append]
   by_cases e : x.1 = i <;> simp [e]
  have lok : okv lv' = some lv' /\ AV.same lv' lv' = true /\ lv'.cells = [lv'] /\ isSc lv' = true := by
   rcases hL with ⟨_,rfl⟩ | ⟨rfl,_⟩
   ·exact ⟨rfl,rfl,rfl,rfl⟩
   ·exact ⟨rfl,same_eslice ..,rfl,rfl⟩
  by_cases hxi : x.1 = i
  ·have di : decide (x.1 = i) = true := decide_eq_true hxi
   rw [if_pos hxi,List.append_nil] at et
   simp (disch := first | omega | (simp only [SD.down,uA,uL] <;> omega) | fail) only [run_it,s0,s1,s5,s7,s8,gm,ok2.1,ok2.2,len2,lncR,lnoR,dq,gK,c0,di,env_P,env_L,TQ.down,resE,oneV, ↓reduceIte,reduceCtorEq,uB,uE,uL,uA,uM,uS,vL,vK,vE,vA,vS]
   exact ih _ _ ⟨q + 1,lv',L,by omega,by simp (disch := omega) only [s0,TH.down,uA,uB],by simp (disch := omega) only [s1,TH.down,uA,uB],by simp (disch := omega) only [s5,TH.down,uA,uB],by simp (disch := omega) only [s7,TH.down,uA,uB],by simp (disch := omega) only [TH.down,uA,uB],by rw [et]; exact hL,hL0,kh,by rw [et]; exact hne⟩
  ·have di : decide (x.1 = i) = false := decide_eq_false hxi
   rw [if_neg hxi] at et
   have kw : Keeps hh (hh.new (.cells (wrC x.1 x.2) 0 false)) := ⟨Nat.le_succ _,fun j hj => new_ne _ _ (by omega)⟩
   have hLn : LogIs (hh.new (.cells (wrC x.1 x.2) 0 false)) lv' L ((R.lg.take q).filter fun x => decide (x.1 ≠ i)) := by
    rcases hL with y | ⟨rfl,y1,y2⟩
    ·exact .inl y
    ·exact .inr ⟨rfl,(kw.2 L y2).trans y1,Nat.lt_succ_of_lt y2⟩
   obtain ⟨h3,ea,n3,g3,f3⟩ := app162 hxl (fun y hy => w.lg y (List.mem_of_mem_take (List.mem_filter.1 hy).1)) (by have := List.length_filter_le (fun x : Int × List Nat => decide (x.1 ≠ i)) (R.lg.take q); rw [List.length_take] at this; omega) hLn (new_same _ _)
   have en : (hh.new (.cells (wrC x.1 x.2) 0 false)).next = hh.next + 1 := rfl
   rw [en] at ea g3 n3
   simp (disch := first | omega | (simp only [SD.down,uA,uL] <;> omega) | fail) only [run_it,s0,s1,s5,s7,s8,gm,ok2.1,ok2.2,len2,lncR,lnoR,dq,gK,c0,di,hcut,bs162 x.1 x.2 hxl,cls_append,ap162,ea,lok.1,env_P,env_L,TQ.down,resE,oneV, ↓reduceIte,reduceCtorEq,uB,uE,uL,uA,uM,uS,vL,vK,vE,vA,vS]
   refine ih _ _ ⟨q + 1, .eslice (hh.next + 1) 0 0 (((R.lg.take q).filter fun x => decide (x.1 ≠ i)).length + 1),hh.next + 1,by omega,by simp (disch := omega) only [s0,TH.down,uA,uB],by simp (disch := omega) only [s1,TH.down,uA,uB],by simp (disch := omega) only [s5,TH.down,uA,uB],by simp (disch := omega) only [TH.down,uA,uB],by simp (disch := omega) only [TH.down,uA,uB], ?_,by have := kh.1; omega, ?_, .inr (by rw [et]; simp)⟩
   ·rw [et]
    exact .inr ⟨by rw [List.length_append]; rfl,g3,by omega⟩
   ·refine ⟨by have := kh.1; omega,fun j hj => ?_⟩
    have := kh.1
    rw [f3 j (by simp (disch := omega) only [TH.down,uA,uB]; omega) (.inr (by omega)),kw.2 j (by omega)]
    exact kh.2 j hj
 ·exact ⟨0, .nilslice,H0.next,by omega,by simp (disch := omega) only [TQ.down,resE,oneV, ↓reduceIte,reduceCtorEq,uB,uE,uL,uA,uM,vE],by simp (disch := omega) only [TQ.down,resE,oneV, ↓reduceIte,reduceCtorEq,uB,uE,uL,uA,uM,vE],by simp (disch := omega) only [TQ.down,resE,oneV, ↓reduceIte,reduceCtorEq,uB,uE,uL,uA,uM,vE],by simp (disch := omega) only [TQ.down,resE,oneV, ↓reduceIte,reduceCtorEq,uB,uE,uL,uA,uM,vE],by simp (disch := first | omega | (simp only [SD.down,uA,uL] <;> omega) | fail) only [TQ.down,resE,oneV, ↓reduceIte,reduceCtorEq,uB,uE,uL,uA,uM,uS,vL,vK,vE,vA,vS], .inl ⟨rfl,rfl⟩,Nat.le_refl _, .refl _, .inl rfl⟩
end Go.Proofs.Ytfjcfjfgamajkaa
namespace Go.Aw
open Go Go.Ai
theorem sl_es_one {P : Program} {t e n : Nat} (hu : P.underlying t = some (.slice e)) (hz : szE P e = some n) (k len : Nat) {q : IntKind} (x : Nat) (hx : x < len) : sliceE P t (.eslice k 0 0 len) (some (.int q (x : Int))) (some (.int q ((x + 1 : Nat) : Int))) none = some (.eslice k (x * n) x 1) := by
 simp only [sliceE,sliceK,unK_E,hu,th_some,bndK_E,bndE,asIE,szK_E,hz,fN_eq,idx_nat (x + 1) (len + 1) (by omega),idx_nat x (x + 1 + 1) (by omega)]
 cases x with
 | zero => simp
 | succ x =>
  have : Nat.blt (x + 1) len = true := by rw [Nat.blt_eq]; omega
  simp only [this]
  simp
end Go.Aw
namespace Go.Proofs.Ytfjcfjfgamajkaa
open Go Go.Ai Go.Aw Go.Proofs
open Nat renaming reduceBEq -> uB,reduceEqDiff -> uE,reduceLT -> uL,reduceAdd -> uA,reduceMul -> uM,reduceSub -> uS,reduceAnd -> uN,reduceXor -> uX,reduceOr -> uO
open Int renaming reduceMod -> vR,reduceDiv -> vD,reduceLT -> vL,reduceLE -> vK,reduceEq -> vE,reduceAdd -> vA,reduceMul -> vM,reduceToNat -> vT,reduceSub -> vS
set_option linter.unusedSimpArgs false
set_option linter.unusedVariables false
set_option maxRecDepth 10000
def OwnI (h : Heap) (c : Col) (km : Nat) (v : AV) (p : List Nat) : Prop := (p = [] /\ v = .nilslice) \/ ∃ K junk,v = .eslice K 0 0 p.length /\ K < h.next /\ c K ≠ km /\ h.get K = some (.cells (B p ++ junk) 1 false)
theorem OwnI.ok {h : Heap} {c : Col} {km : Nat} {v : AV} {p : List Nat} (x : OwnI h c km v p) : okv v = some v /\ AV.same v v = true /\ lenE Try.prog 40 v = some (.int .i64 (p.length : Int)) := by
 rcases x with ⟨rfl,rfl⟩ | ⟨K,junk,rfl,_⟩
 ·exact ⟨rfl,rfl,lnn40⟩
 ·exact ⟨rfl,same_eslice ..,lne40 ..⟩
theorem kept_take (p : List Nat) (l : Img) (q : Nat) (x : Int × List Nat) (b : Nat) (hx : l[q]? = some x) (hb : p[q]? = some b) : kept (p.take (q + 1)) (l.take (q + 1)) = kept (p.take q) (l.take q) ++ (if b % 256 = 0 then [] else [x]) := by
 have hl : q < l.length := (List.getElem?_eq_some_iff.1 hx).1
 have hp : q < p.length := (List.getElem?_eq_some_iff.1 hb).1
 unfold kept
 rw [List.take_add_one,List.take_add_one,hx,hb,List.zip_append (by rw [List.length_take,List.length_take]; omega),List.filterMap_append]
 congr 1
 by_cases e : b % 256 = 0 <;> simp [e]
theorem zip_takes : ∀ (l : Img) (p : List Nat) (q : Nat),(l.length <= q \/ p.length <= q) -> (l.take q).zip (p.take q) = l.zip p
 | [],p,q,_ => by simp
 | x :: l,[],q,_ => by simp
 | x :: l,y :: p,0,h => by simp at h
 | x :: l,y :: p,q + 1,h => by
  rw [List.take_succ_cons,List.take_succ_cons,List.zip_cons_cons,List.zip_cons_cons,zip_takes l p q (by simp at h; omega)]
theorem kept_all (p : List Nat) (l : Img) (q : Nat) (h : l.length <= q \/ p.length <= q) : kept (p.take q) (l.take q) = kept p l := by
 unfold kept
 rw [zip_takes l p q h]
theorem kept_ok {p : List Nat} {l : Img} (h : Img.ok l) : Img.ok (kept p l) := by
 intro x hx
 unfold kept at hx
 rw [List.mem_filterMap] at hx
 obtain ⟨y,hy,e⟩ := hx
 split at e
 ·cases e
 ·cases e
  exact h _ (List.of_mem_zip hy).1
theorem kept_len (p : List Nat) (l : Img) : (kept p l).length <= l.length := by
 unfold kept
 refine Nat.le_trans (List.length_filterMap_le ..) ?_
 rw [List.length_zip]
 omega
theorem r_crash (d : Nat) (h : Heap) (c : Col) (km m N : Nat) (R : RS) (I : RefM h c km m R) (w : R.wf N) (hN : N < 3999) (hk : km ≠ 0) (pv : AV) (p : List Nat) (xp : OwnI h c km pv p) (hpl : p.length < 4000) :
  G (callD env (d + 4) 147 [.ptr m 0,pv] h) fun v h' => v = .tup [] /\ RefM h' (pnt c h.next 0) km m (R.crash p) /\ Fr (· = km) c h h' := by
 refine G.gen fun Q hX => ?_
 have I0 := I
 obtain ⟨dv,lv,mv,l1,c1,g1,x1,x2,x3⟩ := I
 unfold refG at g1
 have ok2 := x2.rw.ok
 have len2 := x2.rw.len
 have okp := xp.ok
 have hsz := w.sz
 rw [callD_run (E := env) [] (by kernel_rfl) Try.func147 rfl (by rw [Try.ntmps147]; simp) (by kernel_rfl)]; simp (disch := first | omega | (simp only [SD.down,uA,uL] <;> omega) | fail) only [Try.ntmps147,Try.results147,env_P,env_L,g1,ok2.1,ok2.2,len2,lncR,lnoR,okp.1,okp.2.1,okp.2.2,TQ.down,resE,oneV, ↓reduceIte,reduceCtorEq,uB,uE,uL,uA,uM,uS,vL,vK,vE,vA,vS]
 rw [run_loop]
 refine loop_ind (fun j σ hh => ∃ q dv',q + j = R.lg.length /\ q <= p.length /\ σ 0 = .ptr m 0 /\ σ 1 = pv /\ σ 4 = .int .i64 (q : Int) /\ hh.get m = some (.cells (refG R.n dv' lv mv R.fails R.hurt) 0 false) /\ RC hh (pnt c h.next 0) 0 dv' (R.dur ++ kept (p.take q) (R.lg.take q)) /\ Fr (· = km) c h hh) ?_ ?_ R.lg.length _ _ _ (by simp; omega) ?_
 ·rintro mm σ hh ⟨q,dv',hq,hqp,s0,s1,s2,gm,xd,fr⟩
  unfold refG at gm
  have dq : decide ((q : Int) < (R.lg.length : Int)) = false := decide_eq_false (by omega)
  simp (disch := first | omega | (simp only [SD.down,uA,uL] <;> omega) | fail) only [run_it,s0,s1,s2,gm,ok2.1,ok2.2,len2,lncR,lnoR,dq,okp.1,okp.2.1,okp.2.2,env_P,env_L,TQ.down,resE,oneV, ↓reduceIte,reduceCtorEq,uB,uE,uL,uA,uM,uS,vL,vK,vE,vA,vS]
  subst hX
  have fr2 : Fr (· = km) (pnt c h.next 0) hh (hh.put m (some (Blk.cells [AV.int IntKind.i64 ↑R.n,dv',AV.nilslice,mv,AV.bool R.fails,AV.bool R.hurt] 0 false))) := ⟨by simp (disch := omega) only [TH.down,uA,uB]; omega,fun j hj hq => by
   have : j ≠ m := fun e => hq (by rw [e,pnt_lt l1]; exact c1)
   simp (disch := omega) only [TH.down,uA,uB]⟩
  have e : R.dur ++ kept (p.take q) (R.lg.take q) = (R.crash p).dur := by rw [kept_all p R.lg q (by omega)]; rfl
  have fr3 := fr.trans fr2 pnt_o
  refine G.ok ⟨rfl,⟨dv', .nilslice,mv,by simp (disch := omega) only [TH.down,uA,uB]; have := fr.le; omega,(pnt_lt l1).trans c1,by simp (disch := omega) only [refG,RS.crash,TH.down,uA,uB],by rw [<- e]; exact xd.fr fr2 (Ne.symm hk) fun _ _ => rfl, .inl ⟨rfl,rfl⟩,x3.fr fr3 (Ne.symm hk) pnt_o⟩,fr3⟩
 ·rintro j mm σ hh ⟨q,dv',hq,hqp,s0,s1,s2,gm,xd,fr⟩ ih
  unfold refG at gm
  have dq : decide ((q : Int) < (R.lg.length : Int)) = true := decide_eq_true (by omega)
  by_cases hp : p.length <= q
  ·have dp : decide ((q : Int) < (p.length : Int)) = false := decide_eq_false (by omega)
   simp (disch := first | omega | (simp only [SD.down,uA,uL] <;> omega) | fail) only [run_it,s0,s1,s2,gm,ok2.1,ok2.2,len2,lncR,lnoR,dq,dp,okp.1,okp.2.1,okp.2.2,env_P,env_L,TQ.down,resE,oneV, ↓reduceIte,reduceCtorEq,uB,uE,uL,uA,uM,uS,vL,vK,vE,vA,vS]
   subst hX
   have fr2 : Fr (· = km) (pnt c h.next 0) hh (hh.put m (some (Blk.cells [AV.int IntKind.i64 ↑R.n,dv',AV.nilslice,mv,AV.bool R.fails,AV.bool R.hurt] 0 false))) := ⟨by simp (disch := omega) only [TH.down,uA,uB]; omega,fun j hj hq => by
    have : j ≠ m := fun e => hq (by rw [e,pnt_lt l1]; exact c1)
    simp (disch := omega) only [TH.down,uA,uB]⟩
   have e : R.dur ++ kept (p.take q) (R.lg.take q) = (R.crash p).dur := by rw [kept_all p R.lg q (by omega)]; rfl
   have fr3 := fr.trans fr2 pnt_o
   refine G.ok ⟨rfl,⟨dv', .nilslice,mv,by simp (disch := omega) only [TH.down,uA,uB]; have := fr.le; omega,(pnt_lt l1).trans c1,by simp (disch := omega) only [refG,RS.crash,TH.down,uA,uB],by rw [<- e]; exact xd.fr fr2 (Ne.symm hk) fun _ _ => rfl, .inl ⟨rfl,rfl⟩,x3.fr fr3 (Ne.symm hk) pnt_o⟩,fr3⟩
  have dp : decide ((q : Int) < (p.length : Int)) = true := decide_eq_true (by omega)
  obtain ⟨b,hb⟩ : ∃ b,p[q]? = some b := ⟨_,List.getElem?_eq_getElem (by omega)⟩
  rcases xp with ⟨rfl,rfl⟩ | ⟨Kp,junkp,rfl,p1,pc,p2⟩
  ·simp at hp
  obtain ⟨x,hx⟩ : ∃ x,R.lg[q]? = some x := ⟨_,List.getElem?_eq_getElem (by omega)⟩
  have gp := (fr.get Kp p1 pc).trans p2
  have gb : (B p ++ junkp)[q]? = some (b8 b) := by
   rw [List.getElem?_append_left (by rw [B_len]; omega),B,List.getElem?_map,hb]; rfl
  rcases x2 with ⟨z0,_⟩ | ⟨K,junk,z0,rfl,z1,z2,z3⟩
  ·rw [z0] at hx; simp at hx
  have hx2 : RC h c 0 (.eslice K 0 0 R.lg.length) R.lg := .inr ⟨K,junk,z0,rfl,z1,z2,z3⟩
  by_cases hb0 : b % 256 = 0
  ·have db : decide (((b % 256 : Nat) : Int) = 0) = true := decide_eq_true (by omega)
   have ek := kept_take p R.lg q x b hx hb
   rw [if_pos hb0,List.append_nil] at ek
   simp (disch := first | omega | (simp only [SD.down,uA,uL] <;> omega) | fail) only [run_it,s0,s1,s2,gm,ok2.1,ok2.2,len2,lncR,lnoR,dq,dp,gp,gb,db,okp.1,okp.2.1,okp.2.2,env_P,env_L,TQ.down,resE,oneV, ↓reduceIte,reduceCtorEq,uB,uE,uL,uA,uM,uS,vL,vK,vE,vA,vS]
   exact ih _ _ ⟨q + 1,dv',by omega,by omega,by simp (disch := omega) only [s0,TH.down,uA,uB],by simp (disch := omega) only [s1,TH.down,uA,uB],by simp (disch := omega) only [TH.down,uA,uB],gm,by rw [ek]; exact xd,fr⟩
  have db : decide (((b % 256 : Nat) : Int) = 0) = false := decide_eq_false (by omega)
  have ek := kept_take p R.lg q x b hx hb
  rw [if_neg hb0] at ek
  simp (disch := first | omega | (simp only [SD.down,uA,uL] <;> omega) | fail) only [run_it,s0,s1,s2,gm,ok2.1,ok2.2,len2,lncR,lnoR,dq,dp,gp,gb,db,okp.1,okp.2.1,okp.2.2,env_P,env_L,TQ.down,resE,oneV, ↓reduceIte,reduceCtorEq,uB,uE,uL,uA,uM,uS,vL,vK,vE,vA,vS]
  have gK := (fr.get K z1 (by rw [z2]; exact Ne.symm hk)).trans z3
  have hcut := logC_cutj w.lg junk hx
  have rl : RL hh (.eslice K (q * 65) q [x].length) [x] := .inr ⟨K,_,_,_,by simp,rfl,Nat.lt_of_lt_of_le z1 fr.le,gK,by rw [logC_one]; exact hcut⟩
  have okx : Img.ok [x] := fun y hy => by simp at hy; subst hy; exact w.lg _ (List.mem_of_getElem? hx)
  have okd : Img.ok (R.dur ++ kept (p.take q) (R.lg.take q)) := fun y hy => (List.mem_append.1 hy).elim (w.dur y) (kept_ok (fun z hz => w.lg z (List.mem_of_mem_take hz)) y)
  have hkl := kept_len (p.take q) (R.lg.take q)
  rw [List.length_take] at hkl
  have esl := sl_es_one (q := .i64) Try.underlying162 (show szE Try.prog 195 = some 65 by kernel_rfl) K R.lg.length q (by omega)
  have xdok := xd.rw.ok
  simp (disch := first | omega | (simp only [SD.down,uA,uL] <;> omega) | fail) only [esl,s0,s1,s2,xdok.1,xdok.2,env_P,env_L,TQ.down,resE,oneV, ↓reduceIte,reduceCtorEq,uB,uE,uL,uA,uM,uS,vL,vK,vE,vA,vS]
  refine G.call (joined_ok (d + 2) hh dv' (.eslice K (q * 65) q [x].length) (R.dur ++ kept (p.take q) (R.lg.take q)) [x] (xd.rl okd) rl okd okx (by simp; omega)) ?_
  rintro v H2 ⟨k2,hv⟩
  have k2n := k2.1
  have frn := fr.le
  have gm2 := (k2.2 m (by omega)).trans gm
  have vok : okv v = some v /\ AV.same v v = true /\ v.cells = [v] /\ isSc v = true := by
   rcases hv with ⟨_,rfl⟩ | ⟨_,K',rfl,_⟩
   ·exact ⟨rfl,rfl,rfl,rfl⟩
   ·exact ⟨rfl,same_eslice ..,rfl,rfl⟩
  simp (disch := first | omega | (simp only [SD.down,uA,uL] <;> omega) | fail) only [s0,s1,s2,gm,gm2,vok.1,vok.2.1,vok.2.2.1,vok.2.2.2,env_P,env_L,TQ.down,resE,oneV, ↓reduceIte,reduceCtorEq,uB,uE,uL,uA,uM,uS,vL,vK,vE,vA,vS]
  have fr2 : Fr (· = km) (pnt c h.next 0) H2 (H2.put m (some (Blk.cells [AV.int IntKind.i64 ↑R.n,v,AV.eslice K 0 0 (List.length R.lg),mv,AV.bool R.fails,AV.bool R.hurt] 0 false))) := ⟨by simp (disch := omega) only [TH.down,uA,uB]; omega,fun j hj hq => by
   have : j ≠ m := fun e => hq (by rw [e,pnt_lt l1]; exact c1)
   simp (disch := omega) only [TH.down,uA,uB]⟩
  have xv : RC H2 (pnt c h.next 0) 0 v (R.dur ++ kept (p.take (q + 1)) (R.lg.take (q + 1))) := by
   rw [ek,<- List.append_assoc]
   rcases hv with ⟨e,rfl⟩ | ⟨e,K',rfl,y1,y2,y3⟩
   ·simp at e
   ·exact .inr ⟨K',[],e,rfl,y2,pnt_ge (by omega),by rw [List.append_nil]; exact y3⟩
  exact ih _ _ ⟨q + 1,v,by omega,by omega,by simp (disch := omega) only [s0,TH.down,uA,uB],by simp (disch := omega) only [s1,TH.down,uA,uB],by simp (disch := omega) only [TH.down,uA,uB],by simp (disch := omega) only [refG,TH.down,uA,uB],xv.fr fr2 (Ne.symm hk) fun _ _ => rfl,(fr.keeps k2).trans fr2 pnt_o⟩
 ·exact ⟨0,dv,by omega,by omega,by simp (disch := omega) only [TQ.down,resE,oneV, ↓reduceIte,reduceCtorEq,uB,uE,uL,uA,uM,vE],by simp (disch := omega) only [TQ.down,resE,oneV, ↓reduceIte,reduceCtorEq,uB,uE,uL,uA,uM,vE],by simp (disch := omega) only [TQ.down,resE,oneV, ↓reduceIte,reduceCtorEq,uB,uE,uL,uA,uM,vE],g1,by simpa [kept] using x1.fr (K := fun _ => False) (.refl _ _ _) id pnt_o, .refl _ _ _⟩
end Go.Proofs.Ytfjcfjfgamajkaa
