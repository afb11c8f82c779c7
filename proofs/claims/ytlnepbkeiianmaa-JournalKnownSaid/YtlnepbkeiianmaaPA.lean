/- Of this program, for all inputs: contracts. No condition but those in the theorems. -/
import Derived.Test.YtlnepbkeiianmaaMM
import Derived.Test.YtlnepbkeiianmaaNN
namespace Go.Proofs.Ytlnepbkeiianmaa
open Go Go.Ai Go.Aw Go.Proofs
open Nat renaming reduceBEq -> uB,reduceEqDiff -> uE,reduceLT -> uL,reduceAdd -> uA,reduceMul -> uM,reduceSub -> uS,reduceAnd -> uN,reduceXor -> uX,reduceOr -> uO
open Int renaming reduceMod -> vR,reduceDiv -> vD,reduceLT -> vL,reduceLE -> vK,reduceEq -> vE,reduceAdd -> vA,reduceMul -> vM,reduceToNat -> vT,reduceSub -> vS
set_option linter.unusedSimpArgs false
set_option linter.unusedVariables false
set_option maxRecDepth 10000
/-! whose a block is: colours -/
abbrev Col := Nat -> Nat
def pnt (c : Col) (n k : Nat) : Col := fun j => if j < n then c j else k
theorem pnt_lt {c : Col} {n k j : Nat} (h : j < n) : pnt c n k j = c j := if_pos h
theorem pnt_ge {c : Col} {n k j : Nat} (h : n <= j) : pnt c n k j = k := if_neg (by omega)
structure Fr (K : Nat -> Prop) (c : Col) (h h' : Heap) : Prop where
 le : h.next <= h'.next
 get : ∀ j,j < h.next -> ¬ K (c j) -> h'.get j = h.get j
theorem Fr.refl (K : Nat -> Prop) (c : Col) (h : Heap) : Fr K c h h := ⟨Nat.le_refl _,fun _ _ _ => rfl⟩
theorem Fr.of {K : Nat -> Prop} {c : Col} {h h' : Heap} (k : Keeps h h') : Fr K c h h' := ⟨k.1,fun j hj _ => k.2 j hj⟩
theorem Fr.trans {K : Nat -> Prop} {c c' : Col} {a b d : Heap} (x : Fr K c a b) (y : Fr K c' b d) (e : ∀ j,j < a.next -> c' j = c j) : Fr K c a d :=
 ⟨Nat.le_trans x.le y.le,fun j hj hk => (y.get j (Nat.lt_of_lt_of_le hj x.le) (by rw [e j hj]; exact hk)).trans (x.get j hj hk)⟩
theorem Fr.mono {K K' : Nat -> Prop} {c : Col} {h h' : Heap} (x : Fr K c h h') (k : ∀ n,K n -> K' n) : Fr K' c h h' := ⟨x.le,fun j hj hk => x.get j hj fun q => hk (k _ q)⟩
theorem Fr.keeps {K : Nat -> Prop} {c : Col} {h h' h'' : Heap} (x : Fr K c h h') (k : Keeps h' h'') : Fr K c h h'' := ⟨Nat.le_trans x.le k.1,fun j hj hk => (k.2 j (Nat.lt_of_lt_of_le hj x.le)).trans (x.get j hj hk)⟩
abbrev Img := List (Int × List Nat)
def Img.ok (l : Img) : Prop := ∀ x ∈ l,x.2.length = 64
structure MS where
 n : Nat
 seen : Img
 dur : Img
 lg : Img
 marks : List Img
 fails : Bool
 hurt : Bool
structure MS.wf (S : MS) : Prop where
 n0 : 0 < S.n
 lgl : S.lg.length < 4000
 lg : Img.ok S.lg
 seen : Img.ok S.seen
 dur : Img.ok S.dur
 mkl : S.marks.length <= 64
 mks : ∀ l ∈ S.marks,Img.ok l
def MS.io (S : MS) (i : Int) : Int := mIO S.n S.fails i
def MS.read (S : MS) (i : Int) : List Nat × Int := if S.io i = 0 then (mGet S.seen i zz,0) else (zz,S.io i)
def MS.write (S : MS) (i : Int) (s : List Nat) : MS × Int := if S.io i = 0 then ({ S with seen := mPut S.seen i s,lg := S.lg ++ [(i,s)] },0) else (S,S.io i)
def mKeep (p : Nat -> Bool) (dur : Img) : Nat -> Img -> Img
 | _,[] => dur
 | k,x :: r => mKeep p (if p k then mPut dur x.1 x.2 else dur) (k + 1) r
def MS.settle (S : MS) (p : Nat -> Bool) : MS := { S with dur := mKeep p S.dur 0 S.lg,seen := mKeep p S.dur 0 S.lg,lg := [] }
def MS.flush (S : MS) : MS × Int := if S.io 0 = 0 then (S.settle fun _ => true,0) else (S,S.io 0)
def MS.look (S : MS) (i : Int) : List Nat := mGet S.dur i zz
def LogJ (h : Heap) (c : Col) (k : Nat) (v : AV) (ex : List Nat) (l : Img) : Prop :=
 (l = [] /\ (v = .nilslice \/ ∃ q o,v = .slice q o 0 0)) \/ ∃ (L : Nat) (junk : List AV),v = .eslice L 0 0 l.length /\ L < h.next /\ c L = k /\ (∀ e ∈ ex,L ≠ e) /\ h.get L = some (.cells (logC l ++ junk) 65 false)
def MkI (h : Heap) (c : Col) (k : Nat) (v : AV) (ex : List Nat) (ls : List Img) : Prop :=
 (ls = [] /\ v = .nilslice) \/ ∃ (K : Nat) (ps : List Nat),ls ≠ [] /\ v = .eslice K 0 0 ls.length /\ K < h.next /\ c K = k /\ (∀ e ∈ ex,K ≠ e) /\ h.get K = some (.cells (ps.map AV.map) 1 false) /\ ps.length = ls.length /\
  ∀ (i p : Nat) (l : Img),ps[i]? = some p -> ls[i]? = some l -> p < h.next /\ c p = k /\ (∀ e ∈ ex,p ≠ e) /\ h.get p = some (.map (mapC l) false)
def MemI (h : Heap) (c : Col) (k m : Nat) (S : MS) : Prop := ∃ a b lgv mk,m < h.next /\ a < h.next /\ b < h.next /\ c m = k /\ c a = k /\ c b = k /\ m ≠ a /\ m ≠ b /\ a ≠ b /\
 h.get m = some (.cells (memG S.n a b lgv mk S.fails S.hurt) 0 false) /\ h.get a = some (.map (mapC S.seen) false) /\ h.get b = some (.map (mapC S.dur) false) /\ LogJ h c k lgv [m,a,b] S.lg /\ MkI h c k mk [m,a,b] S.marks
theorem LogJ.keep {h h' : Heap} {c c' : Col} {k : Nat} {v : AV} {ex : List Nat} {l : Img} (x : LogJ h c k v ex l) (n : h.next <= h'.next) (g : ∀ j,j < h.next -> c j = k -> (∀ e ∈ ex,j ≠ e) -> h'.get j = h.get j \/ ∀ q : List (AV × AV),h.get j = some (.map q false)) (e : ∀ j,j < h.next -> c j = k -> c' j = k) : LogJ h' c' k v ex l := by
 rcases x with x | ⟨L,junk,rfl,h1,h2,h3,h4⟩
 ·exact .inl x
 ·refine .inr ⟨L,junk,rfl,Nat.lt_of_lt_of_le h1 n,e _ h1 h2,h3, ?_⟩
  rcases g L h1 h2 h3 with q | q
  ·exact q.trans h4
  ·rw [q []] at h4; cases h4
theorem LogJ.keep' {h h' : Heap} {c c' : Col} {k : Nat} {v : AV} {ex : List Nat} {l : Img} (x : LogJ h c k v ex l) (n : h.next <= h'.next) (g : ∀ j,j < h.next -> c j = k -> (∀ e ∈ ex,j ≠ e) -> h'.get j = h.get j) (e : ∀ j,j < h.next -> c j = k -> c' j = k) : LogJ h' c' k v ex l :=
 x.keep n (fun j h1 h2 h3 => .inl (g j h1 h2 h3)) e
theorem MkI.keep {h h' : Heap} {c c' : Col} {k : Nat} {v : AV} {ex : List Nat} {l : List Img} (x : MkI h c k v ex l) (n : h.next <= h'.next) (g : ∀ j,j < h.next -> c j = k -> (∀ e ∈ ex,j ≠ e) -> (∀ q,h.get j ≠ some (.cells q 65 false)) -> h'.get j = h.get j) (e : ∀ j,j < h.next -> c j = k -> c' j = k) : MkI h' c' k v ex l := by
 rcases x with x | ⟨K,ps,h0,rfl,h1,h2,h3,h4,h5,h6⟩
 ·exact .inl x
 ·refine .inr ⟨K,ps,h0,rfl,Nat.lt_of_lt_of_le h1 n,e _ h1 h2,h3,(g K h1 h2 h3 (fun q hq => by rw [h4] at hq; cases hq)).trans h4,h5,fun i p l hp hl => ?_⟩
  obtain ⟨q1,q2,q3,q4⟩ := h6 i p l hp hl
  exact ⟨Nat.lt_of_lt_of_le q1 n,e _ q1 q2,q3,(g p q1 q2 q3 (fun q hq => by rw [q4] at hq; cases hq)).trans q4⟩
theorem MemI.keep {h h' : Heap} {c c' : Col} {k m : Nat} {S : MS} (x : MemI h c k m S) (n : h.next <= h'.next) (g : ∀ j,j < h.next -> c j = k -> h'.get j = h.get j) (e : ∀ j,j < h.next -> c j = k -> c' j = k) : MemI h' c' k m S := by
 obtain ⟨a,b,lgv,mk,l1,l2,l3,c1,c2,c3,n1,n2,n3,g1,g2,g3,lg,mks⟩ := x
 exact ⟨a,b,lgv,mk,Nat.lt_of_lt_of_le l1 n,Nat.lt_of_lt_of_le l2 n,Nat.lt_of_lt_of_le l3 n,e _ l1 c1,e _ l2 c2,e _ l3 c3,n1,n2,n3,(g _ l1 c1).trans g1,(g _ l2 c2).trans g2,(g _ l3 c3).trans g3,lg.keep' n (fun j h1 h2 _ => g j h1 h2) e,mks.keep n (fun j h1 h2 _ _ => g j h1 h2) e⟩
theorem MemI.fr {K : Nat -> Prop} {h h' : Heap} {c c' : Col} {k m : Nat} {S : MS} (x : MemI h c k m S) (f : Fr K c h h') (hk : ¬ K k) (e : ∀ j,j < h.next -> c j = k -> c' j = k) : MemI h' c' k m S :=
 x.keep f.le (fun j h1 h2 => f.get j h1 (by rw [h2]; exact hk)) e
theorem MemI.keeps {h h' : Heap} {c c' : Col} {k m : Nat} {S : MS} (x : MemI h c k m S) (f : Keeps h h') (e : ∀ j,j < h.next -> c j = k -> c' j = k) : MemI h' c' k m S :=
 x.keep f.1 (fun j h1 _ => f.2 j h1) e
theorem LogJ.ok {h : Heap} {c : Col} {k : Nat} {v : AV} {ex : List Nat} {l : Img} (x : LogJ h c k v ex l) : okv v = some v := by
 rcases x with ⟨_,rfl | ⟨q,o,rfl⟩⟩ | ⟨L,junk,rfl,_⟩ <;> rfl
theorem LogJ.same {h : Heap} {c : Col} {k : Nat} {v : AV} {ex : List Nat} {l : Img} (x : LogJ h c k v ex l) : AV.same v v = true := by
 rcases x with ⟨_,rfl | ⟨q,o,rfl⟩⟩ | ⟨L,junk,rfl,_⟩
 ·rfl
 ·exact same_slice ..
 ·exact same_eslice ..
theorem LogJ.len {h : Heap} {c : Col} {k : Nat} {v : AV} {ex : List Nat} {l : Img} (x : LogJ h c k v ex l) : lenE Try.prog 97 v = some (.int .i64 (l.length : Int)) := by
 rcases x with ⟨rfl,rfl | ⟨q,o,rfl⟩⟩ | ⟨L,junk,rfl,_⟩
 ·exact lnn97
 ·exact lns97 ..
 ·exact lne97 ..
theorem MkI.ok {h : Heap} {c : Col} {k : Nat} {v : AV} {ex : List Nat} {l : List Img} (x : MkI h c k v ex l) : okv v = some v := by
 rcases x with ⟨_,rfl⟩ | ⟨L,ps,_,rfl,_⟩ <;> rfl
theorem MkI.same {h : Heap} {c : Col} {k : Nat} {v : AV} {ex : List Nat} {l : List Img} (x : MkI h c k v ex l) : AV.same v v = true := by
 rcases x with ⟨_,rfl⟩ | ⟨L,ps,_,rfl,_⟩
 ·rfl
 ·exact same_eslice ..
theorem MkI.len {h : Heap} {c : Col} {k : Nat} {v : AV} {ex : List Nat} {l : List Img} (x : MkI h c k v ex l) : lenE Try.prog 98 v = some (.int .i64 (l.length : Int)) := by
 rcases x with ⟨rfl,rfl⟩ | ⟨L,ps,_,rfl,_⟩
 ·exact lnn98
 ·exact lne98 ..
theorem mPut_ok {l : Img} (hl : Img.ok l) (i : Int) {s : List Nat} (hs : s.length = 64) : Img.ok (mPut l i s) := by
 have hd : ∀ l : Img,Img.ok l -> Img.ok (mDel l i) := by
  intro l
  induction l with
  | nil => intro h; exact h
  | cons x r ih =>
   intro h y hy
   obtain ⟨k,t⟩ := x
   rw [mDel] at hy
   split at hy
   ·exact h y (List.mem_cons_of_mem _ hy)
   ·rcases List.mem_cons.1 hy with rfl | hy
    ·exact h _ (by simp)
    ·exact ih (fun z hz => h z (List.mem_cons_of_mem _ hz)) y hy
 have hu : ∀ l : Img,Img.ok l -> Img.ok (mUpd l i s) := by
  intro l
  induction l with
  | nil => intro _ y hy; simp [mUpd] at hy; subst hy; exact hs
  | cons x r ih =>
   intro h y hy
   obtain ⟨k,t⟩ := x
   rw [mUpd] at hy
   split at hy
   ·rcases List.mem_cons.1 hy with rfl | hy
    ·exact hs
    ·exact h y (List.mem_cons_of_mem _ hy)
   ·rcases List.mem_cons.1 hy with rfl | hy
    ·exact h _ (by simp)
    ·exact ih (fun z hz => h z (List.mem_cons_of_mem _ hz)) y hy
 unfold mPut
 split
 ·exact hd l hl
 ·exact hu l hl
theorem mKeep_ok (p : Nat -> Bool) : ∀ (lg : Img) (dur : Img) (k : Nat),Img.ok dur -> Img.ok lg -> Img.ok (mKeep p dur k lg)
 | [],dur,k,hd,_ => hd
 | x :: r,dur,k,hd,hl => by
  rw [mKeep]
  refine mKeep_ok p r _ (k + 1) ?_ fun y hy => hl y (List.mem_cons_of_mem _ hy)
  split
  ·exact mPut_ok hd _ (hl x (by simp))
  ·exact hd
theorem pnt_e {c : Col} {n k : Nat} : ∀ j,j < n -> c j = k -> pnt c n k j = k := fun j hj hk => (pnt_lt hj).trans hk
theorem app126j {i : Int} {s : List Nat} (hs : s.length = 64) {h : Heap} {c : Col} {k : Nat} {lgv : AV} {ex : List Nat} {l : Img} (hl : Img.ok l) (hn : l.length < 4000) (hL : LogJ h c k lgv ex l) {q : Nat} (hk : h.get q = some (.cells (wrC i s) 0 false)) :
  ∃ h',appE Try.prog 97 lgv (.slice q 0 1 1) h = some (.eslice h.next 0 0 (l.length + 1),h') /\ h'.next = h.next + 1 /\ h'.get h.next = some (.cells (logC (l ++ [(i,s)])) 65 false) /\ ∀ j,j < h.next -> (c j ≠ k \/ j ∈ ex \/ (∀ q,h.get j ≠ some (.cells q 65 false))) -> h'.get j = h.get j := by
 have e : logC (l ++ [(i,s)]) = logC l ++ wrC i s := by simp [logC]
 rcases hL with ⟨rfl,rfl | ⟨q',o,rfl⟩⟩ | ⟨L,junk,rfl,hLn,hLc,hLe,hg⟩
 ·refine ⟨_,app_nil el97 hk (wrC_cut i s hs) (wrC_len i s hs) (wrC_sc i s),by simp, ?_,fun j hj _ => ?_⟩
  ·rw [e]; simp (maxSteps := 2000000) (implicitDefEqProofs := false) (disch := first | omega | (simp only [SD.down,uA,uL] <;> omega) | fail) only [TQ.down,resE,oneV, ↓reduceIte,reduceCtorEq,uB,uE,uL,uA,uM,uS,uN,uX,uO,vR,vD,vL,vK,vE,vA,vM,vT,vS]; rfl
  ·simp (maxSteps := 2000000) (implicitDefEqProofs := false) (disch := first | omega | (simp only [SD.down,uA,uL] <;> omega) | fail) only [TQ.down,resE,oneV, ↓reduceIte,reduceCtorEq,uB,uE,uL,uA,uM,uS,uN,uX,uO,vR,vD,vL,vK,vE,vA,vM,vT,vS]
 ·refine ⟨_,app_cap (n := 0) el97 (by omega) hk (by rw [wrC_cut i s hs]) (by rw [wrC_len i s hs]) (wrC_sc i s),by simp, ?_,fun j hj _ => ?_⟩
  ·rw [e]; simp (maxSteps := 2000000) (implicitDefEqProofs := false) (disch := first | omega | (simp only [SD.down,uA,uL] <;> omega) | fail) only [TQ.down,resE,oneV, ↓reduceIte,reduceCtorEq,uB,uE,uL,uA,uM,uS,uN,uX,uO,vR,vD,vL,vK,vE,vA,vM,vT,vS]; rfl
  ·simp (maxSteps := 2000000) (implicitDefEqProofs := false) (disch := first | omega | (simp only [SD.down,uA,uL] <;> omega) | fail) only [TQ.down,resE,oneV, ↓reduceIte,reduceCtorEq,uB,uE,uL,uA,uM,uS,uN,uX,uO,vR,vD,vL,vK,vE,vA,vM,vT,vS]
 ·refine ⟨_,app_ej el97 hg (logC_len hl) (by omega) hk (wrC_cut i s hs) (wrC_len i s hs) (wrC_sc i s),by simp (maxSteps := 2000000) (implicitDefEqProofs := false) (disch := first | omega | (simp only [SD.down,uA,uL] <;> omega) | fail) only [TQ.down,resE,oneV, ↓reduceIte,reduceCtorEq,uB,uE,uL,uA,uM,uS,uN,uX,uO,vR,vD,vL,vK,vE,vA,vM,vT,vS], ?_,fun j hj hj2 => ?_⟩
  ·rw [e]; simp (maxSteps := 2000000) (implicitDefEqProofs := false) (disch := first | omega | (simp only [SD.down,uA,uL] <;> omega) | fail) only [TQ.down,resE,oneV, ↓reduceIte,reduceCtorEq,uB,uE,uL,uA,uM,uS,uN,uX,uO,vR,vD,vL,vK,vE,vA,vM,vT,vS]
  ·have : j ≠ L := by
    rintro rfl
    rcases hj2 with q | q | q
    ·exact q hLc
    ·exact hLe _ q rfl
    ·exact q _ hg
   simp (maxSteps := 2000000) (implicitDefEqProofs := false) (disch := first | omega | (simp only [SD.down,uA,uL] <;> omega) | fail) only [TQ.down,resE,oneV, ↓reduceIte,reduceCtorEq,uB,uE,uL,uA,uM,uS,uN,uX,uO,vR,vD,vL,vK,vE,vA,vM,vT,vS]
theorem m_read (d : Nat) (h : Heap) (c : Col) (k m : Nat) (S : MS) (I : MemI h c k m S) (w : S.wf) (i : Int) :
  G (callD env (d + 5) 70 [.ptr m 0, .int .i64 i] h) fun v h' => v = .tup [.agg (B (S.read i).1), .int .i64 (S.read i).2] /\ Keeps h h' := by
 obtain ⟨a,b,lgv,mk,l1,l2,l3,c1,c2,c3,n1,n2,n3,g1,g2,g3,lg,mks⟩ := I
 by_cases h0 : mIO S.n S.fails i = 0
 ·have e : S.read i = (mGet S.seen i zz,0) := if_pos h0
  rw [e]
  exact readm_ok d h m S.n a b lgv mk S.seen S.fails S.hurt i w.n0 g1 g2 w.seen l1 l2 h0
 ·have e : S.read i = (zz,mIO S.n S.fails i) := if_neg h0
  rw [e]
  exact readm_no d h m S.n a b lgv mk S.fails S.hurt i w.n0 g1 l1 h0
set_option maxHeartbeats 4000000 in
theorem m_write (d : Nat) (h : Heap) (c : Col) (k m : Nat) (S : MS) (I : MemI h c k m S) (w : S.wf) (i : Int) (s : List Nat) (hs : s.length = 64) :
  G (callD env (d + 5) 65 [.ptr m 0, .int .i64 i, .agg (B s)] h) fun v h' => v = .int .i64 (S.write i s).2 /\ MemI h' (pnt c h.next k) k m (S.write i s).1 /\ Fr (· = k) c h h' := by
 have I0 := I
 obtain ⟨a,b,lgv,mk,l1,l2,l3,c1,c2,c3,n1,n2,n3,hm,ha,hb,hlg,mks⟩ := I
 by_cases h0 : mIO S.n S.fails i = 0
 ·have e : S.write i s = ({ S with seen := mPut S.seen i s,lg := S.lg ++ [(i,s)] },0) := if_pos h0
  rw [e]
  generalize hX : (fun (v : AV) (h' : Heap) => v = .int .i64 ({ S with seen := mPut S.seen i s,lg := S.lg ++ [(i,s)] },(0 : Int)).2 /\ MemI h' (pnt c h.next k) k m ({ S with seen := mPut S.seen i s,lg := S.lg ++ [(i,s)] },(0 : Int)).1 /\ Fr (· = k) c h h') = Q
  have hz := zz_len
  have hm' := hm
  unfold memG at hm'
  rw [callD_run (E := env) [(5, .fl [(4,0,1)])] (by kernel_rfl) Try.func65 rfl (by rw [Try.ntmps65]; simp) (by kernel_rfl)]; simp (maxSteps := 2000000) (implicitDefEqProofs := false) (disch := first | omega | (simp only [SD.down,uA,uL] <;> omega) | fail) only [Try.ntmps65,Try.results65,env_P,env_L,hz,hs,zz_fold,cutB_all,over_B,TQ.down,resE,oneV, ↓reduceIte,reduceCtorEq,uB,uE,uL,uA,uM,uS,uN,uX,uO,vR,vD,vL,vK,vE,vA,vM,vT,vS]
  first | refine G.call (io_G (d + 1) _ m S.n a b lgv mk S.fails S.hurt i w.n0 (by simp (maxSteps := 2000000) (implicitDefEqProofs := false) (disch := first | omega | (simp only [SD.down,uA,uL] <;> omega) | fail) only [hm,TQ.down,resE,oneV, ↓reduceIte,reduceCtorEq,uB,uE,uL,uA,uM,uS,uN,uX,uO,vR,vD,vL,vK,vE,vA,vM,vT,vS])) ?_ | refine G.callC (io_G (d + 1) _ m S.n a b lgv mk S.fails S.hurt i w.n0 (by simp (maxSteps := 2000000) (implicitDefEqProofs := false) (disch := first | omega | (simp only [SD.down,uA,uL] <;> omega) | fail) only [hm,TQ.down,resE,oneV, ↓reduceIte,reduceCtorEq,uB,uE,uL,uA,uM,uS,uN,uX,uO,vR,vD,vL,vK,vE,vA,vM,vT,vS])) ?_ | refine G.callL (io_G (d + 1) _ m S.n a b lgv mk S.fails S.hurt i w.n0 (by simp (maxSteps := 2000000) (implicitDefEqProofs := false) (disch := first | omega | (simp only [SD.down,uA,uL] <;> omega) | fail) only [hm,TQ.down,resE,oneV, ↓reduceIte,reduceCtorEq,uB,uE,uL,uA,uM,uS,uN,uX,uO,vR,vD,vL,vK,vE,vA,vM,vT,vS])) ?_
  rintro v h9 ⟨rfl,rfl⟩
  rw [h0]
  simp (maxSteps := 2000000) (implicitDefEqProofs := false) (disch := first | omega | (simp only [SD.down,uA,uL] <;> omega) | fail) only [hz,hs,zz_fold,cutB_all,over_B,hm',TQ.down,resE,oneV, ↓reduceIte,reduceCtorEq,uB,uE,uL,uA,uM,uS,uN,uX,uO,vR,vD,vL,vK,vE,vA,vM,vT,vS]
  first | refine G.call (put_ok (d + 3) _ a i s S.seen hs (by simp (maxSteps := 2000000) (implicitDefEqProofs := false) (disch := first | omega | (simp only [SD.down,uA,uL] <;> omega) | fail) only [TQ.down,resE,oneV, ↓reduceIte,reduceCtorEq,uB,uE,uL,uA,uM,uS,uN,uX,uO,vR,vD,vL,vK,vE,vA,vM,vT,vS]; omega) (by simp (maxSteps := 2000000) (implicitDefEqProofs := false) (disch := first | omega | (simp only [SD.down,uA,uL] <;> omega) | fail) only [ha,TQ.down,resE,oneV, ↓reduceIte,reduceCtorEq,uB,uE,uL,uA,uM,uS,uN,uX,uO,vR,vD,vL,vK,vE,vA,vM,vT,vS])) ?_ | refine G.callC (put_ok (d + 3) _ a i s S.seen hs (by simp (maxSteps := 2000000) (implicitDefEqProofs := false) (disch := first | omega | (simp only [SD.down,uA,uL] <;> omega) | fail) only [TQ.down,resE,oneV, ↓reduceIte,reduceCtorEq,uB,uE,uL,uA,uM,uS,uN,uX,uO,vR,vD,vL,vK,vE,vA,vM,vT,vS]; omega) (by simp (maxSteps := 2000000) (implicitDefEqProofs := false) (disch := first | omega | (simp only [SD.down,uA,uL] <;> omega) | fail) only [ha,TQ.down,resE,oneV, ↓reduceIte,reduceCtorEq,uB,uE,uL,uA,uM,uS,uN,uX,uO,vR,vD,vL,vK,vE,vA,vM,vT,vS])) ?_ | refine G.callL (put_ok (d + 3) _ a i s S.seen hs (by simp (maxSteps := 2000000) (implicitDefEqProofs := false) (disch := first | omega | (simp only [SD.down,uA,uL] <;> omega) | fail) only [TQ.down,resE,oneV, ↓reduceIte,reduceCtorEq,uB,uE,uL,uA,uM,uS,uN,uX,uO,vR,vD,vL,vK,vE,vA,vM,vT,vS]; omega) (by simp (maxSteps := 2000000) (implicitDefEqProofs := false) (disch := first | omega | (simp only [SD.down,uA,uL] <;> omega) | fail) only [ha,TQ.down,resE,oneV, ↓reduceIte,reduceCtorEq,uB,uE,uL,uA,uM,uS,uN,uX,uO,vR,vD,vL,vK,vE,vA,vM,vT,vS])) ?_
  rintro v h1 ⟨rfl,g1,g2,g3⟩
  simp (maxSteps := 2000000) (implicitDefEqProofs := false) (disch := first | omega | (simp only [SD.down,uA,uL] <;> omega) | fail) only [TQ.down,resE,oneV, ↓reduceIte,reduceCtorEq,uB,uE,uL,uA,uM,uS,uN,uX,uO,vR,vD,vL,vK,vE,vA,vM,vT,vS] at g2 g3
  have b0 : h1.get h.next = some (.cells (B s) 0 false) := by rw [g3 _ (by omega) (by omega)]; simp (maxSteps := 2000000) (implicitDefEqProofs := false) (disch := first | omega | (simp only [SD.down,uA,uL] <;> omega) | fail) only [TQ.down,resE,oneV, ↓reduceIte,reduceCtorEq,uB,uE,uL,uA,uM,uS,uN,uX,uO,vR,vD,vL,vK,vE,vA,vM,vT,vS]
  have b1 : h1.get m = some (.cells (memG S.n a b lgv mk S.fails S.hurt) 0 false) := by rw [g3 _ (by omega) (by omega)]; simp (maxSteps := 2000000) (implicitDefEqProofs := false) (disch := first | omega | (simp only [SD.down,uA,uL] <;> omega) | fail) only [hm,TQ.down,resE,oneV, ↓reduceIte,reduceCtorEq,uB,uE,uL,uA,uM,uS,uN,uX,uO,vR,vD,vL,vK,vE,vA,vM,vT,vS]
  have gg : ∀ j,j < h.next -> j ≠ a -> h1.get j = h.get j := fun j hj ja => by rw [g3 j (by omega) ja]; simp (maxSteps := 2000000) (implicitDefEqProofs := false) (disch := first | omega | (simp only [SD.down,uA,uL] <;> omega) | fail) only [TQ.down,resE,oneV, ↓reduceIte,reduceCtorEq,uB,uE,uL,uA,uM,uS,uN,uX,uO,vR,vD,vL,vK,vE,vA,vM,vT,vS]
  have b1' := b1
  unfold memG at b1'
  simp (maxSteps := 2000000) (implicitDefEqProofs := false) (disch := first | omega | (simp only [SD.down,uA,uL] <;> omega) | fail) only [hz,hs,zz_fold,cutB_all,over_B,b0,b1',cls_append,ap97,wr_over i zz s hz hs,bs97 i s hs,hlg.ok,TQ.down,resE,oneV, ↓reduceIte,reduceCtorEq,uB,uE,uL,uA,uM,uS,uN,uX,uO,vR,vD,vL,vK,vE,vA,vM,vT,vS]
  have hlg1 : LogJ (h1.new (Blk.cells (wrC i s) 0 false)) (pnt c h.next k) k lgv [m,a,b] S.lg := hlg.keep' (by simp (maxSteps := 2000000) (implicitDefEqProofs := false) (disch := first | omega | (simp only [SD.down,uA,uL] <;> omega) | fail) only [TQ.down,resE,oneV, ↓reduceIte,reduceCtorEq,uB,uE,uL,uA,uM,uS,uN,uX,uO,vR,vD,vL,vK,vE,vA,vM,vT,vS]; omega) (fun j hj _ je => by
   have := gg j hj (je a (by simp))
   simp (maxSteps := 2000000) (implicitDefEqProofs := false) (disch := first | omega | (simp only [SD.down,uA,uL] <;> omega) | fail) only [TQ.down,resE,oneV, ↓reduceIte,reduceCtorEq,uB,uE,uL,uA,uM,uS,uN,uX,uO,vR,vD,vL,vK,vE,vA,vM,vT,vS]
   exact this) pnt_e
  obtain ⟨h2,ea,en,eg,ef⟩ := app126j (i := i) (q := h1.next) hs w.lg w.lgl hlg1 (by simp (maxSteps := 2000000) (implicitDefEqProofs := false) (disch := first | omega | (simp only [SD.down,uA,uL] <;> omega) | fail) only [TQ.down,resE,oneV, ↓reduceIte,reduceCtorEq,uB,uE,uL,uA,uM,uS,uN,uX,uO,vR,vD,vL,vK,vE,vA,vM,vT,vS])
  rw [ea]
  simp (maxSteps := 2000000) (implicitDefEqProofs := false) (disch := first | omega | (simp only [SD.down,uA,uL] <;> omega) | fail) only [TQ.down,resE,oneV, ↓reduceIte,reduceCtorEq,uB,uE,uL,uA,uM,uS,uN,uX,uO,vR,vD,vL,vK,vE,vA,vM,vT,vS] at en eg
  have ff : ∀ j,j < h1.next -> (pnt c h.next k j ≠ k \/ j ∈ [m,a,b] \/ (∀ q,h1.get j ≠ some (.cells q 65 false))) -> h2.get j = h1.get j := by
   intro j hj hq
   rw [ef j (by simp (maxSteps := 2000000) (implicitDefEqProofs := false) (disch := first | omega | (simp only [SD.down,uA,uL] <;> omega) | fail) only [TQ.down,resE,oneV, ↓reduceIte,reduceCtorEq,uB,uE,uL,uA,uM,uS,uN,uX,uO,vR,vD,vL,vK,vE,vA,vM,vT,vS]; omega) (by
    rcases hq with q | q | q
    ·exact .inl q
    ·exact .inr (.inl q)
    ·refine .inr (.inr fun z => ?_)
     simp (maxSteps := 2000000) (implicitDefEqProofs := false) (disch := first | omega | (simp only [SD.down,uA,uL] <;> omega) | fail) only [TQ.down,resE,oneV, ↓reduceIte,reduceCtorEq,uB,uE,uL,uA,uM,uS,uN,uX,uO,vR,vD,vL,vK,vE,vA,vM,vT,vS]
     exact q z)]
   simp (maxSteps := 2000000) (implicitDefEqProofs := false) (disch := first | omega | (simp only [SD.down,uA,uL] <;> omega) | fail) only [TQ.down,resE,oneV, ↓reduceIte,reduceCtorEq,uB,uE,uL,uA,uM,uS,uN,uX,uO,vR,vD,vL,vK,vE,vA,vM,vT,vS]
  have c1' := (ff m (by omega) (.inr (.inl (by simp)))).trans b1
  have c1'' := c1'
  unfold memG at c1''
  have c2' := (ff a (by omega) (.inr (.inl (by simp)))).trans g1
  have c3' := (ff b (by omega) (.inr (.inl (by simp)))).trans ((gg b l3 (Ne.symm n3)).trans hb)
  simp (maxSteps := 2000000) (implicitDefEqProofs := false) (disch := first | omega | (simp only [SD.down,uA,uL] <;> omega) | fail) only [c1'',b1',hlg.same,TQ.down,resE,oneV, ↓reduceIte,reduceCtorEq,uB,uE,uL,uA,uM,uS,uN,uX,uO,vR,vD,vL,vK,vE,vA,vM,vT,vS]
  subst hX
  refine G.ok ⟨rfl,⟨a,b, .eslice (h1.next + 1) 0 0 (S.lg.length + 1),mk,by simp (maxSteps := 2000000) (implicitDefEqProofs := false) (disch := first | omega | (simp only [SD.down,uA,uL] <;> omega) | fail) only [TQ.down,resE,oneV, ↓reduceIte,reduceCtorEq,uB,uE,uL,uA,uM,uS,uN,uX,uO,vR,vD,vL,vK,vE,vA,vM,vT,vS]; omega,by simp (maxSteps := 2000000) (implicitDefEqProofs := false) (disch := first | omega | (simp only [SD.down,uA,uL] <;> omega) | fail) only [TQ.down,resE,oneV, ↓reduceIte,reduceCtorEq,uB,uE,uL,uA,uM,uS,uN,uX,uO,vR,vD,vL,vK,vE,vA,vM,vT,vS]; omega,by simp (maxSteps := 2000000) (implicitDefEqProofs := false) (disch := first | omega | (simp only [SD.down,uA,uL] <;> omega) | fail) only [TQ.down,resE,oneV, ↓reduceIte,reduceCtorEq,uB,uE,uL,uA,uM,uS,uN,uX,uO,vR,vD,vL,vK,vE,vA,vM,vT,vS]; omega,pnt_e _ l1 c1,pnt_e _ l2 c2,pnt_e _ l3 c3,n1,n2,n3,by simp (maxSteps := 2000000) (implicitDefEqProofs := false) (disch := first | omega | (simp only [SD.down,uA,uL] <;> omega) | fail) only [memG,TQ.down,resE,oneV, ↓reduceIte,reduceCtorEq,uB,uE,uL,uA,uM,uS,uN,uX,uO,vR,vD,vL,vK,vE,vA,vM,vT,vS],by simp (maxSteps := 2000000) (implicitDefEqProofs := false) (disch := first | omega | (simp only [SD.down,uA,uL] <;> omega) | fail) only [TQ.down,resE,oneV, ↓reduceIte,reduceCtorEq,uB,uE,uL,uA,uM,uS,uN,uX,uO,vR,vD,vL,vK,vE,vA,vM,vT,vS]; exact c2',by simp (maxSteps := 2000000) (implicitDefEqProofs := false) (disch := first | omega | (simp only [SD.down,uA,uL] <;> omega) | fail) only [TQ.down,resE,oneV, ↓reduceIte,reduceCtorEq,uB,uE,uL,uA,uM,uS,uN,uX,uO,vR,vD,vL,vK,vE,vA,vM,vT,vS]; exact c3', .inr ⟨h1.next + 1,[],by simp,by simp (maxSteps := 2000000) (implicitDefEqProofs := false) (disch := first | omega | (simp only [SD.down,uA,uL] <;> omega) | fail) only [TQ.down,resE,oneV, ↓reduceIte,reduceCtorEq,uB,uE,uL,uA,uM,uS,uN,uX,uO,vR,vD,vL,vK,vE,vA,vM,vT,vS]; omega,pnt_ge (by omega),fun e he => by simp only [List.mem_cons,List.not_mem_nil,or_false] at he; omega,by rw [List.append_nil]; simp (maxSteps := 2000000) (implicitDefEqProofs := false) (disch := first | omega | (simp only [SD.down,uA,uL] <;> omega) | fail) only [TQ.down,resE,oneV, ↓reduceIte,reduceCtorEq,uB,uE,uL,uA,uM,uS,uN,uX,uO,vR,vD,vL,vK,vE,vA,vM,vT,vS]; exact eg⟩,mks.keep (by simp (maxSteps := 2000000) (implicitDefEqProofs := false) (disch := first | omega | (simp only [SD.down,uA,uL] <;> omega) | fail) only [TQ.down,resE,oneV, ↓reduceIte,reduceCtorEq,uB,uE,uL,uA,uM,uS,uN,uX,uO,vR,vD,vL,vK,vE,vA,vM,vT,vS]; omega) (fun j hj hc he hq => ?_) pnt_e⟩,⟨by simp (maxSteps := 2000000) (implicitDefEqProofs := false) (disch := first | omega | (simp only [SD.down,uA,uL] <;> omega) | fail) only [TQ.down,resE,oneV, ↓reduceIte,reduceCtorEq,uB,uE,uL,uA,uM,uS,uN,uX,uO,vR,vD,vL,vK,vE,vA,vM,vT,vS]; omega,fun j hj hc => ?_⟩⟩
  ·have j1 := he m (by simp)
   have j2 := he a (by simp)
   simp (maxSteps := 2000000) (implicitDefEqProofs := false) (disch := first | omega | (simp only [SD.down,uA,uL] <;> omega) | fail) only [TQ.down,resE,oneV, ↓reduceIte,reduceCtorEq,uB,uE,uL,uA,uM,uS,uN,uX,uO,vR,vD,vL,vK,vE,vA,vM,vT,vS]
   rw [ff j (by omega) (.inr (.inr fun q => by rw [gg j hj j2]; exact hq q))]
   exact gg j hj j2
  ·have j1 : j ≠ m := fun q => hc (q ▸ c1)
   have j2 : j ≠ a := fun q => hc (q ▸ c2)
   simp (maxSteps := 2000000) (implicitDefEqProofs := false) (disch := first | omega | (simp only [SD.down,uA,uL] <;> omega) | fail) only [TQ.down,resE,oneV, ↓reduceIte,reduceCtorEq,uB,uE,uL,uA,uM,uS,uN,uX,uO,vR,vD,vL,vK,vE,vA,vM,vT,vS]
   rw [ff j (by omega) (.inl (by rw [pnt_lt hj]; exact hc))]
   exact gg j hj j2
 ·have e : S.write i s = (S,mIO S.n S.fails i) := if_neg h0
  rw [e]
  refine (write_no d h m S.n a b lgv mk S.fails S.hurt i s hs w.n0 hm l1 h0).mono ?_
  rintro v h' ⟨rfl,kp⟩
  exact ⟨rfl,I0.keeps kp pnt_e, .of kp⟩
theorem mKeep_snoc (p : Nat -> Bool) (x : Int × List Nat) : ∀ (l : Img) (dur : Img) (k : Nat),mKeep p dur k (l ++ [x]) = if p (k + l.length) then mPut (mKeep p dur k l) x.1 x.2 else mKeep p dur k l
 | [],dur,k => rfl
 | y :: r,dur,k => by
  rw [List.cons_append,mKeep,mKeep,mKeep_snoc p x r]
  simp only [List.length_cons,show k + 1 + r.length = k + (r.length + 1) by omega]
theorem logC_cutj {l : Img} (hl : Img.ok l) (junk : List AV) {k : Nat} {x : Int × List Nat} (hk : l[k]? = some x) : cutE (k * 65) 65 (logC l ++ junk) = some (wrC x.1 x.2) := by
 have h1 := logC_cut hl hk
 have hkl : k < l.length := (List.getElem?_eq_some_iff.1 hk).1
 have hll := logC_len hl
 rw [cutE_of (by rw [hll]; omega)] at h1
 rw [cutE_of (by rw [List.length_append,hll]; omega),List.drop_append_of_le_length (by rw [hll]; omega),List.take_append_of_le_length (by rw [List.length_drop,hll]; omega)]
 exact h1
theorem MkI.swap {h h' : Heap} {c c' : Col} {k m a a' b : Nat} {v : AV} {l : List Img} (x : MkI h c k v [m,a,b] l) (n : h.next <= h'.next) (g : ∀ j,j < h.next -> c j = k -> j ≠ m -> j ≠ b -> (∀ q,h.get j ≠ some (.cells q 65 false)) -> h'.get j = h.get j) (e : ∀ j,j < h.next -> c j = k -> c' j = k) (ha : h.next <= a') : MkI h' c' k v [m,a',b] l := by
 have fx : ∀ j,j < h.next -> (∀ e ∈ [m,a,b],j ≠ e) -> ∀ e ∈ [m,a',b],j ≠ e := by
  intro j hj x4 e he
  simp only [List.mem_cons,List.not_mem_nil,or_false] at he
  rcases he with rfl | rfl | rfl
  ·exact x4 _ (by simp)
  ·omega
  ·exact x4 _ (by simp)
 rcases x with x | ⟨K,ps,x0,x1,x2,x3,x4,x5,x6,x7⟩
 ·exact .inl x
 ·refine .inr ⟨K,ps,x0,x1,Nat.lt_of_lt_of_le x2 n,e _ x2 x3,fx K x2 x4,(g K x2 x3 (x4 _ (by simp)) (x4 _ (by simp)) (fun q hq => by rw [x5] at hq; cases hq)).trans x5,x6,fun i p l hp hl => ?_⟩
  obtain ⟨q1,q2,q3,q4⟩ := x7 i p l hp hl
  exact ⟨Nat.lt_of_lt_of_le q1 n,e _ q1 q2,fx p q1 q3,(g p q1 q2 (q3 _ (by simp)) (q3 _ (by simp)) (fun q hq => by rw [q4] at hq; cases hq)).trans q4⟩
set_option maxHeartbeats 4000000 in
theorem m_settle (d : Nat) (h : Heap) (c : Col) (k m : Nat) (S : MS) (I : MemI h c k m S) (w : S.wf) (F : Nat) (caps : List AV) (p : Nat -> Bool) (hcl : caps.length <= 4)
  (hp : ∀ (H : Heap) (q : Nat),Fr (· = k) c h H -> callD env (d + 4) F (.int .i64 (q : Int) :: caps) H = some (.bool (p q),H)) :
  G (callD env (d + 5) 37 [.ptr m 0, .func (.func F) [] caps] h) fun v h' => v = .tup [] /\ MemI h' (pnt c h.next k) k m (S.settle p) /\ Fr (· = k) c h h' := by
 obtain ⟨a,b,lgv,mk,l1,l2,l3,c1,c2,c3,n1,n2,n3,hm,ha,hb,hlg,mks⟩ := I
 generalize hX : (fun (v : AV) (h' : Heap) => v = .tup [] /\ MemI h' (pnt c h.next k) k m (S.settle p) /\ Fr (· = k) c h h') = Q
 have hlen := hlg.len
 unfold memG at hm
 rw [callD_run (E := env) [] (by kernel_rfl) Try.func37 rfl (by rw [Try.ntmps37]; simp) (by kernel_rfl)]; simp (maxSteps := 2000000) (implicitDefEqProofs := false) (disch := first | omega | (simp only [SD.down,uA,uL] <;> omega) | fail) only [Try.ntmps37,Try.results37,env_P,env_L,hm,hlg.ok,hlg.same,hlen,TQ.down,resE,oneV, ↓reduceIte,reduceCtorEq,uB,uE,uL,uA,uM,uS,uN,uX,uO,vR,vD,vL,vK,vE,vA,vM,vT,vS]
 rw [run_loop]
 refine loop_ind (fun j σ hh => ∃ q,q + j = S.lg.length /\ σ 0 = .ptr m 0 /\ σ 1 = .func (.func F) [] caps /\ σ 9 = lgv /\ σ 10 = .int .i64 (S.lg.length : Int) /\ σ 11 = .int .i64 (q : Int) /\ hh.get b = some (.map (mapC (mKeep p S.dur 0 (S.lg.take q))) false) /\ h.next <= hh.next /\ ∀ j,j < h.next -> j ≠ b -> hh.get j = h.get j) ?_ ?_ S.lg.length _ _ _ (by simp; have := w.lgl; omega) ?_
 ·rintro mm σ hh ⟨q,hk,s0,s1,s9,s10,s11,gb,gn,gf⟩
  obtain rfl : q = S.lg.length := by omega
  have gm := (gf m l1 n2).trans hm
  simp (maxSteps := 2000000) (implicitDefEqProofs := false) (disch := first | omega | (simp only [SD.down,uA,uL] <;> omega) | fail) only [run_it,s0,s1,s9,s10,s11,gm,gb,env_P,env_L,TQ.down,resE,oneV, ↓reduceIte,reduceCtorEq,uB,uE,uL,uA,uM,uS,uN,uX,uO,vR,vD,vL,vK,vE,vA,vM,vT,vS]
  rw [List.take_of_length_le (Nat.le_refl _)] at gb
  first | refine G.call (clone_ok (d + 1) _ b (mKeep p S.dur 0 S.lg) (by simp (maxSteps := 2000000) (implicitDefEqProofs := false) (disch := first | omega | (simp only [SD.down,uA,uL] <;> omega) | fail) only [TQ.down,resE,oneV, ↓reduceIte,reduceCtorEq,uB,uE,uL,uA,uM,uS,uN,uX,uO,vR,vD,vL,vK,vE,vA,vM,vT,vS]; omega) (by simp (maxSteps := 2000000) (implicitDefEqProofs := false) (disch := first | omega | (simp only [SD.down,uA,uL] <;> omega) | fail) only [gb,TQ.down,resE,oneV, ↓reduceIte,reduceCtorEq,uB,uE,uL,uA,uM,uS,uN,uX,uO,vR,vD,vL,vK,vE,vA,vM,vT,vS])) ?_ | refine G.callC (clone_ok (d + 1) _ b (mKeep p S.dur 0 S.lg) (by simp (maxSteps := 2000000) (implicitDefEqProofs := false) (disch := first | omega | (simp only [SD.down,uA,uL] <;> omega) | fail) only [TQ.down,resE,oneV, ↓reduceIte,reduceCtorEq,uB,uE,uL,uA,uM,uS,uN,uX,uO,vR,vD,vL,vK,vE,vA,vM,vT,vS]; omega) (by simp (maxSteps := 2000000) (implicitDefEqProofs := false) (disch := first | omega | (simp only [SD.down,uA,uL] <;> omega) | fail) only [gb,TQ.down,resE,oneV, ↓reduceIte,reduceCtorEq,uB,uE,uL,uA,uM,uS,uN,uX,uO,vR,vD,vL,vK,vE,vA,vM,vT,vS])) ?_ | refine G.callL (clone_ok (d + 1) _ b (mKeep p S.dur 0 S.lg) (by simp (maxSteps := 2000000) (implicitDefEqProofs := false) (disch := first | omega | (simp only [SD.down,uA,uL] <;> omega) | fail) only [TQ.down,resE,oneV, ↓reduceIte,reduceCtorEq,uB,uE,uL,uA,uM,uS,uN,uX,uO,vR,vD,vL,vK,vE,vA,vM,vT,vS]; omega) (by simp (maxSteps := 2000000) (implicitDefEqProofs := false) (disch := first | omega | (simp only [SD.down,uA,uL] <;> omega) | fail) only [gb,TQ.down,resE,oneV, ↓reduceIte,reduceCtorEq,uB,uE,uL,uA,uM,uS,uN,uX,uO,vR,vD,vL,vK,vE,vA,vM,vT,vS])) ?_
  rintro v h1 ⟨rfl,rfl⟩
  simp (maxSteps := 2000000) (implicitDefEqProofs := false) (disch := first | omega | (simp only [SD.down,uA,uL] <;> omega) | fail) only [gm,gb,TQ.down,resE,oneV, ↓reduceIte,reduceCtorEq,uB,uE,uL,uA,uM,uS,uN,uX,uO,vR,vD,vL,vK,vE,vA,vM,vT,vS]
  subst hX
  refine G.ok ⟨rfl,⟨hh.next,b, .nilslice,mk,by simp (maxSteps := 2000000) (implicitDefEqProofs := false) (disch := first | omega | (simp only [SD.down,uA,uL] <;> omega) | fail) only [TQ.down,resE,oneV, ↓reduceIte,reduceCtorEq,uB,uE,uL,uA,uM,uS,uN,uX,uO,vR,vD,vL,vK,vE,vA,vM,vT,vS]; omega,by simp (maxSteps := 2000000) (implicitDefEqProofs := false) (disch := first | omega | (simp only [SD.down,uA,uL] <;> omega) | fail) only [TQ.down,resE,oneV, ↓reduceIte,reduceCtorEq,uB,uE,uL,uA,uM,uS,uN,uX,uO,vR,vD,vL,vK,vE,vA,vM,vT,vS]; omega,by simp (maxSteps := 2000000) (implicitDefEqProofs := false) (disch := first | omega | (simp only [SD.down,uA,uL] <;> omega) | fail) only [TQ.down,resE,oneV, ↓reduceIte,reduceCtorEq,uB,uE,uL,uA,uM,uS,uN,uX,uO,vR,vD,vL,vK,vE,vA,vM,vT,vS]; omega,pnt_e _ l1 c1,pnt_ge gn,pnt_e _ l3 c3,by omega,n2,by omega,by simp (maxSteps := 2000000) (implicitDefEqProofs := false) (disch := first | omega | (simp only [SD.down,uA,uL] <;> omega) | fail) only [memG,MS.settle,TQ.down,resE,oneV, ↓reduceIte,reduceCtorEq,uB,uE,uL,uA,uM,uS,uN,uX,uO,vR,vD,vL,vK,vE,vA,vM,vT,vS],by simp (maxSteps := 2000000) (implicitDefEqProofs := false) (disch := first | omega | (simp only [SD.down,uA,uL] <;> omega) | fail) only [MS.settle,TQ.down,resE,oneV, ↓reduceIte,reduceCtorEq,uB,uE,uL,uA,uM,uS,uN,uX,uO,vR,vD,vL,vK,vE,vA,vM,vT,vS],by simp (maxSteps := 2000000) (implicitDefEqProofs := false) (disch := first | omega | (simp only [SD.down,uA,uL] <;> omega) | fail) only [MS.settle,TQ.down,resE,oneV, ↓reduceIte,reduceCtorEq,uB,uE,uL,uA,uM,uS,uN,uX,uO,vR,vD,vL,vK,vE,vA,vM,vT,vS]; exact gb, .inl ⟨rfl, .inl rfl⟩, ?_⟩,⟨by simp (maxSteps := 2000000) (implicitDefEqProofs := false) (disch := first | omega | (simp only [SD.down,uA,uL] <;> omega) | fail) only [TQ.down,resE,oneV, ↓reduceIte,reduceCtorEq,uB,uE,uL,uA,uM,uS,uN,uX,uO,vR,vD,vL,vK,vE,vA,vM,vT,vS]; omega,fun j hj hc => ?_⟩⟩
  ·exact mks.swap (by simp (maxSteps := 2000000) (implicitDefEqProofs := false) (disch := first | omega | (simp only [SD.down,uA,uL] <;> omega) | fail) only [TQ.down,resE,oneV, ↓reduceIte,reduceCtorEq,uB,uE,uL,uA,uM,uS,uN,uX,uO,vR,vD,vL,vK,vE,vA,vM,vT,vS]; omega) (fun j hj hc j1 j2 _ => by
    simp (maxSteps := 2000000) (implicitDefEqProofs := false) (disch := first | omega | (simp only [SD.down,uA,uL] <;> omega) | fail) only [TQ.down,resE,oneV, ↓reduceIte,reduceCtorEq,uB,uE,uL,uA,uM,uS,uN,uX,uO,vR,vD,vL,vK,vE,vA,vM,vT,vS]
    exact gf j hj j2) pnt_e gn
  ·have j1 : j ≠ m := fun q => hc (q ▸ c1)
   have j2 : j ≠ b := fun q => hc (q ▸ c3)
   simp (maxSteps := 2000000) (implicitDefEqProofs := false) (disch := first | omega | (simp only [SD.down,uA,uL] <;> omega) | fail) only [TQ.down,resE,oneV, ↓reduceIte,reduceCtorEq,uB,uE,uL,uA,uM,uS,uN,uX,uO,vR,vD,vL,vK,vE,vA,vM,vT,vS]
   exact gf j hj j2
 ·rintro j mm σ hh ⟨q,hk,s0,s1,s9,s10,s11,gb,gn,gf⟩ ih
  have hkl : q < S.lg.length := by omega
  have hq4 : q < 4000 := by have := w.lgl; omega
  rcases hlg with ⟨e0,_⟩ | ⟨L,junk,rfl,hL1,hL2,hL3,hgL⟩
  ·rw [e0] at hkl; simp at hkl
  obtain ⟨x,hx⟩ : ∃ x,S.lg[q]? = some x := ⟨S.lg[q]'hkl,List.getElem?_eq_getElem hkl⟩
  have hcut := logC_cutj w.lg junk hx
  have hxl := w.lg x (List.mem_of_getElem? hx)
  have hwl := wrC_len x.1 x.2 hxl
  have gL := (gf L hL1 (hL3 b (by simp))).trans hgL
  have gm := (gf m l1 n2).trans hm
  have fr : ∀ H : Heap,Keeps hh H -> Fr (· = k) c h H := fun H kH => ⟨Nat.le_trans gn kH.1,fun j hj hc => (kH.2 j (by omega)).trans (gf j hj fun e => hc (e ▸ c3))⟩
  simp (maxSteps := 2000000) (implicitDefEqProofs := false) (disch := first | omega | (simp only [SD.down,uA,uL] <;> omega) | fail) only [run_it,s0,s1,s9,s10,s11,gm,gb,gL,hcut,hwl,wrZ_fold,wr_over0 x.1 0 x.2 zz hxl zz_len,wrC_0,wrC_d x.1 x.2 hxl,wrC_cut x.1 x.2 hxl,env_P,env_L,TQ.down,resE,oneV, ↓reduceIte,reduceCtorEq,uB,uE,uL,uA,uM,uS,uN,uX,uO,vR,vD,vL,vK,vE,vA,vM,vT,vS]
  rw [hp _ q (fr _ ⟨by simp (maxSteps := 2000000) (implicitDefEqProofs := false) (disch := first | omega | (simp only [SD.down,uA,uL] <;> omega) | fail) only [TQ.down,resE,oneV, ↓reduceIte,reduceCtorEq,uB,uE,uL,uA,uM,uS,uN,uX,uO,vR,vD,vL,vK,vE,vA,vM,vT,vS]; omega,fun j hj => by simp (maxSteps := 2000000) (implicitDefEqProofs := false) (disch := first | omega | (simp only [SD.down,uA,uL] <;> omega) | fail) only [TQ.down,resE,oneV, ↓reduceIte,reduceCtorEq,uB,uE,uL,uA,uM,uS,uN,uX,uO,vR,vD,vL,vK,vE,vA,vM,vT,vS]⟩)]
  have et : (if p q then mPut (mKeep p S.dur 0 (S.lg.take q)) x.1 x.2 else mKeep p S.dur 0 (S.lg.take q)) = mKeep p S.dur 0 (S.lg.take (q + 1)) := by
   rw [List.take_add_one,hx]
   show _ = mKeep p S.dur 0 (S.lg.take q ++ [x])
   rw [mKeep_snoc,List.length_take,Nat.zero_add,Nat.min_eq_left (by omega)]
  cases hpq : p q with
  | true =>
   rw [hpq,if_pos rfl] at et
   simp (maxSteps := 2000000) (implicitDefEqProofs := false) (disch := first | omega | (simp only [SD.down,uA,uL] <;> omega) | fail) only [run_it,s0,s1,s9,s10,s11,gm,gb,gL,hcut,hwl,wrZ_fold,wr_over0 x.1 0 x.2 zz hxl zz_len,wrC_0,wrC_d x.1 x.2 hxl,wrC_cut x.1 x.2 hxl,env_P,env_L,TQ.down,resE,oneV, ↓reduceIte,reduceCtorEq,uB,uE,uL,uA,uM,uS,uN,uX,uO,vR,vD,vL,vK,vE,vA,vM,vT,vS]
   first | refine G.call (put_ok (d + 3) _ b x.1 x.2 (mKeep p S.dur 0 (S.lg.take q)) hxl (by simp (maxSteps := 2000000) (implicitDefEqProofs := false) (disch := first | omega | (simp only [SD.down,uA,uL] <;> omega) | fail) only [TQ.down,resE,oneV, ↓reduceIte,reduceCtorEq,uB,uE,uL,uA,uM,uS,uN,uX,uO,vR,vD,vL,vK,vE,vA,vM,vT,vS]; omega) (by simp (maxSteps := 2000000) (implicitDefEqProofs := false) (disch := first | omega | (simp only [SD.down,uA,uL] <;> omega) | fail) only [gb,TQ.down,resE,oneV, ↓reduceIte,reduceCtorEq,uB,uE,uL,uA,uM,uS,uN,uX,uO,vR,vD,vL,vK,vE,vA,vM,vT,vS])) ?_ | refine G.callC (put_ok (d + 3) _ b x.1 x.2 (mKeep p S.dur 0 (S.lg.take q)) hxl (by simp (maxSteps := 2000000) (implicitDefEqProofs := false) (disch := first | omega | (simp only [SD.down,uA,uL] <;> omega) | fail) only [TQ.down,resE,oneV, ↓reduceIte,reduceCtorEq,uB,uE,uL,uA,uM,uS,uN,uX,uO,vR,vD,vL,vK,vE,vA,vM,vT,vS]; omega) (by simp (maxSteps := 2000000) (implicitDefEqProofs := false) (disch := first | omega | (simp only [SD.down,uA,uL] <;> omega) | fail) only [gb,TQ.down,resE,oneV, ↓reduceIte,reduceCtorEq,uB,uE,uL,uA,uM,uS,uN,uX,uO,vR,vD,vL,vK,vE,vA,vM,vT,vS])) ?_ | refine G.callL (put_ok (d + 3) _ b x.1 x.2 (mKeep p S.dur 0 (S.lg.take q)) hxl (by simp (maxSteps := 2000000) (implicitDefEqProofs := false) (disch := first | omega | (simp only [SD.down,uA,uL] <;> omega) | fail) only [TQ.down,resE,oneV, ↓reduceIte,reduceCtorEq,uB,uE,uL,uA,uM,uS,uN,uX,uO,vR,vD,vL,vK,vE,vA,vM,vT,vS]; omega) (by simp (maxSteps := 2000000) (implicitDefEqProofs := false) (disch := first | omega | (simp only [SD.down,uA,uL] <;> omega) | fail) only [gb,TQ.down,resE,oneV, ↓reduceIte,reduceCtorEq,uB,uE,uL,uA,uM,uS,uN,uX,uO,vR,vD,vL,vK,vE,vA,vM,vT,vS])) ?_
   rintro v h1 ⟨rfl,g1,g2,g3⟩
   simp (maxSteps := 2000000) (implicitDefEqProofs := false) (disch := first | omega | (simp only [SD.down,uA,uL] <;> omega) | fail) only [TQ.down,resE,oneV, ↓reduceIte,reduceCtorEq,uB,uE,uL,uA,uM,uS,uN,uX,uO,vR,vD,vL,vK,vE,vA,vM,vT,vS] at g2 g3
   rw [et] at g1
   simp (maxSteps := 2000000) (implicitDefEqProofs := false) (disch := first | omega | (simp only [SD.down,uA,uL] <;> omega) | fail) only [run_it,s0,s1,s9,s10,s11,env_P,env_L,TQ.down,resE,oneV, ↓reduceIte,reduceCtorEq,uB,uE,uL,uA,uM,uS,uN,uX,uO,vR,vD,vL,vK,vE,vA,vM,vT,vS]
   refine ih _ _ ⟨q + 1,by omega,by simp (maxSteps := 2000000) (implicitDefEqProofs := false) (disch := first | omega | (simp only [SD.down,uA,uL] <;> omega) | fail) only [s0,TQ.down,resE,oneV, ↓reduceIte,reduceCtorEq,uB,uE,uL,uA,uM,uS,uN,uX,uO,vR,vD,vL,vK,vE,vA,vM,vT,vS],by simp (maxSteps := 2000000) (implicitDefEqProofs := false) (disch := first | omega | (simp only [SD.down,uA,uL] <;> omega) | fail) only [s1,TQ.down,resE,oneV, ↓reduceIte,reduceCtorEq,uB,uE,uL,uA,uM,uS,uN,uX,uO,vR,vD,vL,vK,vE,vA,vM,vT,vS],by simp (maxSteps := 2000000) (implicitDefEqProofs := false) (disch := first | omega | (simp only [SD.down,uA,uL] <;> omega) | fail) only [s9,TQ.down,resE,oneV, ↓reduceIte,reduceCtorEq,uB,uE,uL,uA,uM,uS,uN,uX,uO,vR,vD,vL,vK,vE,vA,vM,vT,vS],by simp (maxSteps := 2000000) (implicitDefEqProofs := false) (disch := first | omega | (simp only [SD.down,uA,uL] <;> omega) | fail) only [s10,TQ.down,resE,oneV, ↓reduceIte,reduceCtorEq,uB,uE,uL,uA,uM,uS,uN,uX,uO,vR,vD,vL,vK,vE,vA,vM,vT,vS],by simp (maxSteps := 2000000) (implicitDefEqProofs := false) (disch := first | omega | (simp only [SD.down,uA,uL] <;> omega) | fail) only [TQ.down,resE,oneV, ↓reduceIte,reduceCtorEq,uB,uE,uL,uA,uM,uS,uN,uX,uO,vR,vD,vL,vK,vE,vA,vM,vT,vS],g1,by omega,fun j hj jb => by rw [g3 j (by omega) jb]; simp (maxSteps := 2000000) (implicitDefEqProofs := false) (disch := first | omega | (simp only [SD.down,uA,uL] <;> omega) | fail) only [TQ.down,resE,oneV, ↓reduceIte,reduceCtorEq,uB,uE,uL,uA,uM,uS,uN,uX,uO,vR,vD,vL,vK,vE,vA,vM,vT,vS]; exact gf j hj jb⟩
  | false =>
   rw [hpq,if_neg (by simp)] at et
   simp (maxSteps := 2000000) (implicitDefEqProofs := false) (disch := first | omega | (simp only [SD.down,uA,uL] <;> omega) | fail) only [run_it,s0,s1,s9,s10,s11,gm,gb,gL,env_P,env_L,TQ.down,resE,oneV, ↓reduceIte,reduceCtorEq,uB,uE,uL,uA,uM,uS,uN,uX,uO,vR,vD,vL,vK,vE,vA,vM,vT,vS]
   refine ih _ _ ⟨q + 1,by omega,by simp (maxSteps := 2000000) (implicitDefEqProofs := false) (disch := first | omega | (simp only [SD.down,uA,uL] <;> omega) | fail) only [s0,TQ.down,resE,oneV, ↓reduceIte,reduceCtorEq,uB,uE,uL,uA,uM,uS,uN,uX,uO,vR,vD,vL,vK,vE,vA,vM,vT,vS],by simp (maxSteps := 2000000) (implicitDefEqProofs := false) (disch := first | omega | (simp only [SD.down,uA,uL] <;> omega) | fail) only [s1,TQ.down,resE,oneV, ↓reduceIte,reduceCtorEq,uB,uE,uL,uA,uM,uS,uN,uX,uO,vR,vD,vL,vK,vE,vA,vM,vT,vS],by simp (maxSteps := 2000000) (implicitDefEqProofs := false) (disch := first | omega | (simp only [SD.down,uA,uL] <;> omega) | fail) only [s9,TQ.down,resE,oneV, ↓reduceIte,reduceCtorEq,uB,uE,uL,uA,uM,uS,uN,uX,uO,vR,vD,vL,vK,vE,vA,vM,vT,vS],by simp (maxSteps := 2000000) (implicitDefEqProofs := false) (disch := first | omega | (simp only [SD.down,uA,uL] <;> omega) | fail) only [s10,TQ.down,resE,oneV, ↓reduceIte,reduceCtorEq,uB,uE,uL,uA,uM,uS,uN,uX,uO,vR,vD,vL,vK,vE,vA,vM,vT,vS],by simp (maxSteps := 2000000) (implicitDefEqProofs := false) (disch := first | omega | (simp only [SD.down,uA,uL] <;> omega) | fail) only [TQ.down,resE,oneV, ↓reduceIte,reduceCtorEq,uB,uE,uL,uA,uM,uS,uN,uX,uO,vR,vD,vL,vK,vE,vA,vM,vT,vS],by rw [<- et]; simp (maxSteps := 2000000) (implicitDefEqProofs := false) (disch := first | omega | (simp only [SD.down,uA,uL] <;> omega) | fail) only [TQ.down,resE,oneV, ↓reduceIte,reduceCtorEq,uB,uE,uL,uA,uM,uS,uN,uX,uO,vR,vD,vL,vK,vE,vA,vM,vT,vS]; exact gb,by simp (maxSteps := 2000000) (implicitDefEqProofs := false) (disch := first | omega | (simp only [SD.down,uA,uL] <;> omega) | fail) only [TQ.down,resE,oneV, ↓reduceIte,reduceCtorEq,uB,uE,uL,uA,uM,uS,uN,uX,uO,vR,vD,vL,vK,vE,vA,vM,vT,vS]; omega,fun j hj jb => by simp (maxSteps := 2000000) (implicitDefEqProofs := false) (disch := first | omega | (simp only [SD.down,uA,uL] <;> omega) | fail) only [TQ.down,resE,oneV, ↓reduceIte,reduceCtorEq,uB,uE,uL,uA,uM,uS,uN,uX,uO,vR,vD,vL,vK,vE,vA,vM,vT,vS]; exact gf j hj jb⟩
 ·exact ⟨0,by omega,by simp (maxSteps := 2000000) (implicitDefEqProofs := false) (disch := first | omega | (simp only [SD.down,uA,uL] <;> omega) | fail) only [TQ.down,resE,oneV, ↓reduceIte,reduceCtorEq,uB,uE,uL,uA,uM,uS,uN,uX,uO,vR,vD,vL,vK,vE,vA,vM,vT,vS],by simp (maxSteps := 2000000) (implicitDefEqProofs := false) (disch := first | omega | (simp only [SD.down,uA,uL] <;> omega) | fail) only [TQ.down,resE,oneV, ↓reduceIte,reduceCtorEq,uB,uE,uL,uA,uM,uS,uN,uX,uO,vR,vD,vL,vK,vE,vA,vM,vT,vS],by simp (maxSteps := 2000000) (implicitDefEqProofs := false) (disch := first | omega | (simp only [SD.down,uA,uL] <;> omega) | fail) only [TQ.down,resE,oneV, ↓reduceIte,reduceCtorEq,uB,uE,uL,uA,uM,uS,uN,uX,uO,vR,vD,vL,vK,vE,vA,vM,vT,vS],by simp (maxSteps := 2000000) (implicitDefEqProofs := false) (disch := first | omega | (simp only [SD.down,uA,uL] <;> omega) | fail) only [TQ.down,resE,oneV, ↓reduceIte,reduceCtorEq,uB,uE,uL,uA,uM,uS,uN,uX,uO,vR,vD,vL,vK,vE,vA,vM,vT,vS],by simp (maxSteps := 2000000) (implicitDefEqProofs := false) (disch := first | omega | (simp only [SD.down,uA,uL] <;> omega) | fail) only [TQ.down,resE,oneV, ↓reduceIte,reduceCtorEq,uB,uE,uL,uA,uM,uS,uN,uX,uO,vR,vD,vL,vK,vE,vA,vM,vT,vS],hb,Nat.le_refl _,fun _ _ _ => rfl⟩
theorem m_flush (d : Nat) (h : Heap) (c : Col) (k m : Nat) (S : MS) (I : MemI h c k m S) (w : S.wf) :
  G (callD env (d + 6) 68 [.ptr m 0] h) fun v h' => v = .int .i64 S.flush.2 /\ MemI h' (pnt c h.next k) k m S.flush.1 /\ Fr (· = k) c h h' := by
 have I0 := I
 obtain ⟨a,b,lgv,mk,l1,l2,l3,c1,c2,c3,n1,n2,n3,hm,ha,hb,hlg,mks⟩ := I
 by_cases h0 : mIO S.n S.fails 0 = 0
 ·have e : S.flush = (S.settle fun _ => true,0) := if_pos h0
  rw [e]
  generalize hX : (fun (v : AV) (h' : Heap) => v = .int .i64 (S.settle fun _ => true,(0 : Int)).2 /\ MemI h' (pnt c h.next k) k m (S.settle fun _ => true,(0 : Int)).1 /\ Fr (· = k) c h h') = Q
  rw [callD_run (E := env) [] (by kernel_rfl) Try.func68 rfl (by rw [Try.ntmps68]; simp) (by kernel_rfl)]; simp (maxSteps := 2000000) (implicitDefEqProofs := false) (disch := first | omega | (simp only [SD.down,uA,uL] <;> omega) | fail) only [Try.ntmps68,Try.results68,env_P,env_L,TQ.down,resE,oneV, ↓reduceIte,reduceCtorEq,uB,uE,uL,uA,uM,uS,uN,uX,uO,vR,vD,vL,vK,vE,vA,vM,vT,vS]
  first | refine G.call (io_G (d + 2) h m S.n a b lgv mk S.fails S.hurt 0 w.n0 hm) ?_ | refine G.callC (io_G (d + 2) h m S.n a b lgv mk S.fails S.hurt 0 w.n0 hm) ?_ | refine G.callL (io_G (d + 2) h m S.n a b lgv mk S.fails S.hurt 0 w.n0 hm) ?_
  rintro v h1 ⟨rfl,rfl⟩
  rw [h0]
  simp (maxSteps := 2000000) (implicitDefEqProofs := false) (disch := first | omega | (simp only [SD.down,uA,uL] <;> omega) | fail) only [TQ.down,resE,oneV, ↓reduceIte,reduceCtorEq,uB,uE,uL,uA,uM,uS,uN,uX,uO,vR,vD,vL,vK,vE,vA,vM,vT,vS]
  first | refine G.call (m_settle d _ c k m S I0 w 81 [] (fun _ => true) (by simp) (fun H q _ => by rw [callD_run (E := env) [] (by kernel_rfl) Try.func81 rfl (by rw [Try.ntmps81]; simp) (by kernel_rfl)]; simp (maxSteps := 2000000) (implicitDefEqProofs := false) (disch := first | omega | (simp only [SD.down,uA,uL] <;> omega) | fail) only [Try.ntmps81,Try.results81,env_P,env_L,TQ.down,resE,oneV, ↓reduceIte,reduceCtorEq,uB,uE,uL,uA,uM,uS,uN,uX,uO,vR,vD,vL,vK,vE,vA,vM,vT,vS])) ?_ | refine G.callC (m_settle d _ c k m S I0 w 81 [] (fun _ => true) (by simp) (fun H q _ => by rw [callD_run (E := env) [] (by kernel_rfl) Try.func81 rfl (by rw [Try.ntmps81]; simp) (by kernel_rfl)]; simp (maxSteps := 2000000) (implicitDefEqProofs := false) (disch := first | omega | (simp only [SD.down,uA,uL] <;> omega) | fail) only [Try.ntmps81,Try.results81,env_P,env_L,TQ.down,resE,oneV, ↓reduceIte,reduceCtorEq,uB,uE,uL,uA,uM,uS,uN,uX,uO,vR,vD,vL,vK,vE,vA,vM,vT,vS])) ?_ | refine G.callL (m_settle d _ c k m S I0 w 81 [] (fun _ => true) (by simp) (fun H q _ => by rw [callD_run (E := env) [] (by kernel_rfl) Try.func81 rfl (by rw [Try.ntmps81]; simp) (by kernel_rfl)]; simp (maxSteps := 2000000) (implicitDefEqProofs := false) (disch := first | omega | (simp only [SD.down,uA,uL] <;> omega) | fail) only [Try.ntmps81,Try.results81,env_P,env_L,TQ.down,resE,oneV, ↓reduceIte,reduceCtorEq,uB,uE,uL,uA,uM,uS,uN,uX,uO,vR,vD,vL,vK,vE,vA,vM,vT,vS])) ?_
  rintro v h2 ⟨rfl,r⟩
  simp (maxSteps := 2000000) (implicitDefEqProofs := false) (disch := first | omega | (simp only [SD.down,uA,uL] <;> omega) | fail) only [TQ.down,resE,oneV, ↓reduceIte,reduceCtorEq,uB,uE,uL,uA,uM,uS,uN,uX,uO,vR,vD,vL,vK,vE,vA,vM,vT,vS]
  subst hX
  exact G.ok ⟨rfl,r⟩
 ·have e : S.flush = (S,mIO S.n S.fails 0) := if_neg h0
  rw [e]
  refine (flush_no d h m S.n a b lgv mk S.fails S.hurt w.n0 hm h0).mono ?_
  rintro v h' ⟨rfl,rfl⟩
  exact ⟨rfl,I0.keep (Nat.le_refl _) (fun _ _ _ => rfl) pnt_e, .refl _ _ _⟩
structure Stp where
 tm : Int
 kind : Int
 m : Int
 i : Int
 n : Int
 data : List Nat
 picks : List Nat
def Stp.C (s : Stp) (v : AV) : List AV := [.int .i64 s.tm, .int .i64 s.kind, .int .i64 s.m, .int .i64 s.i, .int .i64 s.n] ++ (B s.data ++ [v])
structure BS where
 ms : List MS
 cell : List (Nat × List Nat)
 steps : List Stp
 off : Bool
 log : List Ent
structure BS.wf (b : BS) : Prop where
 ms : ∀ S ∈ b.ms,S.wf
 msl : b.ms.length <= 64
 ms0 : 0 < b.ms.length
 cell : ∀ x ∈ b.cell,x.2.length = 32
 celll : b.cell.length < 4000
 cell0 : 0 < b.cell.length
 stl : b.steps.length < 4000
 st : ∀ s ∈ b.steps,s.data.length = 64
 logl : b.log.length < 3990
 log : ∀ t ∈ b.log,t.x.length = 64
def PickI (h : Heap) (c : Col) (k : Nat) (v : AV) (ex : List Nat) (l : List Nat) : Prop :=
 (l = [] /\ (v = .nilslice \/ ∃ q o n,v = .slice q o 0 n)) \/ ∃ (K : Nat),v = .eslice K 0 0 l.length /\ K < h.next /\ c K = k /\ (∀ e ∈ ex,K ≠ e) /\ h.get K = some (.cells (B l) 1 false)
def stpsC (l : List (Stp × AV)) : List AV := l.flatMap fun x => x.1.C x.2
def StI (h : Heap) (c : Col) (k : Nat) (v : AV) (ex : List Nat) (l : List Stp) : Prop :=
 (l = [] /\ (v = .nilslice \/ ∃ q o n,v = .slice q o 0 n)) \/ ∃ (K : Nat) (vs : List AV),v = .eslice K 0 0 l.length /\ K < h.next /\ c K = k /\ (∀ e ∈ ex,K ≠ e) /\ vs.length = l.length /\ h.get K = some (.cells (stpsC (l.zip vs)) 70 false) /\
  ∀ (i : Nat) (s : Stp) (u : AV),l[i]? = some s -> vs[i]? = some u -> PickI h c k u ex s.picks
def BLogJ (h : Heap) (c : Col) (k : Nat) (v : AV) (ex : List Nat) (l : List Ent) : Prop :=
 (l = [] /\ v = .nilslice) \/ ∃ (L : Nat),v = .eslice L 0 0 l.length /\ L < h.next /\ c L = k /\ (∀ e ∈ ex,L ≠ e) /\ h.get L = some (.cells (blogC l) 68 false) /\ l ≠ []
def CellI (h : Heap) (c : Col) (k cp : Nat) (l : List (Nat × List Nat)) : Prop :=
 ∃ (hv : AV) (K : Nat),cp < h.next /\ c cp = k /\ h.get cp = some (.cells [hv] 0 false) /\ HisIs h hv K l /\ c K = k /\ K ≠ cp
def busK (kb n : Nat) : Prop := n = 1 \/ (kb <= n /\ n < kb + 100)
def BusI (h : Heap) (c : Col) (kb β cp : Nat) (ps : List Nat) (b : BS) : Prop := ∃ (Ms : Nat) (stv lgv : AV),
 β < h.next /\ c β = kb /\ Ms < h.next /\ c Ms = kb /\ β ≠ Ms /\
 h.get β = some (.cells [.eslice Ms 0 0 b.ms.length, .ptr cp 0,stv, .bool b.off,lgv] 0 false) /\
 h.get Ms = some (.cells (ps.map (AV.ptr · 0)) 1 false) /\ ps.length = b.ms.length /\
 (∀ (i p : Nat) (S : MS),ps[i]? = some p -> b.ms[i]? = some S -> MemI h c (kb + 2 + i) p S) /\
 CellI h c (kb + 1) cp b.cell /\ StI h c kb stv [β,Ms] b.steps /\ BLogJ h c kb lgv [β,Ms] b.log
theorem PickI.keep {h h' : Heap} {c c' : Col} {k : Nat} {v : AV} {ex : List Nat} {l : List Nat} (x : PickI h c k v ex l) (n : h.next <= h'.next) (g : ∀ j,j < h.next -> c j = k -> (∀ e ∈ ex,j ≠ e) -> (∀ q,h.get j ≠ some (.cells q 68 false)) -> h'.get j = h.get j) (e : ∀ j,j < h.next -> c j = k -> c' j = k) : PickI h' c' k v ex l := by
 rcases x with x | ⟨K,rfl,h1,h2,h3,h4⟩
 ·exact .inl x
 ·exact .inr ⟨K,rfl,Nat.lt_of_lt_of_le h1 n,e _ h1 h2,h3,(g K h1 h2 h3 (fun q hq => by rw [h4] at hq; cases hq)).trans h4⟩
theorem StI.keep {h h' : Heap} {c c' : Col} {k : Nat} {v : AV} {ex : List Nat} {l : List Stp} (x : StI h c k v ex l) (n : h.next <= h'.next) (g : ∀ j,j < h.next -> c j = k -> (∀ e ∈ ex,j ≠ e) -> (∀ q,h.get j ≠ some (.cells q 68 false)) -> h'.get j = h.get j) (e : ∀ j,j < h.next -> c j = k -> c' j = k) : StI h' c' k v ex l := by
 rcases x with x | ⟨K,vs,rfl,h1,h2,h3,h4,h5,h6⟩
 ·exact .inl x
 ·exact .inr ⟨K,vs,rfl,Nat.lt_of_lt_of_le h1 n,e _ h1 h2,h3,h4,(g K h1 h2 h3 (fun q hq => by rw [h5] at hq; cases hq)).trans h5,fun i s u a b => (h6 i s u a b).keep n g e⟩
theorem BLogJ.keep {h h' : Heap} {c c' : Col} {k : Nat} {v : AV} {ex : List Nat} {l : List Ent} (x : BLogJ h c k v ex l) (n : h.next <= h'.next) (g : ∀ j,j < h.next -> c j = k -> (∀ e ∈ ex,j ≠ e) -> h'.get j = h.get j) (e : ∀ j,j < h.next -> c j = k -> c' j = k) : BLogJ h' c' k v ex l := by
 rcases x with x | ⟨L,rfl,h1,h2,h3,h4⟩
 ·exact .inl x
 ·exact .inr ⟨L,rfl,Nat.lt_of_lt_of_le h1 n,e _ h1 h2,h3,(g L h1 h2 h3).trans h4.1,h4.2⟩
theorem CellI.keep {h h' : Heap} {c c' : Col} {k cp : Nat} {l : List (Nat × List Nat)} (x : CellI h c k cp l) (n : h.next <= h'.next) (g : ∀ j,j < h.next -> c j = k -> h'.get j = h.get j) (e : ∀ j,j < h.next -> c j = k -> c' j = k) : CellI h' c' k cp l := by
 obtain ⟨hv,K,h1,h2,h3,h4,h5,h6⟩ := x
 exact ⟨hv,K,Nat.lt_of_lt_of_le h1 n,e _ h1 h2,(g _ h1 h2).trans h3,h4.keep n (fun hK => g K hK h5),e _ h4.lt h5,h6⟩
theorem BusI.keep {h h' : Heap} {c c' : Col} {kb β cp : Nat} {ps : List Nat} {b : BS} (x : BusI h c kb β cp ps b) (ml : b.ms.length <= 64) (n : h.next <= h'.next) (g : ∀ j,j < h.next -> kb <= c j -> c j < kb + 100 -> h'.get j = h.get j) (e : ∀ j,j < h.next -> c' j = c j) : BusI h' c' kb β cp ps b := by
 obtain ⟨Ms,stv,lgv,l1,c1,l2,c2,n1,g1,g2,pl,mm,ce,st,lg⟩ := x
 have e' : ∀ k j,j < h.next -> c j = k -> c' j = k := fun k j hj hk => (e j hj).trans hk
 have g' : ∀ k,kb <= k -> k < kb + 100 -> ∀ j,j < h.next -> c j = k -> h'.get j = h.get j := fun k hk1 hk2 j hj hk => g j hj (by omega) (by omega)
 refine ⟨Ms,stv,lgv,Nat.lt_of_lt_of_le l1 n,e' _ _ l1 c1,Nat.lt_of_lt_of_le l2 n,e' _ _ l2 c2,n1,(g' kb (by omega) (by omega) _ l1 c1).trans g1,(g' kb (by omega) (by omega) _ l2 c2).trans g2,pl,fun i p S hp hS => (mm i p S hp hS).keep n (g' _ (by omega) ?_) (e' _),ce.keep n (g' _ (by omega) (by omega)) (e' _),st.keep n (fun j hj hk _ _ => g' kb (by omega) (by omega) j hj hk) (e' _),lg.keep n (fun j hj hk _ => g' kb (by omega) (by omega) j hj hk) (e' _)⟩
 have := (List.getElem?_eq_some_iff.1 hS).1
 omega
theorem BusI.keeps {h h' : Heap} {c c' : Col} {kb β cp : Nat} {ps : List Nat} {b : BS} (x : BusI h c kb β cp ps b) (ml : b.ms.length <= 64) (k : Keeps h h') (e : ∀ j,j < h.next -> c' j = c j) : BusI h' c' kb β cp ps b :=
 x.keep ml k.1 (fun j hj _ _ => k.2 j hj) e
theorem StI.len {h : Heap} {c : Col} {k : Nat} {v : AV} {ex : List Nat} {l : List Stp} (x : StI h c k v ex l) : lenE Try.prog 49 v = some (.int .i64 (l.length : Int)) := by
 rcases x with ⟨rfl,rfl | ⟨q,o,n,rfl⟩⟩ | ⟨L,vs,rfl,_⟩
 ·exact lnn49
 ·exact lns49 ..
 ·exact lne49 ..
theorem StI.ok {h : Heap} {c : Col} {k : Nat} {v : AV} {ex : List Nat} {l : List Stp} (x : StI h c k v ex l) : okv v = some v := by
 rcases x with ⟨rfl,rfl | ⟨q,o,n,rfl⟩⟩ | ⟨L,vs,rfl,_⟩ <;> rfl
theorem StI.same {h : Heap} {c : Col} {k : Nat} {v : AV} {ex : List Nat} {l : List Stp} (x : StI h c k v ex l) : AV.same v v = true := by
 rcases x with ⟨rfl,rfl | ⟨q,o,n,rfl⟩⟩ | ⟨L,vs,rfl,_⟩
 ·rfl
 ·exact same_slice ..
 ·exact same_eslice ..
theorem BLogJ.ok {h : Heap} {c : Col} {k : Nat} {v : AV} {ex : List Nat} {l : List Ent} (x : BLogJ h c k v ex l) : okv v = some v := by
 rcases x with ⟨_,rfl⟩ | ⟨L,rfl,_⟩ <;> rfl
theorem BLogJ.same {h : Heap} {c : Col} {k : Nat} {v : AV} {ex : List Nat} {l : List Ent} (x : BLogJ h c k v ex l) : AV.same v v = true := by
 rcases x with ⟨_,rfl⟩ | ⟨L,rfl,_⟩
 ·rfl
 ·exact same_eslice ..
theorem BLogJ.len {h : Heap} {c : Col} {k : Nat} {v : AV} {ex : List Nat} {l : List Ent} (x : BLogJ h c k v ex l) : lenE Try.prog 50 v = some (.int .i64 (l.length : Int)) := by
 rcases x with ⟨rfl,rfl⟩ | ⟨L,rfl,_⟩
 ·exact lnn50
 ·exact lne50 ..
theorem app62j {t : Ent} (ht : t.x.length = 64) {h : Heap} {c : Col} {kb : Nat} {lgv : AV} {ex : List Nat} {k : Nat} {l : List Ent} (hl : ∀ u ∈ l,u.x.length = 64) (hn : l.length < 4000) (hL : BLogJ h c kb lgv ex l) (hk : h.get k = some (.cells (entG t) 0 false)) :
  ∃ h',appE Try.prog 50 lgv (.slice k 0 1 1) h = some (.eslice h.next 0 0 (l.length + 1),h') /\ h'.next = h.next + 1 /\ h'.get h.next = some (.cells (blogC (l ++ [t])) 68 false) /\ ∀ j,j < h.next -> (c j ≠ kb \/ j ∈ ex \/ (∀ q,h.get j ≠ some (.cells q 68 false))) -> h'.get j = h.get j := by
 have e : blogC (l ++ [t]) = blogC l ++ entG t := by simp [blogC]
 rcases hL with ⟨rfl,rfl⟩ | ⟨L,rfl,hLn,hLc,hLe,hg,_⟩
 ·refine ⟨_,app_nil el50 hk (entG_cut t ht) (entG_len t ht) (entG_sc t),by simp, ?_,fun j hj _ => ?_⟩
  ·rw [e]; simp (maxSteps := 2000000) (implicitDefEqProofs := false) (disch := first | omega | (simp only [SD.down,uA,uL] <;> omega) | fail) only [TQ.down,resE,oneV, ↓reduceIte,reduceCtorEq,uB,uE,uL,uA,uM,uS,uN,uX,uO,vR,vD,vL,vK,vE,vA,vM,vT,vS]; rfl
  ·simp (maxSteps := 2000000) (implicitDefEqProofs := false) (disch := first | omega | (simp only [SD.down,uA,uL] <;> omega) | fail) only [TQ.down,resE,oneV, ↓reduceIte,reduceCtorEq,uB,uE,uL,uA,uM,uS,uN,uX,uO,vR,vD,vL,vK,vE,vA,vM,vT,vS]
 ·refine ⟨_,app_es el50 hg (blogC_len hl) (by omega) hk (entG_cut t ht) (entG_len t ht) (entG_sc t),by simp (maxSteps := 2000000) (implicitDefEqProofs := false) (disch := first | omega | (simp only [SD.down,uA,uL] <;> omega) | fail) only [TQ.down,resE,oneV, ↓reduceIte,reduceCtorEq,uB,uE,uL,uA,uM,uS,uN,uX,uO,vR,vD,vL,vK,vE,vA,vM,vT,vS], ?_,fun j hj hj2 => ?_⟩
  ·rw [e]; simp (maxSteps := 2000000) (implicitDefEqProofs := false) (disch := first | omega | (simp only [SD.down,uA,uL] <;> omega) | fail) only [TQ.down,resE,oneV, ↓reduceIte,reduceCtorEq,uB,uE,uL,uA,uM,uS,uN,uX,uO,vR,vD,vL,vK,vE,vA,vM,vT,vS]
  ·have : j ≠ L := by
    rintro rfl
    rcases hj2 with q | q | q
    ·exact q hLc
    ·exact hLe _ q rfl
    ·exact q _ hg
   simp (maxSteps := 2000000) (implicitDefEqProofs := false) (disch := first | omega | (simp only [SD.down,uA,uL] <;> omega) | fail) only [TQ.down,resE,oneV, ↓reduceIte,reduceCtorEq,uB,uE,uL,uA,uM,uS,uN,uX,uO,vR,vD,vL,vK,vE,vA,vM,vT,vS]
def MS.may (S : MS) (i : Int) : Int := mIO S.n false i
def MS.set (S : MS) (i : Int) (s : List Nat) : MS := if S.may i = 0 then { S with lg := S.lg.filter fun x => decide (x.1 ≠ i),seen := mPut S.seen i s,dur := mPut S.dur i s,hurt := true } else S
def MS.mark (S : MS) : MS := if S.marks.length = 64 then S else { S with marks := S.marks ++ [S.seen] }
def MS.back (S : MS) (n : Int) : MS := if n < 0 then S else match S.marks[n.toNat]? with
 | some l => { S with seen := l,dur := l,lg := [],hurt := true }
 | none => S
def MS.fail (S : MS) (on : Bool) : MS := { S with fails := on,hurt := S.hurt || on }
def MS.crash (S : MS) (p : List Nat) : MS := S.settle fun k => decide (p.getD k 0 % 256 ≠ 0)
def crashL : List MS -> List Nat -> List MS
 | [],_ => []
 | S :: r,p => S.crash (p.take S.lg.length) :: crashL r (p.drop S.lg.length)
def MS.did (S : MS) (s : Stp) : MS := if s.kind = 1 then S.set s.i s.data else if s.kind = 2 then S.mark else if s.kind = 3 then S.back s.n else if s.kind = 4 then S.fail true else S.fail false
def BS.step (b : BS) (s : Stp) : BS := if s.kind = 6 then { b with ms := crashL b.ms s.picks,off := true } else
 if s.kind < 1 \/ 5 < s.kind \/ s.m < 0 \/ (b.ms.length : Int) <= s.m then b else { b with ms := b.ms.modify s.m.toNat fun S => S.did s }
def aheadL (now : Nat) : List Stp -> BS -> BS
 | [],b => b
 | s :: r,b => aheadL now r (if s.tm = now then b.step s else b)
def BS.ahead (b : BS) : BS := aheadL b.log.length b.steps b
theorem Stp.C_len (s : Stp) (v : AV) (hs : s.data.length = 64) : (s.C v).length = 70 := by simp [Stp.C,hs,B_len]
theorem settle_wf {S : MS} (w : S.wf) (p : Nat -> Bool) : (S.settle p).wf :=
 ⟨w.n0,(by show 0 < 4000; omega),(fun x hx => by cases hx),mKeep_ok p _ _ _ w.dur w.lg,mKeep_ok p _ _ _ w.dur w.lg,w.mkl,w.mks⟩
theorem write_wf {S : MS} (w : S.wf) (hl : S.lg.length < 3999) (i : Int) {s : List Nat} (hs : s.length = 64) : (S.write i s).1.wf := by
 unfold MS.write
 split
 ·refine ⟨w.n0,by simp; omega,fun x hx => ?_,mPut_ok w.seen i hs,w.dur,w.mkl,w.mks⟩
  rcases List.mem_append.1 hx with q | q
  ·exact w.lg x q
  ·simp at q; subst q; exact hs
 ·exact w
theorem flush_wf {S : MS} (w : S.wf) : S.flush.1.wf := by
 unfold MS.flush
 split
 ·exact settle_wf w _
 ·exact w
theorem did_wf {S : MS} (w : S.wf) (s : Stp) (hs : s.data.length = 64) : (S.did s).wf := by
 unfold MS.did
 split
 ·unfold MS.set
  split
  ·exact ⟨w.n0,Nat.lt_of_le_of_lt (List.length_filter_le ..) w.lgl,fun x hx => w.lg x (List.mem_filter.1 hx).1,mPut_ok w.seen _ hs,mPut_ok w.dur _ hs,w.mkl,w.mks⟩
  ·exact w
 split
 ·unfold MS.mark
  split
  ·exact w
  ·rename_i h1
   refine ⟨w.n0,w.lgl,w.lg,w.seen,w.dur, ?_,fun l hl => ?_⟩
   ·have := w.mkl; simp; omega
   ·rcases List.mem_append.1 hl with q | q
    ·exact w.mks l q
    ·simp at q; subst q; exact w.seen
 split
 ·unfold MS.back
  split
  ·exact w
  ·split
   ·rename_i l hl
    have := w.mks l (List.mem_of_getElem? hl)
    exact ⟨w.n0,(by show 0 < 4000; omega),(fun x hx => by cases hx),this,this,w.mkl,w.mks⟩
   ·exact w
 split <;> exact ⟨w.n0,w.lgl,w.lg,w.seen,w.dur,w.mkl,w.mks⟩
theorem crashL_len : ∀ (l : List MS) (p : List Nat),(crashL l p).length = l.length
 | [],_ => rfl
 | S :: r,p => by simp [crashL,crashL_len r]
theorem crashL_wf : ∀ (l : List MS) (p : List Nat),(∀ S ∈ l,S.wf) -> ∀ S ∈ crashL l p,S.wf
 | [],_,_,S,hS => by cases hS
 | T :: r,p,h,S,hS => by
  rw [crashL] at hS
  rcases List.mem_cons.1 hS with rfl | hS
  ·exact settle_wf (h T (by simp)) _
  ·exact crashL_wf r _ (fun S hS => h S (List.mem_cons_of_mem _ hS)) S hS
theorem modify_wf {l : List MS} {i : Nat} {f : MS -> MS} (h : ∀ S ∈ l,S.wf) (hf : ∀ S ∈ l,S.wf -> (f S).wf) : ∀ S ∈ l.modify i f,S.wf := by
 intro S hS
 obtain ⟨j,hj⟩ := List.mem_iff_getElem?.1 hS
 rw [List.getElem?_modify] at hj
 cases hq : l[j]? with
 | none => rw [hq] at hj; simp at hj
 | some T =>
  rw [hq] at hj
  have hT := List.mem_of_getElem? hq
  simp at hj
  split at hj <;> subst hj
  ·exact hf T hT (h T hT)
  ·exact h T hT
theorem BS.step_wf {b : BS} (w : b.wf) (s : Stp) (hs : s.data.length = 64) : (b.step s).wf := by
 unfold BS.step
 split
 ·exact ⟨crashL_wf _ _ w.ms,by rw [crashL_len]; exact w.msl,by rw [crashL_len]; exact w.ms0,w.cell,w.celll,w.cell0,w.stl,w.st,w.logl,w.log⟩
 ·split
  ·exact w
  ·exact ⟨modify_wf w.ms fun S _ hS => did_wf hS s hs,by rw [List.length_modify]; exact w.msl,by rw [List.length_modify]; exact w.ms0,w.cell,w.celll,w.cell0,w.stl,w.st,w.logl,w.log⟩
theorem BS.step_len (b : BS) (s : Stp) : (b.step s).ms.length = b.ms.length := by
 unfold BS.step
 split
 ·exact crashL_len _ _
 ·split
  ·rfl
  ·exact List.length_modify ..
theorem BS.step_steps (b : BS) (s : Stp) : (b.step s).steps = b.steps /\ (b.step s).log = b.log /\ (b.step s).cell = b.cell := by
 unfold BS.step
 split
 ·exact ⟨rfl,rfl,rfl⟩
 ·split <;> exact ⟨rfl,rfl,rfl⟩
theorem aheadL_app (now : Nat) (s : Stp) : ∀ (l : List Stp) (b : BS),aheadL now (l ++ [s]) b = if s.tm = now then (aheadL now l b).step s else aheadL now l b
 | [],b => rfl
 | t :: r,b => by rw [List.cons_append,aheadL,aheadL,aheadL_app now s r]
theorem aheadL_steps (now : Nat) : ∀ (l : List Stp) (b : BS),(aheadL now l b).steps = b.steps /\ (aheadL now l b).log = b.log /\ (aheadL now l b).cell = b.cell /\ (aheadL now l b).ms.length = b.ms.length
 | [],b => ⟨rfl,rfl,rfl,rfl⟩
 | t :: r,b => by
  rw [aheadL]
  obtain ⟨h1,h2,h3,h4⟩ := aheadL_steps now r (if t.tm = now then b.step t else b)
  rw [h1,h2,h3,h4]
  split
  ·obtain ⟨g1,g2,g3⟩ := b.step_steps t
   exact ⟨g1,g2,g3,b.step_len t⟩
  ·exact ⟨rfl,rfl,rfl,rfl⟩
theorem aheadL_wf (now : Nat) : ∀ (l : List Stp) (b : BS),b.wf -> (∀ s ∈ l,s.data.length = 64) -> (aheadL now l b).wf
 | [],b,w,_ => w
 | t :: r,b,w,h => by
  rw [aheadL]
  refine aheadL_wf now r _ ?_ fun s hs => h s (List.mem_cons_of_mem _ hs)
  split
  ·exact BS.step_wf w t (h t (by simp))
  ·exact w
theorem flat_len {α : Type} (f : α -> List AV) (n : Nat) : ∀ (l : List α),(∀ x ∈ l,(f x).length = n) -> (l.flatMap f).length = l.length * n
 | [],_ => by simp
 | x :: l,h => by
  have h1 := h x (by simp)
  have h2 := flat_len f n l fun y hy => h y (List.mem_cons_of_mem _ hy)
  simp only [List.flatMap_cons,List.length_append,List.length_cons,Nat.succ_mul,h2,h1]
  omega
theorem flat_cut {α : Type} (f : α -> List AV) (n : Nat) : ∀ (l : List α) (k : Nat) (x : α),(∀ x ∈ l,(f x).length = n) -> l[k]? = some x -> cutE (k * n) n (l.flatMap f) = some (f x)
 | [],k,x,_,hk => by simp at hk
 | y :: l,k,x,h,hk => by
  have hy := h y (by simp)
  have hl' := fun z hz => h z (List.mem_cons_of_mem _ hz)
  have hll := flat_len f n l hl'
  rw [List.flatMap_cons]
  cases k with
  | zero =>
   simp at hk
   subst hk
   rw [Nat.zero_mul,cutE_of (by rw [List.length_append,hy]; omega),List.drop_zero,List.take_append_of_le_length (by omega),List.take_of_length_le (by omega)]
  | succ k =>
   have hk' : l[k]? = some x := by simpa using hk
   have h2 := flat_cut f n l k x hl' hk'
   have hkl : k < l.length := (List.getElem?_eq_some_iff.1 hk').1
   have hm : k * n + n <= l.length * n := by rw [<- Nat.succ_mul]; exact Nat.mul_le_mul_right _ hkl
   have e1 : (k + 1) * n = n + k * n := by rw [Nat.succ_mul]; omega
   rw [cutE_of (by rw [hll]; omega)] at h2
   rw [cutE_of (by rw [List.length_append,hy,hll]; omega),e1,List.drop_append,hy,List.drop_of_length_le (by omega),List.nil_append,show n + k * n - n = k * n by omega]
   exact h2
theorem allSc_app {a b : List AV} (ha : allSc a = true) (hb : allSc b = true) : allSc (a ++ b) = true := by
 simp only [allSc] at *
 rw [List.all_append,ha,hb]; rfl
theorem Stp.C_sc (s : Stp) (v : AV) (hv : isSc v = true) : allSc (s.C v) = true := by
 unfold Stp.C
 refine allSc_app rfl (allSc_app (allSc_B _) ?_)
 simp only [allSc,List.all_cons,List.all_nil,hv]; rfl
theorem PickI.sc {h : Heap} {c : Col} {k : Nat} {v : AV} {ex : List Nat} {l : List Nat} (x : PickI h c k v ex l) : isSc v = true := by
 rcases x with ⟨_,rfl | ⟨q,o,n,rfl⟩⟩ | ⟨K,rfl,_⟩ <;> rfl
theorem stp_cut (s : Stp) (v : AV) (hs : s.data.length = 64) : cutE 0 70 (s.C v) = some (s.C v) := cut_all (by simp [s.C_len v hs])
theorem stp_ov (s : Stp) (v : AV) (hs : s.data.length = 64) (hv : isSc v = true) : overE 0 (s.C v) stpZ = some (s.C v) := by rw [overE_n,s.C_len v hs,ovN_full (by simp [stpZ_len]),s.C_sc v hv,scE_true]
theorem stp_0 (s : Stp) (v : AV) : (s.C v)[0]? = some (.int .i64 s.tm) := rfl
theorem BusI.logged {h h' : Heap} {c c' : Col} {kb β cp Ms L : Nat} {ps : List Nat} {b : BS} {stv : AV} {log : List Ent} (ml : b.ms.length <= 64) (kb10 : 10 <= kb)
  (l1 : β < h.next) (c1 : c β = kb) (l2 : Ms < h.next) (c2 : c Ms = kb) (n1 : β ≠ Ms) (g2 : h.get Ms = some (.cells (ps.map (AV.ptr · 0)) 1 false)) (pl : ps.length = b.ms.length)
  (mm : ∀ (i p : Nat) (S : MS),ps[i]? = some p -> b.ms[i]? = some S -> MemI h c (kb + 2 + i) p S) (ce : CellI h c (kb + 1) cp b.cell) (st : StI h c kb stv [β,Ms] b.steps)
  (n : h.next <= h'.next) (gβ : h'.get β = some (.cells [.eslice Ms 0 0 b.ms.length, .ptr cp 0,stv, .bool b.off, .eslice L 0 0 log.length] 0 false)) (gL : h'.get L = some (.cells (blogC log) 68 false)) (gl0 : log ≠ []) (hL : h.next <= L) (hL2 : L < h'.next) (hLc : c' L = kb)
  (g : ∀ j,j < h.next -> j ≠ β -> kb <= c j -> (c j ≠ kb \/ j ∈ [β,Ms] \/ (∀ q,h.get j ≠ some (.cells q 68 false))) -> h'.get j = h.get j) (e : ∀ j,j < h.next -> c' j = c j) :
  BusI h' c' kb β cp ps { b with log := log } := by
 have e' : ∀ k j,j < h.next -> c j = k -> c' j = k := fun k j hj hk => (e j hj).trans hk
 refine ⟨Ms,stv, .eslice L 0 0 log.length,Nat.lt_of_lt_of_le l1 n,e' _ _ l1 c1,Nat.lt_of_lt_of_le l2 n,e' _ _ l2 c2,n1,gβ,(g Ms l2 (Ne.symm n1) (by omega) (.inr (.inl (by simp)))).trans g2,pl,fun i p S hp hS => (mm i p S hp hS).keep n (fun j hj hc => g j hj (fun q => ?_) (by omega) (.inl (by omega))) (e' _),ce.keep n (fun j hj hc => g j hj (fun q => ?_) (by omega) (.inl (by omega))) (e' _),st.keep n (fun j hj hc he hq => g j hj (he _ (by simp)) (by omega) (.inr (.inr hq))) (e' _), .inr ⟨L,rfl,hL2,hLc,fun x hx => ?_,gL,gl0⟩⟩
 ·rw [q,c1] at hc; omega
 ·rw [q,c1] at hc; omega
 ·simp only [List.mem_cons,List.not_mem_nil,or_false] at hx; omega
def BS.ioR (b : BS) (t : Ent) (act : BS -> Int × List Nat × BS) : Ent × BS :=
 let r := if b.ahead.off then (13,t.x,b.ahead) else act b.ahead
 ({ t with x := r.2.1,e := r.1 }, { r.2.2 with log := b.log ++ [{ t with x := r.2.1,e := r.1 }] })
structure FrZ (K : Nat -> Prop) (z : Option (Nat × Blk)) (c : Col) (h h' : Heap) : Prop where
 le : h.next <= h'.next
 get : ∀ j,j < h.next -> ¬ K (c j) -> (∀ q,z = some q -> j ≠ q.1) -> h'.get j = h.get j
set_option maxHeartbeats 8000000 in
theorem bus_ioZ (d : Nat) (h : Heap) (c : Col) (kb β cp F : Nat) (ps : List Nat) (b : BS) (caps : List AV) (t : Ent) (act : BS -> Int × List Nat × BS) (zO : Option (Nat × Blk)) (hzO : ∀ q,zO = some q -> q.1 < h.next /\ ¬ busK kb (c q.1)) (kb10 : 10 <= kb) (I : BusI h c kb β cp ps b) (w : b.wf) (ht : t.x.length = 64) (hcl : caps.length <= 4)
  (hact : (act b.ahead).2.2.wf /\ (act b.ahead).2.2.log = b.log /\ (act b.ahead).2.1.length = 64)
  (hst : ∀ (H : Heap) (C : Col) (bb : BS) (s : Stp) (u : AV) (Ms : Nat),s ∈ b.steps -> s.tm = b.log.length -> bb.wf -> bb.ms.length = b.ms.length -> BusI H C kb β cp ps bb -> PickI H C kb u [β,Ms] s.picks -> G (callD env (d + 7) 83 [.ptr β 0, .agg (s.C u)] H) fun v h' => v = .tup [] /\ ∃ C',BusI h' C' kb β cp ps (bb.step s) /\ H.next <= h'.next /\ (∀ j,j < H.next -> C' j = C j) /\ ∀ j,j < H.next -> (C j < kb + 2 \/ kb + 100 <= C j) -> j ≠ β -> h'.get j = H.get j)
  (hdo : ∀ (H : Heap) (C : Col) (x : Nat),BusI H C kb β cp ps b.ahead -> b.ahead.off = false -> h.next <= x -> x < H.next -> C x = 1 -> H.get x = some (.cells (entG t) 0 false) -> (∀ j,j < h.next -> C j = c j) -> Fr (busK kb) c h H -> G (callD env (d + 7) F (.ptr x 0 :: caps) H) fun v h' => ∃ C',v = .int .i64 (act b.ahead).1 /\ h'.get x = some (.cells (entG { t with x := (act b.ahead).2.1 }) 0 false) /\ BusI h' C' kb β cp ps (act b.ahead).2.2 /\ FrZ (busK kb) zO C H h' /\ (∀ j,j < H.next -> C' j = C j) /\ ∀ q,zO = some q -> h'.get q.1 = some q.2) :
  G (callD env (d + 8) 76 [.ptr β 0, .agg (entG t), .func (.func F) [] caps] h) fun v h' => ∃ C',v = .agg (entG (b.ioR t act).1) /\ BusI h' C' kb β cp ps (b.ioR t act).2 /\ FrZ (busK kb) zO c h h' /\ (∀ j,j < h.next -> C' j = c j) /\ ∀ q,zO = some q -> h'.get q.1 = if b.ahead.off then h.get q.1 else some q.2 := by
 generalize hX : (fun (v : AV) (h' : Heap) => ∃ C',v = .agg (entG (b.ioR t act).1) /\ BusI h' C' kb β cp ps (b.ioR t act).2 /\ FrZ (busK kb) zO c h h' /\ (∀ j,j < h.next -> C' j = c j) /\ ∀ q,zO = some q -> h'.get q.1 = if b.ahead.off then h.get q.1 else some q.2) = Q
 have ezl := entZ_len
 have hel := entG_len t ht
 have I0 := I
 obtain ⟨Ms,stv,lgv,l1,c1,l2,c2,n1,g1,g2,pl,mm,ce,st,lg⟩ := I
 have hlen := lg.len
 have slen := st.len
 have hstl := w.stl
 have hlgl := w.logl
 rw [callD_run (E := env) [(11, .fl [(4,0,1)])] (by kernel_rfl) Try.func76 rfl (by rw [Try.ntmps76]; simp) (by kernel_rfl)]; simp (maxSteps := 2000000) (implicitDefEqProofs := false) (disch := first | omega | (simp only [SD.down,uA,uL] <;> omega) | fail) only [Try.ntmps76,Try.results76,env_P,env_L,g1,hlen,slen,st.ok,st.same,lg.ok,lg.same,hel,ezl,zz_fold,entZ_fold,entG_cut t ht,entG_overZ t ht,entG_over t t ht ht,TQ.down,resE,oneV, ↓reduceIte,reduceCtorEq,uB,uE,uL,uA,uM,uS,uN,uX,uO,vR,vD,vL,vK,vE,vA,vM,vT,vS]
 rw [run_loop]
 refine loop_ind (fun j σ hh => ∃ q C,q + j = b.steps.length /\ σ 0 = .ptr β 0 /\ σ 2 = .func (.func F) [] caps /\ σ 4 = .ptr h.next 0 /\ σ 6 = .ptr (h.next + 1) 0 /\ σ 7 = .int .i64 (b.log.length : Int) /\ σ 18 = stv /\ σ 19 = .int .i64 (b.steps.length : Int) /\ σ 20 = .int .i64 (q : Int) /\
  BusI hh C kb β cp ps (aheadL b.log.length (b.steps.take q) b) /\ hh.get h.next = some (.cells (entG t) 0 false) /\ hh.get (h.next + 1) = some (.cells entZ 0 false) /\ C h.next = 1 /\ C (h.next + 1) = 0 /\ StI hh C kb stv [β,Ms] b.steps /\ h.next + 2 <= hh.next /\ (∀ j,j < h.next -> C j = c j) /\ Fr (busK kb) c h hh) ?_ ?_ b.steps.length _ _ _ (by simp; omega) ?_
 ·rintro mm σ hh ⟨q,C,hq,s0,s2,s4,s6,s7,s18,s19,s20,I1,gx,gz,Cx,Cz,st1,hn,hC,fr⟩
  obtain rfl : q = b.steps.length := by omega
  rw [List.take_of_length_le (Nat.le_refl _)] at I1
  have I1' : BusI hh C kb β cp ps b.ahead := I1
  have wa : b.ahead.wf := aheadL_wf _ _ _ w w.st
  have ea := aheadL_steps b.log.length b.steps b
  by_cases hoff : b.ahead.off = true
  ·have eR : b.ioR t act = ({ t with x := t.x,e := 13 }, { b.ahead with log := b.log ++ [{ t with x := t.x,e := 13 }] }) := by unfold BS.ioR; rw [if_pos hoff]
   obtain ⟨b2,hb2e⟩ : ∃ b2,b2 = b.ahead := ⟨_,rfl⟩
   obtain ⟨t1,ht1e⟩ : ∃ t1 : Ent,t1 = t := ⟨_,rfl⟩
   obtain ⟨e,he⟩ : ∃ e : Int,e = 13 := ⟨_,rfl⟩
   have ht1 : t1.x.length = 64 := by rw [ht1e]; exact ht
   have hb2 : b2.log = b.log := by rw [hb2e]; exact ea.2.1
   have wb2 : b2.wf := by rw [hb2e]; exact wa
   rw [<- hb2e] at I1'
   replace eR : b.ioR t act = ({ t1 with e := 13 }, { b2 with log := b.log ++ [{ t1 with e := 13 }] }) := by rw [ht1e,hb2e]; exact eR
   rw [<- hb2e] at hoff
   rw [<- ht1e] at gx
   have Cx1 := Cx
   have Cz1 := Cz
   obtain ⟨Ms2,stv2,lgv2,m1,mc1,m2,mc2,mn1,mg1,mg2,mpl,mmm,mce,mst,mlg⟩ := I1'
   have hoff2 := hoff
   clear he e
   have er := entG_err t1 ht1 13
   have t2l := entG_len { t1 with e := 13 } ht1
   have c2' := entG_cut { t1 with e := 13 } ht1
   have z2' := entG_overZ { t1 with e := 13 } ht1
   have bs := bs62G { t1 with e := 13 } ht1
   have t1l := entG_len t1 ht1
   have eb : b2.log = b.log := hb2
   generalize hT : ({ t1 with e := 13 } : Ent) = t2 at *
   have ht2 : t2.x.length = 64 := by rw [<- hT]; exact ht1
   simp (maxSteps := 2000000) (implicitDefEqProofs := false) (disch := first | omega | (simp only [SD.down,uA,uL] <;> omega) | fail) only [run_it,s0,s2,s4,s6,s7,s18,s19,s20,mg1,mlg.ok,mlg.same,gx,gz,er,t1l,t2l,ezl,hoff2,zz_fold,entZ_fold,c2',z2',bs,cls_append,ap50,env_P,env_L,TQ.down,resE,oneV, ↓reduceIte,reduceCtorEq,uB,uE,uL,uA,uM,uS,uN,uX,uO,vR,vD,vL,vK,vE,vA,vM,vT,vS]
   have lg1 : BLogJ ((hh.put h.next (some (.cells (entG t2) 0 false))).new (.cells (entG t2) 0 false)) (pnt C hh.next 0) kb lgv2 [β,Ms2] b2.log := mlg.keep (by simp (maxSteps := 2000000) (implicitDefEqProofs := false) (disch := first | omega | (simp only [SD.down,uA,uL] <;> omega) | fail) only [TQ.down,resE,oneV, ↓reduceIte,reduceCtorEq,uB,uE,uL,uA,uM,uS,uN,uX,uO,vR,vD,vL,vK,vE,vA,vM,vT,vS]; omega) (fun j hj hc _ => by
    have : j ≠ h.next := by rintro rfl; omega
    simp (maxSteps := 2000000) (implicitDefEqProofs := false) (disch := first | omega | (simp only [SD.down,uA,uL] <;> omega) | fail) only [TQ.down,resE,oneV, ↓reduceIte,reduceCtorEq,uB,uE,uL,uA,uM,uS,uN,uX,uO,vR,vD,vL,vK,vE,vA,vM,vT,vS]) (fun j hj hc => (pnt_lt hj).trans hc)
   obtain ⟨h2,ea2,en,eg,ef⟩ := app62j (t := t2) (k := hh.next) ht2 wb2.log (by have := wb2.logl; omega) lg1 (by simp (maxSteps := 2000000) (implicitDefEqProofs := false) (disch := first | omega | (simp only [SD.down,uA,uL] <;> omega) | fail) only [TQ.down,resE,oneV, ↓reduceIte,reduceCtorEq,uB,uE,uL,uA,uM,uS,uN,uX,uO,vR,vD,vL,vK,vE,vA,vM,vT,vS])
   rw [ea2]
   simp (maxSteps := 2000000) (implicitDefEqProofs := false) (disch := first | omega | (simp only [SD.down,uA,uL] <;> omega) | fail) only [TQ.down,resE,oneV, ↓reduceIte,reduceCtorEq,uB,uE,uL,uA,uM,uS,uN,uX,uO,vR,vD,vL,vK,vE,vA,vM,vT,vS] at en eg
   have ff : ∀ j,j < hh.next -> j ≠ h.next -> (C j ≠ kb \/ j ∈ [β,Ms2] \/ (∀ q,hh.get j ≠ some (.cells q 68 false))) -> h2.get j = hh.get j := by
    intro j hj hx hq
    rw [ef j (by simp (maxSteps := 2000000) (implicitDefEqProofs := false) (disch := first | omega | (simp only [SD.down,uA,uL] <;> omega) | fail) only [TQ.down,resE,oneV, ↓reduceIte,reduceCtorEq,uB,uE,uL,uA,uM,uS,uN,uX,uO,vR,vD,vL,vK,vE,vA,vM,vT,vS]; omega) (by
     rcases hq with q | q | q
     ·exact .inl (by rw [pnt_lt hj]; exact q)
     ·exact .inr (.inl q)
     ·refine .inr (.inr fun z => ?_)
      simp (maxSteps := 2000000) (implicitDefEqProofs := false) (disch := first | omega | (simp only [SD.down,uA,uL] <;> omega) | fail) only [TQ.down,resE,oneV, ↓reduceIte,reduceCtorEq,uB,uE,uL,uA,uM,uS,uN,uX,uO,vR,vD,vL,vK,vE,vA,vM,vT,vS]
      exact q z)]
    simp (maxSteps := 2000000) (implicitDefEqProofs := false) (disch := first | omega | (simp only [SD.down,uA,uL] <;> omega) | fail) only [TQ.down,resE,oneV, ↓reduceIte,reduceCtorEq,uB,uE,uL,uA,uM,uS,uN,uX,uO,vR,vD,vL,vK,vE,vA,vM,vT,vS]
   have f0 : h2.get h.next = some (.cells (entG t2) 0 false) := by
    rw [ef _ (by simp (maxSteps := 2000000) (implicitDefEqProofs := false) (disch := first | omega | (simp only [SD.down,uA,uL] <;> omega) | fail) only [TQ.down,resE,oneV, ↓reduceIte,reduceCtorEq,uB,uE,uL,uA,uM,uS,uN,uX,uO,vR,vD,vL,vK,vE,vA,vM,vT,vS]; omega) (.inl (by rw [pnt_lt (by omega),Cx1]; omega))]; simp (maxSteps := 2000000) (implicitDefEqProofs := false) (disch := first | omega | (simp only [SD.down,uA,uL] <;> omega) | fail) only [TQ.down,resE,oneV, ↓reduceIte,reduceCtorEq,uB,uE,uL,uA,uM,uS,uN,uX,uO,vR,vD,vL,vK,vE,vA,vM,vT,vS]
   have f7 := (ff (h.next + 1) (by omega) (by omega) (.inl (by rw [Cz1]; omega))).trans gz
   have fb := (ff β m1 (by omega) (.inr (.inl (by simp)))).trans mg1
   simp (maxSteps := 2000000) (implicitDefEqProofs := false) (disch := first | omega | (simp only [SD.down,uA,uL] <;> omega) | fail) only [s0,s4,s6,f0,f7,fb,mg1,en,mlg.ok,mlg.same,ezl,t2l,entZ_fold,c2',z2',TQ.down,resE,oneV, ↓reduceIte,reduceCtorEq,uB,uE,uL,uA,uM,uS,uN,uX,uO,vR,vD,vL,vK,vE,vA,vM,vT,vS]
   subst hX
   refine G.ok ⟨fun j => if j < hh.next then C j else if j = hh.next then 0 else kb,by rw [eR,<- hT], ?_, ?_, ?_,fun q hq => ?_⟩
   ·rw [eR,<- hT,hT]
    refine BusI.logged (c := C) (Ms := Ms2) (L := hh.next + 1) (stv := stv2) wb2.msl kb10 m1 mc1 m2 mc2 mn1 mg2 mpl mmm mce mst (by simp (maxSteps := 2000000) (implicitDefEqProofs := false) (disch := first | omega | (simp only [SD.down,uA,uL] <;> omega) | fail) only [TQ.down,resE,oneV, ↓reduceIte,reduceCtorEq,uB,uE,uL,uA,uM,uS,uN,uX,uO,vR,vD,vL,vK,vE,vA,vM,vT,vS]; omega) ?_ ?_ (by simp) (by omega) (by simp (maxSteps := 2000000) (implicitDefEqProofs := false) (disch := first | omega | (simp only [SD.down,uA,uL] <;> omega) | fail) only [TQ.down,resE,oneV, ↓reduceIte,reduceCtorEq,uB,uE,uL,uA,uM,uS,uN,uX,uO,vR,vD,vL,vK,vE,vA,vM,vT,vS]; omega) ?_ (fun j hj hjb hj1 hq => ?_) (fun j hj => if_pos hj)
    ·simp (maxSteps := 2000000) (implicitDefEqProofs := false) (disch := first | omega | (simp only [SD.down,uA,uL] <;> omega) | fail) only [TQ.down,resE,oneV, ↓reduceIte,reduceCtorEq,uB,uE,uL,uA,uM,uS,uN,uX,uO,vR,vD,vL,vK,vE,vA,vM,vT,vS]
     rw [eb]; simp
    ·simp (maxSteps := 2000000) (implicitDefEqProofs := false) (disch := first | omega | (simp only [SD.down,uA,uL] <;> omega) | fail) only [TQ.down,resE,oneV, ↓reduceIte,reduceCtorEq,uB,uE,uL,uA,uM,uS,uN,uX,uO,vR,vD,vL,vK,vE,vA,vM,vT,vS]
     rw [<- eb]; exact eg
    ·simp only [if_neg (show ¬ hh.next + 1 < hh.next by omega),if_neg (show ¬ hh.next + 1 = hh.next by omega)]
    ·have e1 : j ≠ h.next := by rintro rfl; omega
     have e2 : j ≠ h.next + 1 := by rintro rfl; omega
     simp (maxSteps := 2000000) (implicitDefEqProofs := false) (disch := first | omega | (simp only [SD.down,uA,uL] <;> omega) | fail) only [TQ.down,resE,oneV, ↓reduceIte,reduceCtorEq,uB,uE,uL,uA,uM,uS,uN,uX,uO,vR,vD,vL,vK,vE,vA,vM,vT,vS]
     exact ff j hj e1 hq
   ·refine ⟨by simp (maxSteps := 2000000) (implicitDefEqProofs := false) (disch := first | omega | (simp only [SD.down,uA,uL] <;> omega) | fail) only [TQ.down,resE,oneV, ↓reduceIte,reduceCtorEq,uB,uE,uL,uA,uM,uS,uN,uX,uO,vR,vD,vL,vK,vE,vA,vM,vT,vS]; omega,fun j hj hk hz => ?_⟩
    have hkj : ¬ busK kb (C j) := by rw [hC j hj]; exact hk
    unfold busK at hkj
    have e3 : j ≠ β := by rintro rfl; exact hkj (.inr (by rw [mc1]; omega))
    simp (maxSteps := 2000000) (implicitDefEqProofs := false) (disch := first | omega | (simp only [SD.down,uA,uL] <;> omega) | fail) only [TQ.down,resE,oneV, ↓reduceIte,reduceCtorEq,uB,uE,uL,uA,uM,uS,uN,uX,uO,vR,vD,vL,vK,vE,vA,vM,vT,vS]
    rw [ff j (by omega) (by omega) (.inl (by omega))]
    exact fr.get j hj hk
   ·intro j hj
    simp only [if_pos (show j < hh.next by omega)]
    exact hC j hj
   ·obtain ⟨hq1,hq2⟩ := hzO q hq
    have hkj : ¬ busK kb (C q.1) := by rw [hC q.1 hq1]; exact hq2
    unfold busK at hkj
    have e3 : q.1 ≠ β := by rintro e; exact hkj (.inr (by rw [e,mc1]; omega))
    rw [if_pos (by rw [<- hb2e]; exact hoff)]
    simp (maxSteps := 2000000) (implicitDefEqProofs := false) (disch := first | omega | (simp only [SD.down,uA,uL] <;> omega) | fail) only [TQ.down,resE,oneV, ↓reduceIte,reduceCtorEq,uB,uE,uL,uA,uM,uS,uN,uX,uO,vR,vD,vL,vK,vE,vA,vM,vT,vS]
    rw [ff q.1 (by omega) (by omega) (.inl (by omega))]
    exact fr.get _ hq1 hq2
  ·have hoff : b.ahead.off = false := by simpa using hoff
   have eR0 : b.ioR t act = ({ t with x := (act b.ahead).2.1,e := (act b.ahead).1 }, { (act b.ahead).2.2 with log := b.log ++ [{ t with x := (act b.ahead).2.1,e := (act b.ahead).1 }] }) := by unfold BS.ioR; rw [if_neg (by rw [hoff]; simp)]
   have I1c := I1'
   obtain ⟨Ms0,stv0,lgv0,p1,pc1,p2,pc2,pn1,pg1,pg2,ppl,pmm,pce,pst,plg⟩ := I1c
   simp (maxSteps := 2000000) (implicitDefEqProofs := false) (disch := first | omega | (simp only [SD.down,uA,uL] <;> omega) | fail) only [run_it,s0,s2,s4,s6,s7,s18,s19,s20,pg1,hoff,zz_fold,entZ_fold,env_P,env_L,TQ.down,resE,oneV, ↓reduceIte,reduceCtorEq,uB,uE,uL,uA,uM,uS,uN,uX,uO,vR,vD,vL,vK,vE,vA,vM,vT,vS]
   first | refine G.call (hdo hh C h.next I1' hoff (Nat.le_refl _) (by omega) Cx gx hC fr) ?_ | refine G.callC (hdo hh C h.next I1' hoff (Nat.le_refl _) (by omega) Cx gx hC fr) ?_ | refine G.callL (hdo hh C h.next I1' hoff (Nat.le_refl _) (by omega) Cx gx hC fr) ?_
   rintro v h1 ⟨C1,rfl,gx1,I2,fr1,hC1,hz1⟩
   have fr2 : FrZ (busK kb) zO c h h1 := ⟨Nat.le_trans fr.le fr1.le,fun j hj hk hz => (fr1.get j (by omega) (by rw [hC j hj]; exact hk) hz).trans (fr.get j hj hk)⟩
   have hC2 : ∀ j,j < h.next -> C1 j = c j := fun j hj => (hC1 j (by omega)).trans (hC j hj)
   have gz1 : h1.get (h.next + 1) = some (.cells entZ 0 false) := (fr1.get _ (by omega) (by rw [Cz]; unfold busK; omega) (fun q hq => by have := (hzO q hq).1; omega)).trans gz
   have Cx1 : C1 h.next = 1 := (hC1 _ (by omega)).trans Cx
   have Cz1 : C1 (h.next + 1) = 0 := (hC1 _ (by omega)).trans Cz
   have hn1 := fr1.le
   obtain ⟨hw2,hb2',hy⟩ := hact
   obtain ⟨b2,hb2e⟩ : ∃ b2,b2 = (act b.ahead).2.2 := ⟨_,rfl⟩
   obtain ⟨y,hye⟩ : ∃ y,y = (act b.ahead).2.1 := ⟨_,rfl⟩
   obtain ⟨e,he⟩ : ∃ e : Int,e = (act b.ahead).1 := ⟨_,rfl⟩
   rw [<- hb2e] at I2 eR0 hw2 hb2'
   rw [<- hye] at gx1 eR0 hy
   rw [<- he] at eR0 ⊢
   obtain ⟨t1,ht1e⟩ : ∃ t1 : Ent,t1 = { t with x := y } := ⟨_,rfl⟩
   have ht1 : t1.x.length = 64 := by rw [ht1e]; exact hy
   have hb2 : b2.log = b.log := hb2'
   have wb2 : b2.wf := hw2
   have eR : b.ioR t act = ({ t1 with e := e }, { b2 with log := b.log ++ [{ t1 with e := e }] }) := by rw [eR0,ht1e]
   rw [<- ht1e] at gx1
   clear pg1 pg2 pmm pce pst plg
   obtain ⟨Ms2,stv2,lgv2,m1,mc1,m2,mc2,mn1,mg1,mg2,mpl,mmm,mce,mst,mlg⟩ := I2
   have hoff2 := hoff
   have er := entG_err t1 ht1 e
   have t2l := entG_len { t1 with e := e } ht1
   have c2' := entG_cut { t1 with e := e } ht1
   have z2' := entG_overZ { t1 with e := e } ht1
   have bs := bs62G { t1 with e := e } ht1
   have t1l := entG_len t1 ht1
   have eb : b2.log = b.log := hb2
   generalize hT : ({ t1 with e := e } : Ent) = t2 at *
   have ht2 : t2.x.length = 64 := by rw [<- hT]; exact ht1
   simp (maxSteps := 2000000) (implicitDefEqProofs := false) (disch := first | omega | (simp only [SD.down,uA,uL] <;> omega) | fail) only [run_it,s0,s2,s4,s6,s7,s18,s19,s20,mg1,mlg.ok,mlg.same,gx1,gz1,er,t1l,t2l,ezl,hoff2,zz_fold,entZ_fold,c2',z2',bs,cls_append,ap50,env_P,env_L,TQ.down,resE,oneV, ↓reduceIte,reduceCtorEq,uB,uE,uL,uA,uM,uS,uN,uX,uO,vR,vD,vL,vK,vE,vA,vM,vT,vS]
   have lg1 : BLogJ ((h1.put h.next (some (.cells (entG t2) 0 false))).new (.cells (entG t2) 0 false)) (pnt C1 h1.next 0) kb lgv2 [β,Ms2] b2.log := mlg.keep (by simp (maxSteps := 2000000) (implicitDefEqProofs := false) (disch := first | omega | (simp only [SD.down,uA,uL] <;> omega) | fail) only [TQ.down,resE,oneV, ↓reduceIte,reduceCtorEq,uB,uE,uL,uA,uM,uS,uN,uX,uO,vR,vD,vL,vK,vE,vA,vM,vT,vS]; omega) (fun j hj hc _ => by
    have : j ≠ h.next := by rintro rfl; omega
    simp (maxSteps := 2000000) (implicitDefEqProofs := false) (disch := first | omega | (simp only [SD.down,uA,uL] <;> omega) | fail) only [TQ.down,resE,oneV, ↓reduceIte,reduceCtorEq,uB,uE,uL,uA,uM,uS,uN,uX,uO,vR,vD,vL,vK,vE,vA,vM,vT,vS]) (fun j hj hc => (pnt_lt hj).trans hc)
   obtain ⟨h2,ea2,en,eg,ef⟩ := app62j (t := t2) (k := h1.next) ht2 wb2.log (by have := wb2.logl; omega) lg1 (by simp (maxSteps := 2000000) (implicitDefEqProofs := false) (disch := first | omega | (simp only [SD.down,uA,uL] <;> omega) | fail) only [TQ.down,resE,oneV, ↓reduceIte,reduceCtorEq,uB,uE,uL,uA,uM,uS,uN,uX,uO,vR,vD,vL,vK,vE,vA,vM,vT,vS])
   rw [ea2]
   simp (maxSteps := 2000000) (implicitDefEqProofs := false) (disch := first | omega | (simp only [SD.down,uA,uL] <;> omega) | fail) only [TQ.down,resE,oneV, ↓reduceIte,reduceCtorEq,uB,uE,uL,uA,uM,uS,uN,uX,uO,vR,vD,vL,vK,vE,vA,vM,vT,vS] at en eg
   have ff : ∀ j,j < h1.next -> j ≠ h.next -> (C1 j ≠ kb \/ j ∈ [β,Ms2] \/ (∀ q,h1.get j ≠ some (.cells q 68 false))) -> h2.get j = h1.get j := by
    intro j hj hx hq
    rw [ef j (by simp (maxSteps := 2000000) (implicitDefEqProofs := false) (disch := first | omega | (simp only [SD.down,uA,uL] <;> omega) | fail) only [TQ.down,resE,oneV, ↓reduceIte,reduceCtorEq,uB,uE,uL,uA,uM,uS,uN,uX,uO,vR,vD,vL,vK,vE,vA,vM,vT,vS]; omega) (by
     rcases hq with q | q | q
     ·exact .inl (by rw [pnt_lt hj]; exact q)
     ·exact .inr (.inl q)
     ·refine .inr (.inr fun z => ?_)
      simp (maxSteps := 2000000) (implicitDefEqProofs := false) (disch := first | omega | (simp only [SD.down,uA,uL] <;> omega) | fail) only [TQ.down,resE,oneV, ↓reduceIte,reduceCtorEq,uB,uE,uL,uA,uM,uS,uN,uX,uO,vR,vD,vL,vK,vE,vA,vM,vT,vS]
      exact q z)]
    simp (maxSteps := 2000000) (implicitDefEqProofs := false) (disch := first | omega | (simp only [SD.down,uA,uL] <;> omega) | fail) only [TQ.down,resE,oneV, ↓reduceIte,reduceCtorEq,uB,uE,uL,uA,uM,uS,uN,uX,uO,vR,vD,vL,vK,vE,vA,vM,vT,vS]
   have f0 : h2.get h.next = some (.cells (entG t2) 0 false) := by
    rw [ef _ (by simp (maxSteps := 2000000) (implicitDefEqProofs := false) (disch := first | omega | (simp only [SD.down,uA,uL] <;> omega) | fail) only [TQ.down,resE,oneV, ↓reduceIte,reduceCtorEq,uB,uE,uL,uA,uM,uS,uN,uX,uO,vR,vD,vL,vK,vE,vA,vM,vT,vS]; omega) (.inl (by rw [pnt_lt (by omega),Cx1]; omega))]; simp (maxSteps := 2000000) (implicitDefEqProofs := false) (disch := first | omega | (simp only [SD.down,uA,uL] <;> omega) | fail) only [TQ.down,resE,oneV, ↓reduceIte,reduceCtorEq,uB,uE,uL,uA,uM,uS,uN,uX,uO,vR,vD,vL,vK,vE,vA,vM,vT,vS]
   have f7 := (ff (h.next + 1) (by omega) (by omega) (.inl (by rw [Cz1]; omega))).trans gz1
   have fb := (ff β m1 (by omega) (.inr (.inl (by simp)))).trans mg1
   simp (maxSteps := 2000000) (implicitDefEqProofs := false) (disch := first | omega | (simp only [SD.down,uA,uL] <;> omega) | fail) only [s0,s4,s6,f0,f7,fb,mg1,en,mlg.ok,mlg.same,ezl,t2l,entZ_fold,c2',z2',TQ.down,resE,oneV, ↓reduceIte,reduceCtorEq,uB,uE,uL,uA,uM,uS,uN,uX,uO,vR,vD,vL,vK,vE,vA,vM,vT,vS]
   subst hX
   refine G.ok ⟨fun j => if j < h1.next then C1 j else if j = h1.next then 0 else kb,by rw [eR,<- hT], ?_, ?_, ?_,fun q hq => ?_⟩
   ·rw [eR,<- hT,hT]
    refine BusI.logged (c := C1) (Ms := Ms2) (L := h1.next + 1) (stv := stv2) wb2.msl kb10 m1 mc1 m2 mc2 mn1 mg2 mpl mmm mce mst (by simp (maxSteps := 2000000) (implicitDefEqProofs := false) (disch := first | omega | (simp only [SD.down,uA,uL] <;> omega) | fail) only [TQ.down,resE,oneV, ↓reduceIte,reduceCtorEq,uB,uE,uL,uA,uM,uS,uN,uX,uO,vR,vD,vL,vK,vE,vA,vM,vT,vS]; omega) ?_ ?_ (by simp) (by omega) (by simp (maxSteps := 2000000) (implicitDefEqProofs := false) (disch := first | omega | (simp only [SD.down,uA,uL] <;> omega) | fail) only [TQ.down,resE,oneV, ↓reduceIte,reduceCtorEq,uB,uE,uL,uA,uM,uS,uN,uX,uO,vR,vD,vL,vK,vE,vA,vM,vT,vS]; omega) ?_ (fun j hj hjb hj1 hq => ?_) (fun j hj => if_pos hj)
    ·simp (maxSteps := 2000000) (implicitDefEqProofs := false) (disch := first | omega | (simp only [SD.down,uA,uL] <;> omega) | fail) only [TQ.down,resE,oneV, ↓reduceIte,reduceCtorEq,uB,uE,uL,uA,uM,uS,uN,uX,uO,vR,vD,vL,vK,vE,vA,vM,vT,vS]
     rw [eb]; simp
    ·simp (maxSteps := 2000000) (implicitDefEqProofs := false) (disch := first | omega | (simp only [SD.down,uA,uL] <;> omega) | fail) only [TQ.down,resE,oneV, ↓reduceIte,reduceCtorEq,uB,uE,uL,uA,uM,uS,uN,uX,uO,vR,vD,vL,vK,vE,vA,vM,vT,vS]
     rw [<- eb]; exact eg
    ·simp only [if_neg (show ¬ h1.next + 1 < h1.next by omega),if_neg (show ¬ h1.next + 1 = h1.next by omega)]
    ·have e1 : j ≠ h.next := by rintro rfl; omega
     have e2 : j ≠ h.next + 1 := by rintro rfl; omega
     simp (maxSteps := 2000000) (implicitDefEqProofs := false) (disch := first | omega | (simp only [SD.down,uA,uL] <;> omega) | fail) only [TQ.down,resE,oneV, ↓reduceIte,reduceCtorEq,uB,uE,uL,uA,uM,uS,uN,uX,uO,vR,vD,vL,vK,vE,vA,vM,vT,vS]
     exact ff j hj e1 hq
   ·refine ⟨by simp (maxSteps := 2000000) (implicitDefEqProofs := false) (disch := first | omega | (simp only [SD.down,uA,uL] <;> omega) | fail) only [TQ.down,resE,oneV, ↓reduceIte,reduceCtorEq,uB,uE,uL,uA,uM,uS,uN,uX,uO,vR,vD,vL,vK,vE,vA,vM,vT,vS]; omega,fun j hj hk hz => ?_⟩
    have hkj : ¬ busK kb (C1 j) := by rw [hC2 j hj]; exact hk
    unfold busK at hkj
    have e3 : j ≠ β := by rintro rfl; exact hkj (.inr (by rw [mc1]; omega))
    simp (maxSteps := 2000000) (implicitDefEqProofs := false) (disch := first | omega | (simp only [SD.down,uA,uL] <;> omega) | fail) only [TQ.down,resE,oneV, ↓reduceIte,reduceCtorEq,uB,uE,uL,uA,uM,uS,uN,uX,uO,vR,vD,vL,vK,vE,vA,vM,vT,vS]
    rw [ff j (by omega) (by omega) (.inl (by omega))]
    exact fr2.get j hj hk hz
   ·intro j hj
    simp only [if_pos (show j < h1.next by omega)]
    exact hC2 j hj
   ·obtain ⟨hq1,hq2⟩ := hzO q hq
    have hkj : ¬ busK kb (C1 q.1) := by rw [hC2 q.1 hq1]; exact hq2
    unfold busK at hkj
    have e3 : q.1 ≠ β := by rintro e; exact hkj (.inr (by rw [e,mc1]; omega))
    rw [if_neg (by rw [hoff]; simp)]
    simp (maxSteps := 2000000) (implicitDefEqProofs := false) (disch := first | omega | (simp only [SD.down,uA,uL] <;> omega) | fail) only [TQ.down,resE,oneV, ↓reduceIte,reduceCtorEq,uB,uE,uL,uA,uM,uS,uN,uX,uO,vR,vD,vL,vK,vE,vA,vM,vT,vS]
    rw [ff q.1 (by omega) (by omega) (.inl (by omega))]
    exact hz1 q hq
 ·rintro j mm1 σ hh ⟨q,C,hq,s0,s2,s4,s6,s7,s18,s19,s20,I1,gx,gz,Cx,Cz,st1,hn,hC,fr⟩ ih
  have hkl : q < b.steps.length := by omega
  have st1' := st1
  rcases st1 with ⟨e0,_⟩ | ⟨K,vs,rfl,hK1,hK2,hK3,hK4,gK,hpk⟩
  ·rw [e0] at hkl; simp at hkl
  obtain ⟨s,hs⟩ : ∃ s,b.steps[q]? = some s := ⟨b.steps[q]'hkl,List.getElem?_eq_getElem hkl⟩
  obtain ⟨u,hu⟩ : ∃ u,vs[q]? = some u := ⟨vs[q]'(by omega),List.getElem?_eq_getElem (by omega)⟩
  have hsm := List.mem_of_getElem? hs
  have hsl := w.st s hsm
  have hpu := hpk q s u hs hu
  have husc := hpu.sc
  have hzip : (b.steps.zip vs)[q]? = some (s,u) := by rw [List.getElem?_zip_eq_some]; exact ⟨hs,hu⟩
  have hcut : cutE (q * 70) 70 (stpsC (b.steps.zip vs)) = some (s.C u) := flat_cut (fun x : Stp × AV => x.1.C x.2) 70 _ q (s,u) (fun x hx => x.1.C_len x.2 (w.st _ (List.of_mem_zip hx).1)) hzip
  have hCl := s.C_len u hsl
  have et : aheadL b.log.length (b.steps.take (q + 1)) b = if s.tm = b.log.length then (aheadL b.log.length (b.steps.take q) b).step s else aheadL b.log.length (b.steps.take q) b := by
   rw [List.take_add_one,hs]; exact aheadL_app _ _ _ _
  have spl := stpZ_len
  by_cases htm : s.tm = b.log.length
  ·have hd : decide (s.tm = (b.log.length : Int)) = true := decide_eq_true htm
   rw [if_pos htm] at et
   simp (maxSteps := 2000000) (implicitDefEqProofs := false) (disch := first | omega | (simp only [SD.down,uA,uL] <;> omega) | fail) only [run_it,s0,s2,s4,s6,s7,s18,s19,s20,gK,hcut,hCl,spl,zz_fold,stpZ_fold,stp_0,stp_cut s u hsl,stp_ov s u hsl husc,hd,env_P,env_L,TQ.down,resE,oneV, ↓reduceIte,reduceCtorEq,uB,uE,uL,uA,uM,uS,uN,uX,uO,vR,vD,vL,vK,vE,vA,vM,vT,vS]
   have kp : Keeps hh ((hh.new (Blk.cells stpZ 0 false)).put hh.next (some (Blk.cells (s.C u) 0 false))) := ⟨by simp (maxSteps := 2000000) (implicitDefEqProofs := false) (disch := first | omega | (simp only [SD.down,uA,uL] <;> omega) | fail) only [TQ.down,resE,oneV, ↓reduceIte,reduceCtorEq,uB,uE,uL,uA,uM,uS,uN,uX,uO,vR,vD,vL,vK,vE,vA,vM,vT,vS]; omega,fun j hj => by simp (maxSteps := 2000000) (implicitDefEqProofs := false) (disch := first | omega | (simp only [SD.down,uA,uL] <;> omega) | fail) only [TQ.down,resE,oneV, ↓reduceIte,reduceCtorEq,uB,uE,uL,uA,uM,uS,uN,uX,uO,vR,vD,vL,vK,vE,vA,vM,vT,vS]⟩
   have ml : (aheadL b.log.length (b.steps.take q) b).ms.length = b.ms.length := (aheadL_steps _ _ _).2.2.2
   have wb : (aheadL b.log.length (b.steps.take q) b).wf := aheadL_wf _ _ _ w fun s hs => w.st s (List.mem_of_mem_take hs)
   first | refine G.call (hst _ (pnt C hh.next 0) _ s u Ms hsm htm wb ml (I1.keeps wb.msl kp (fun j hj => pnt_lt hj)) (hpu.keep kp.1 (fun j hj _ _ _ => kp.2 j hj) (fun j hj hc => (pnt_lt hj).trans hc))) ?_ | refine G.callC (hst _ (pnt C hh.next 0) _ s u Ms hsm htm wb ml (I1.keeps wb.msl kp (fun j hj => pnt_lt hj)) (hpu.keep kp.1 (fun j hj _ _ _ => kp.2 j hj) (fun j hj hc => (pnt_lt hj).trans hc))) ?_ | refine G.callL (hst _ (pnt C hh.next 0) _ s u Ms hsm htm wb ml (I1.keeps wb.msl kp (fun j hj => pnt_lt hj)) (hpu.keep kp.1 (fun j hj _ _ _ => kp.2 j hj) (fun j hj hc => (pnt_lt hj).trans hc))) ?_
   rintro v h1 ⟨rfl,C1,I2,r1,r2,r3⟩
   simp (maxSteps := 2000000) (implicitDefEqProofs := false) (disch := first | omega | (simp only [SD.down,uA,uL] <;> omega) | fail) only [TQ.down,resE,oneV, ↓reduceIte,reduceCtorEq,uB,uE,uL,uA,uM,uS,uN,uX,uO,vR,vD,vL,vK,vE,vA,vM,vT,vS] at r1
   simp (maxSteps := 2000000) (implicitDefEqProofs := false) (disch := first | omega | (simp only [SD.down,uA,uL] <;> omega) | fail) only [run_it,s0,s2,s4,s6,s7,s18,s19,s20,env_P,env_L,TQ.down,resE,oneV, ↓reduceIte,reduceCtorEq,uB,uE,uL,uA,uM,uS,uN,uX,uO,vR,vD,vL,vK,vE,vA,vM,vT,vS]
   have nx : ((hh.new (Blk.cells stpZ 0 false)).put hh.next (some (Blk.cells (s.C u) 0 false))).next = hh.next + 1 := by simp (maxSteps := 2000000) (implicitDefEqProofs := false) (disch := first | omega | (simp only [SD.down,uA,uL] <;> omega) | fail) only [TQ.down,resE,oneV, ↓reduceIte,reduceCtorEq,uB,uE,uL,uA,uM,uS,uN,uX,uO,vR,vD,vL,vK,vE,vA,vM,vT,vS]
   have r2' : ∀ j,j < hh.next -> C1 j = C j := fun j hj => (r2 j (by omega)).trans (pnt_lt hj)
   have r3' : ∀ j,j < hh.next -> (C j < kb + 2 \/ kb + 100 <= C j) -> j ≠ β -> h1.get j = hh.get j := fun j hj hc hb => (r3 j (by omega) (by rw [pnt_lt hj]; exact hc) hb).trans (kp.2 j hj)
   refine ih _ _ ⟨q + 1,C1,by omega,by simp (maxSteps := 2000000) (implicitDefEqProofs := false) (disch := first | omega | (simp only [SD.down,uA,uL] <;> omega) | fail) only [s0,TQ.down,resE,oneV, ↓reduceIte,reduceCtorEq,uB,uE,uL,uA,uM,uS,uN,uX,uO,vR,vD,vL,vK,vE,vA,vM,vT,vS],by simp (maxSteps := 2000000) (implicitDefEqProofs := false) (disch := first | omega | (simp only [SD.down,uA,uL] <;> omega) | fail) only [s2,TQ.down,resE,oneV, ↓reduceIte,reduceCtorEq,uB,uE,uL,uA,uM,uS,uN,uX,uO,vR,vD,vL,vK,vE,vA,vM,vT,vS],by simp (maxSteps := 2000000) (implicitDefEqProofs := false) (disch := first | omega | (simp only [SD.down,uA,uL] <;> omega) | fail) only [s4,TQ.down,resE,oneV, ↓reduceIte,reduceCtorEq,uB,uE,uL,uA,uM,uS,uN,uX,uO,vR,vD,vL,vK,vE,vA,vM,vT,vS],by simp (maxSteps := 2000000) (implicitDefEqProofs := false) (disch := first | omega | (simp only [SD.down,uA,uL] <;> omega) | fail) only [s6,TQ.down,resE,oneV, ↓reduceIte,reduceCtorEq,uB,uE,uL,uA,uM,uS,uN,uX,uO,vR,vD,vL,vK,vE,vA,vM,vT,vS],by simp (maxSteps := 2000000) (implicitDefEqProofs := false) (disch := first | omega | (simp only [SD.down,uA,uL] <;> omega) | fail) only [s7,TQ.down,resE,oneV, ↓reduceIte,reduceCtorEq,uB,uE,uL,uA,uM,uS,uN,uX,uO,vR,vD,vL,vK,vE,vA,vM,vT,vS],by simp (maxSteps := 2000000) (implicitDefEqProofs := false) (disch := first | omega | (simp only [SD.down,uA,uL] <;> omega) | fail) only [s18,TQ.down,resE,oneV, ↓reduceIte,reduceCtorEq,uB,uE,uL,uA,uM,uS,uN,uX,uO,vR,vD,vL,vK,vE,vA,vM,vT,vS],by simp (maxSteps := 2000000) (implicitDefEqProofs := false) (disch := first | omega | (simp only [SD.down,uA,uL] <;> omega) | fail) only [s19,TQ.down,resE,oneV, ↓reduceIte,reduceCtorEq,uB,uE,uL,uA,uM,uS,uN,uX,uO,vR,vD,vL,vK,vE,vA,vM,vT,vS],by simp (maxSteps := 2000000) (implicitDefEqProofs := false) (disch := first | omega | (simp only [SD.down,uA,uL] <;> omega) | fail) only [TQ.down,resE,oneV, ↓reduceIte,reduceCtorEq,uB,uE,uL,uA,uM,uS,uN,uX,uO,vR,vD,vL,vK,vE,vA,vM,vT,vS],by rw [et]; exact I2,(r3' _ (by omega) (by omega) (by omega)).trans gx,(r3' _ (by omega) (by omega) (by omega)).trans gz,(r2' _ (by omega)).trans Cx,(r2' _ (by omega)).trans Cz,st1'.keep (by omega) (fun j hj hc he _ => r3' j hj (by omega) (he _ (by simp))) (fun j hj hc => (r2' j hj).trans hc),by omega,fun j hj => (r2' j (by omega)).trans (hC j hj),⟨by omega,fun j hj hk => ?_⟩⟩
   have hkj : ¬ busK kb (C j) := by rw [hC j hj]; exact hk
   unfold busK at hkj
   refine (r3' j (by omega) (by omega) (fun e => ?_)).trans (fr.get j hj hk)
   subst e
   exact hk (.inr (by rw [c1]; omega))
  ·have hd : decide (s.tm = (b.log.length : Int)) = false := decide_eq_false htm
   rw [if_neg htm] at et
   simp (maxSteps := 2000000) (implicitDefEqProofs := false) (disch := first | omega | (simp only [SD.down,uA,uL] <;> omega) | fail) only [run_it,s0,s2,s4,s6,s7,s18,s19,s20,gK,hcut,hCl,spl,zz_fold,stpZ_fold,stp_0,stp_cut s u hsl,stp_ov s u hsl husc,hd,env_P,env_L,TQ.down,resE,oneV, ↓reduceIte,reduceCtorEq,uB,uE,uL,uA,uM,uS,uN,uX,uO,vR,vD,vL,vK,vE,vA,vM,vT,vS]
   have kp : Keeps hh ((hh.new (Blk.cells stpZ 0 false)).put hh.next (some (Blk.cells (s.C u) 0 false))) := ⟨by simp (maxSteps := 2000000) (implicitDefEqProofs := false) (disch := first | omega | (simp only [SD.down,uA,uL] <;> omega) | fail) only [TQ.down,resE,oneV, ↓reduceIte,reduceCtorEq,uB,uE,uL,uA,uM,uS,uN,uX,uO,vR,vD,vL,vK,vE,vA,vM,vT,vS]; omega,fun j hj => by simp (maxSteps := 2000000) (implicitDefEqProofs := false) (disch := first | omega | (simp only [SD.down,uA,uL] <;> omega) | fail) only [TQ.down,resE,oneV, ↓reduceIte,reduceCtorEq,uB,uE,uL,uA,uM,uS,uN,uX,uO,vR,vD,vL,vK,vE,vA,vM,vT,vS]⟩
   have ml := (aheadL_wf b.log.length (b.steps.take q) b w (fun s hs => w.st s (List.mem_of_mem_take hs))).msl
   refine ih _ _ ⟨q + 1,pnt C hh.next 0,by omega,by simp (maxSteps := 2000000) (implicitDefEqProofs := false) (disch := first | omega | (simp only [SD.down,uA,uL] <;> omega) | fail) only [s0,TQ.down,resE,oneV, ↓reduceIte,reduceCtorEq,uB,uE,uL,uA,uM,uS,uN,uX,uO,vR,vD,vL,vK,vE,vA,vM,vT,vS],by simp (maxSteps := 2000000) (implicitDefEqProofs := false) (disch := first | omega | (simp only [SD.down,uA,uL] <;> omega) | fail) only [s2,TQ.down,resE,oneV, ↓reduceIte,reduceCtorEq,uB,uE,uL,uA,uM,uS,uN,uX,uO,vR,vD,vL,vK,vE,vA,vM,vT,vS],by simp (maxSteps := 2000000) (implicitDefEqProofs := false) (disch := first | omega | (simp only [SD.down,uA,uL] <;> omega) | fail) only [s4,TQ.down,resE,oneV, ↓reduceIte,reduceCtorEq,uB,uE,uL,uA,uM,uS,uN,uX,uO,vR,vD,vL,vK,vE,vA,vM,vT,vS],by simp (maxSteps := 2000000) (implicitDefEqProofs := false) (disch := first | omega | (simp only [SD.down,uA,uL] <;> omega) | fail) only [s6,TQ.down,resE,oneV, ↓reduceIte,reduceCtorEq,uB,uE,uL,uA,uM,uS,uN,uX,uO,vR,vD,vL,vK,vE,vA,vM,vT,vS],by simp (maxSteps := 2000000) (implicitDefEqProofs := false) (disch := first | omega | (simp only [SD.down,uA,uL] <;> omega) | fail) only [s7,TQ.down,resE,oneV, ↓reduceIte,reduceCtorEq,uB,uE,uL,uA,uM,uS,uN,uX,uO,vR,vD,vL,vK,vE,vA,vM,vT,vS],by simp (maxSteps := 2000000) (implicitDefEqProofs := false) (disch := first | omega | (simp only [SD.down,uA,uL] <;> omega) | fail) only [s18,TQ.down,resE,oneV, ↓reduceIte,reduceCtorEq,uB,uE,uL,uA,uM,uS,uN,uX,uO,vR,vD,vL,vK,vE,vA,vM,vT,vS],by simp (maxSteps := 2000000) (implicitDefEqProofs := false) (disch := first | omega | (simp only [SD.down,uA,uL] <;> omega) | fail) only [s19,TQ.down,resE,oneV, ↓reduceIte,reduceCtorEq,uB,uE,uL,uA,uM,uS,uN,uX,uO,vR,vD,vL,vK,vE,vA,vM,vT,vS],by simp (maxSteps := 2000000) (implicitDefEqProofs := false) (disch := first | omega | (simp only [SD.down,uA,uL] <;> omega) | fail) only [TQ.down,resE,oneV, ↓reduceIte,reduceCtorEq,uB,uE,uL,uA,uM,uS,uN,uX,uO,vR,vD,vL,vK,vE,vA,vM,vT,vS],by rw [et]; exact I1.keeps ml kp (fun j hj => pnt_lt hj),(kp.2 _ (by omega)).trans gx,(kp.2 _ (by omega)).trans gz,(pnt_lt (by omega)).trans Cx,(pnt_lt (by omega)).trans Cz,st1'.keep kp.1 (fun j hj _ _ _ => kp.2 j hj) (fun j hj hc => (pnt_lt hj).trans hc),by have := kp.1; omega,fun j hj => (pnt_lt (by omega)).trans (hC j hj),fr.keeps kp⟩
 ·have kp : Keeps h ((h.new (Blk.cells (entG t) 0 false)).new (Blk.cells entZ 0 false)) := ⟨by simp (maxSteps := 2000000) (implicitDefEqProofs := false) (disch := first | omega | (simp only [SD.down,uA,uL] <;> omega) | fail) only [TQ.down,resE,oneV, ↓reduceIte,reduceCtorEq,uB,uE,uL,uA,uM,uS,uN,uX,uO,vR,vD,vL,vK,vE,vA,vM,vT,vS]; omega,fun j hj => by simp (maxSteps := 2000000) (implicitDefEqProofs := false) (disch := first | omega | (simp only [SD.down,uA,uL] <;> omega) | fail) only [TQ.down,resE,oneV, ↓reduceIte,reduceCtorEq,uB,uE,uL,uA,uM,uS,uN,uX,uO,vR,vD,vL,vK,vE,vA,vM,vT,vS]⟩
  have hCl : ∀ j,j < h.next -> (fun j => if j = h.next then 1 else pnt c h.next 0 j) j = c j := fun j hj => by simp only [if_neg (Nat.ne_of_lt hj)]; exact pnt_lt hj
  refine ⟨0,fun j => if j = h.next then 1 else pnt c h.next 0 j,by omega,by simp (maxSteps := 2000000) (implicitDefEqProofs := false) (disch := first | omega | (simp only [SD.down,uA,uL] <;> omega) | fail) only [TQ.down,resE,oneV, ↓reduceIte,reduceCtorEq,uB,uE,uL,uA,uM,uS,uN,uX,uO,vR,vD,vL,vK,vE,vA,vM,vT,vS],by simp (maxSteps := 2000000) (implicitDefEqProofs := false) (disch := first | omega | (simp only [SD.down,uA,uL] <;> omega) | fail) only [TQ.down,resE,oneV, ↓reduceIte,reduceCtorEq,uB,uE,uL,uA,uM,uS,uN,uX,uO,vR,vD,vL,vK,vE,vA,vM,vT,vS],by simp (maxSteps := 2000000) (implicitDefEqProofs := false) (disch := first | omega | (simp only [SD.down,uA,uL] <;> omega) | fail) only [TQ.down,resE,oneV, ↓reduceIte,reduceCtorEq,uB,uE,uL,uA,uM,uS,uN,uX,uO,vR,vD,vL,vK,vE,vA,vM,vT,vS],by simp (maxSteps := 2000000) (implicitDefEqProofs := false) (disch := first | omega | (simp only [SD.down,uA,uL] <;> omega) | fail) only [TQ.down,resE,oneV, ↓reduceIte,reduceCtorEq,uB,uE,uL,uA,uM,uS,uN,uX,uO,vR,vD,vL,vK,vE,vA,vM,vT,vS],by simp (maxSteps := 2000000) (implicitDefEqProofs := false) (disch := first | omega | (simp only [SD.down,uA,uL] <;> omega) | fail) only [TQ.down,resE,oneV, ↓reduceIte,reduceCtorEq,uB,uE,uL,uA,uM,uS,uN,uX,uO,vR,vD,vL,vK,vE,vA,vM,vT,vS],by simp (maxSteps := 2000000) (implicitDefEqProofs := false) (disch := first | omega | (simp only [SD.down,uA,uL] <;> omega) | fail) only [TQ.down,resE,oneV, ↓reduceIte,reduceCtorEq,uB,uE,uL,uA,uM,uS,uN,uX,uO,vR,vD,vL,vK,vE,vA,vM,vT,vS],by simp (maxSteps := 2000000) (implicitDefEqProofs := false) (disch := first | omega | (simp only [SD.down,uA,uL] <;> omega) | fail) only [TQ.down,resE,oneV, ↓reduceIte,reduceCtorEq,uB,uE,uL,uA,uM,uS,uN,uX,uO,vR,vD,vL,vK,vE,vA,vM,vT,vS],by simp (maxSteps := 2000000) (implicitDefEqProofs := false) (disch := first | omega | (simp only [SD.down,uA,uL] <;> omega) | fail) only [TQ.down,resE,oneV, ↓reduceIte,reduceCtorEq,uB,uE,uL,uA,uM,uS,uN,uX,uO,vR,vD,vL,vK,vE,vA,vM,vT,vS],I0.keeps w.msl kp hCl,by simp (maxSteps := 2000000) (implicitDefEqProofs := false) (disch := first | omega | (simp only [SD.down,uA,uL] <;> omega) | fail) only [TQ.down,resE,oneV, ↓reduceIte,reduceCtorEq,uB,uE,uL,uA,uM,uS,uN,uX,uO,vR,vD,vL,vK,vE,vA,vM,vT,vS],by simp (maxSteps := 2000000) (implicitDefEqProofs := false) (disch := first | omega | (simp only [SD.down,uA,uL] <;> omega) | fail) only [TQ.down,resE,oneV, ↓reduceIte,reduceCtorEq,uB,uE,uL,uA,uM,uS,uN,uX,uO,vR,vD,vL,vK,vE,vA,vM,vT,vS],if_pos rfl, ?_,st.keep kp.1 (fun j hj _ _ _ => kp.2 j hj) (fun j hj hc => (hCl j hj).trans hc),by simp (maxSteps := 2000000) (implicitDefEqProofs := false) (disch := first | omega | (simp only [SD.down,uA,uL] <;> omega) | fail) only [TQ.down,resE,oneV, ↓reduceIte,reduceCtorEq,uB,uE,uL,uA,uM,uS,uN,uX,uO,vR,vD,vL,vK,vE,vA,vM,vT,vS]; omega,hCl, .of kp⟩
  simp only [if_neg (show h.next + 1 ≠ h.next by omega)]
  exact pnt_ge (by omega)
set_option maxHeartbeats 8000000 in
theorem bus_io (d : Nat) (h : Heap) (c : Col) (kb β cp F : Nat) (ps : List Nat) (b : BS) (caps : List AV) (t : Ent) (act : BS -> Int × List Nat × BS) (kb10 : 10 <= kb) (I : BusI h c kb β cp ps b) (w : b.wf) (ht : t.x.length = 64) (hcl : caps.length <= 4)
  (hact : (act b.ahead).2.2.wf /\ (act b.ahead).2.2.log = b.log /\ (act b.ahead).2.1.length = 64)
  (hst : ∀ (H : Heap) (C : Col) (bb : BS) (s : Stp) (u : AV) (Ms : Nat),s ∈ b.steps -> s.tm = b.log.length -> bb.wf -> bb.ms.length = b.ms.length -> BusI H C kb β cp ps bb -> PickI H C kb u [β,Ms] s.picks -> G (callD env (d + 7) 83 [.ptr β 0, .agg (s.C u)] H) fun v h' => v = .tup [] /\ ∃ C',BusI h' C' kb β cp ps (bb.step s) /\ H.next <= h'.next /\ (∀ j,j < H.next -> C' j = C j) /\ ∀ j,j < H.next -> (C j < kb + 2 \/ kb + 100 <= C j) -> j ≠ β -> h'.get j = H.get j)
  (hdo : ∀ (H : Heap) (C : Col) (x : Nat),BusI H C kb β cp ps b.ahead -> b.ahead.off = false -> h.next <= x -> x < H.next -> C x = 1 -> H.get x = some (.cells (entG t) 0 false) -> (∀ j,j < h.next -> C j = c j) -> Fr (busK kb) c h H -> G (callD env (d + 7) F (.ptr x 0 :: caps) H) fun v h' => ∃ C',v = .int .i64 (act b.ahead).1 /\ h'.get x = some (.cells (entG { t with x := (act b.ahead).2.1 }) 0 false) /\ BusI h' C' kb β cp ps (act b.ahead).2.2 /\ Fr (busK kb) C H h' /\ ∀ j,j < H.next -> C' j = C j) :
  G (callD env (d + 8) 76 [.ptr β 0, .agg (entG t), .func (.func F) [] caps] h) fun v h' => ∃ C',v = .agg (entG (b.ioR t act).1) /\ BusI h' C' kb β cp ps (b.ioR t act).2 /\ Fr (busK kb) c h h' /\ ∀ j,j < h.next -> C' j = c j := by
 refine (bus_ioZ d h c kb β cp F ps b caps t act none (fun q hq => by cases hq) kb10 I w ht hcl hact hst (fun H C x a1 a2 a3 a4 a5 a6 a7 a8 => (hdo H C x a1 a2 a3 a4 a5 a6 a7 a8).mono ?_)).mono ?_
 ·rintro v h' ⟨C',r1,r2,r3,r4,r5⟩
  exact ⟨C',r1,r2,r3,⟨r4.le,fun j hj hk _ => r4.get j hj hk⟩,r5,fun q hq => by cases hq⟩
 ·rintro v h' ⟨C',r1,r2,r3,r4,_⟩
  exact ⟨C',r1,r2,⟨r3.le,fun j hj hk => r3.get j hj hk fun q hq => by cases hq⟩,r4⟩
end Go.Proofs.Ytlnepbkeiianmaa
