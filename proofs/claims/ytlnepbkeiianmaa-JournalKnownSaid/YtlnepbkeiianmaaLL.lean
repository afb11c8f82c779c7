/- Of this program, for all inputs: contracts. No condition but those in the theorems. -/
import Derived.Test.YtlnepbkeiianmaaK1
namespace Go.Proofs.Ytlnepbkeiianmaa
open Go Go.Ai Go.Aw Go.Proofs
open Nat renaming reduceBEq -> uB,reduceEqDiff -> uE,reduceLT -> uL,reduceAdd -> uA,reduceMul -> uM,reduceSub -> uS,reduceAnd -> uN,reduceXor -> uX,reduceOr -> uO
open Int renaming reduceMod -> vR,reduceDiv -> vD,reduceLT -> vL,reduceLE -> vK,reduceEq -> vE,reduceAdd -> vA,reduceMul -> vM,reduceToNat -> vT,reduceSub -> vS
set_option linter.unusedSimpArgs false
set_option linter.unusedVariables false
set_option maxRecDepth 10000
/-! what is put into members without unflushed writes: no program in sight -/
def Uq : Img -> Prop
 | [] => True
 | x :: r => (∀ y ∈ r,y.1 ≠ x.1) /\ Uq r
theorem mGet_none {i : Int} : ∀ {l : Img},(∀ y ∈ l,y.1 ≠ i) -> mGet l i zz = zz
 | [],_ => rfl
 | (k,t) :: r,h => by
  rw [mGet,if_neg (fun e => h (k,t) (by simp) e.symm)]
  exact mGet_none fun y hy => h y (List.mem_cons_of_mem _ hy)
theorem mGet_upd (i j : Int) (s : List Nat) : ∀ l : Img,mGet (mUpd l i s) j zz = if j = i then s else mGet l j zz
 | [] => by simp [mUpd,mGet]
 | (k,t) :: r => by
  rw [mUpd]
  by_cases h : i = k
  ·rw [if_pos h,mGet,mGet]
   by_cases e : j = i
   ·rw [if_pos e,if_pos e]
   ·rw [if_neg e,if_neg e,if_neg (by omega)]
  ·rw [if_neg h,mGet,mGet_upd i j s r,mGet]
   by_cases e : j = k
   ·rw [if_pos e,if_pos e,if_neg (by omega)]
   ·rw [if_neg e,if_neg e]
theorem mem_upd {i : Int} {s : List Nat} {y : Int × List Nat} : ∀ {l : Img},y ∈ mUpd l i s -> y.1 = i \/ y ∈ l
 | [],h => by simp [mUpd] at h; subst h; exact .inl rfl
 | (k,t) :: r,h => by
  rw [mUpd] at h
  split at h
  ·rcases List.mem_cons.1 h with rfl | h
   ·exact .inl rfl
   ·exact .inr (List.mem_cons_of_mem _ h)
  ·rcases List.mem_cons.1 h with rfl | h
   ·exact .inr (by simp)
   ·rcases mem_upd h with q | q
    ·exact .inl q
    ·exact .inr (List.mem_cons_of_mem _ q)
theorem mem_del {i : Int} {y : Int × List Nat} : ∀ {l : Img},y ∈ mDel l i -> y ∈ l
 | [],h => by cases h
 | (k,t) :: r,h => by
  rw [mDel] at h
  split at h
  ·exact List.mem_cons_of_mem _ h
  ·rcases List.mem_cons.1 h with rfl | h
   ·simp
   ·exact List.mem_cons_of_mem _ (mem_del h)
theorem Uq.upd {i : Int} {s : List Nat} : ∀ {l : Img},Uq l -> Uq (mUpd l i s)
 | [],_ => by simp [mUpd,Uq]
 | (k,t) :: r,h => by
  rw [mUpd]
  split
  ·rename_i e
   exact ⟨fun y hy => by rw [show (i,s).1 = k from e]; exact h.1 y hy,h.2⟩
  ·rename_i e
   refine ⟨fun y hy => ?_,h.2.upd⟩
   rcases mem_upd hy with q | q
   ·rw [q]; exact e
   ·exact h.1 y q
theorem Uq.del {i : Int} : ∀ {l : Img},Uq l -> Uq (mDel l i)
 | [],_ => trivial
 | (k,t) :: r,h => by
  rw [mDel]
  split
  ·exact h.2
  ·exact ⟨fun y hy => h.1 y (mem_del hy),h.2.del⟩
theorem mGet_del (i j : Int) : ∀ {l : Img},Uq l -> mGet (mDel l i) j zz = if j = i then zz else mGet l j zz
 | [],_ => by simp [mDel,mGet]
 | (k,t) :: r,h => by
  rw [mDel]
  by_cases e : i = k
  ·rw [if_pos e,mGet]
   by_cases f : j = i
   ·rw [if_pos f]
    exact mGet_none fun y hy => by have := h.1 y hy; simp at this; omega
   ·rw [if_neg f,if_neg (by omega)]
  ·rw [if_neg e,mGet,mGet_del i j h.2,mGet]
   by_cases f : j = k
   ·rw [if_pos f,if_pos f,if_neg (by omega)]
   ·rw [if_neg f,if_neg f]
theorem mGet_put {D : Img} (u : Uq D) (i j : Int) (s : List Nat) : M (mGet (mPut D i s) j zz) = if j = i then M s else M (mGet D j zz) := by
 unfold mPut
 split
 ·rename_i h
  rw [mGet_del i j u]
  split
  ·exact h.symm
  ·rfl
 ·rw [mGet_upd]
  split <;> rfl
theorem Uq.put {D : Img} (u : Uq D) (i : Int) (s : List Nat) : Uq (mPut D i s) := by
 unfold mPut
 split
 ·exact u.del
 ·exact u.upd
def putAll (at_ : Nat -> Int) : Nat -> List (List Nat) -> Img -> Img
 | _,[],D => D
 | i,s :: r,D => putAll at_ (i + 1) r (mPut D (at_ i) s)
theorem putAll_uq (at_ : Nat -> Int) : ∀ (L : List (List Nat)) (i : Nat) {D : Img},Uq D -> Uq (putAll at_ i L D)
 | [],_,_,u => u
 | s :: r,i,_,u => putAll_uq at_ r (i + 1) (u.put _ _)
theorem putAll_get (o : Int) : ∀ (L : List (List Nat)) (i : Nat) {D : Img},Uq D -> ∀ j : Int,M (mGet (putAll (fun k => o + k) i L D) j zz) = if o + i <= j /\ j < o + i + L.length then M (L.getD (j - o - i).toNat []) else M (mGet D j zz)
 | [],i,D,u,j => by
  rw [if_neg (by simp <;> omega)]
  rfl
 | s :: r,i,D,u,j => by
  show M (mGet (putAll _ (i + 1) r (mPut D (o + i) s)) j zz) = _
  rw [putAll_get o r (i + 1) (u.put _ _) j,mGet_put u]
  by_cases h1 : j = o + i
  ·rw [if_neg (by omega),if_pos h1,if_pos (by simp; omega),show (j - o - i).toNat = 0 by omega]
   rfl
  ·rw [if_neg h1]
   by_cases h2 : o + ((i + 1 : Nat) : Int) <= j /\ j < o + ((i + 1 : Nat) : Int) + r.length
   ·rw [if_pos h2,if_pos (by simp; omega),show (j - o - i).toNat = (j - o - ((i + 1 : Nat) : Int)).toNat + 1 by omega,List.getD_cons_succ]
   ·rw [if_neg h2,if_neg (by simp; omega)]
def calmM (n : Nat) (x : Img × Bool × Bool) : MS := ⟨n,x.1,x.1,[],[],x.2.1,x.2.2⟩
structure CB (b : BS) (n : Nat) (l : List (Img × Bool × Bool)) : Prop where
 ms : b.ms = l.map (calmM n)
 off : b.off = false
def Quiet (b : BS) (k : Nat) : Prop := ∀ s ∈ b.steps,¬ ((b.log.length : Int) <= s.tm /\ s.tm < b.log.length + k)
theorem aheadL_quiet (now : Nat) : ∀ (l : List Stp) (b : BS),(∀ s ∈ l,s.tm ≠ now) -> aheadL now l b = b
 | [],b,_ => rfl
 | s :: r,b,h => by rw [aheadL,if_neg (h s (by simp))]; exact aheadL_quiet now r b fun s hs => h s (List.mem_cons_of_mem _ hs)
theorem Quiet.ahead {b : BS} {k : Nat} (q : Quiet b k) (hk : 0 < k) : b.ahead = b := aheadL_quiet _ _ _ fun s hs e => q s hs (by omega)
theorem Quiet.mono {b : BS} {k j : Nat} (q : Quiet b k) (hj : j <= k) : Quiet b j := fun s hs e => q s hs (by omega)
theorem Quiet.next {b b' : BS} {k i : Nat} (q : Quiet b (k + i)) (hs : b'.steps = b.steps) (hl : b'.log.length = b.log.length + i) : Quiet b' k := fun s h e => q s (by rw [<- hs]; exact h) (by omega)
theorem ioR_on (b b0 : BS) (e : b.ahead = b0) (ho : b0.off = false) (t : Ent) (act : BS -> Int × List Nat × BS) : b.ioR t act = ({ t with x := (act b0).2.1,e := (act b0).1 }, { (act b0).2.2 with log := b.log ++ [{ t with x := (act b0).2.1,e := (act b0).1 }] }) := by
 unfold BS.ioR
 simp only [e,ho]
 rfl
theorem atAct_in (t : Ent) (am : MS -> Int × List Nat × MS) (b : BS) (m : Nat) (S : MS) (hm : t.m = (m : Int)) (hS : b.ms[m]? = some S) : atAct t am b = ((am S).1,(am S).2.1, { b with ms := b.ms.set m (am S).2.2 }) := by
 unfold atAct
 rw [if_neg (by omega),hm]
 simp only [Int.toNat_natCast,hS]
theorem set_same {α : Type} {l : List α} {m : Nat} {x : α} (h : l[m]? = some x) : l.set m x = l := by
 apply List.ext_getElem?
 intro i
 rw [List.getElem?_set]
 by_cases e : m = i
 ·subst e
  rw [if_pos rfl,if_pos (List.getElem?_eq_some_iff.1 h).1,h]
 ·rw [if_neg e]
theorem wr1 (b b0 : BS) (e : b.ahead = b0) (ho : b0.off = false) (m : Nat) (S : MS) (hS : b0.ms[m]? = some S) (i : Int) (s : List Nat) (hf : S.fails = false) (h0 : 0 <= i) (h1 : i < S.n) :
  b.write m i s = (⟨2,m,i,s,0⟩, { b0 with ms := b0.ms.set m { S with seen := mPut S.seen i s,lg := S.lg ++ [(i,s)] },log := b.log ++ [⟨2,m,i,s,0⟩] }) := by
 have hio : S.io i = 0 := by unfold MS.io mIO; rw [if_neg (by omega),hf]; rfl
 have hw : S.write i s = ({ S with seen := mPut S.seen i s,lg := S.lg ++ [(i,s)] },0) := if_pos hio
 unfold BS.write
 rw [ioR_on b b0 e ho,atAct_in _ _ b0 m S rfl hS]
 simp only [amWrite,hw]
theorem wrF (b b0 : BS) (e : b.ahead = b0) (ho : b0.off = false) (m : Nat) (S : MS) (hS : b0.ms[m]? = some S) (i : Int) (s : List Nat) (hf : S.fails = true) (h0 : 0 <= i) (h1 : i < S.n) :
  b.write m i s = (⟨2,m,i,s,10⟩, { b0 with log := b.log ++ [⟨2,m,i,s,10⟩] }) := by
 have hio : S.io i = 10 := by unfold MS.io mIO; rw [if_neg (by omega),hf]; rfl
 have hw : S.write i s = (S,10) := by unfold MS.write; rw [hio]; exact if_neg (by omega)
 unfold BS.write
 rw [ioR_on b b0 e ho,atAct_in _ _ b0 m S rfl hS]
 simp only [amWrite,hw,set_same hS]
def wrs (at_ : Nat -> Int) : Nat -> List (List Nat) -> Img
 | _,[] => []
 | i,s :: r => (at_ i,s) :: wrs at_ (i + 1) r
theorem keep_wrs (at_ : Nat -> Int) : ∀ (L : List (List Nat)) (i k : Nat) (D : Img),mKeep (fun _ => true) D k (wrs at_ i L) = putAll at_ i L D
 | [],_,_,_ => rfl
 | s :: r,i,k,D => by
  rw [wrs,mKeep,putAll,if_pos rfl]
  exact keep_wrs at_ r (i + 1) (k + 1) _
theorem jW_q (m : Nat) (n : Nat) (at_ : Nat -> Int) : ∀ (L : List (List Nat)) (i : Nat) (b : BS) (S : MS),b.off = false -> b.ms[m]? = some S -> S.fails = false -> S.n = n -> (∀ k,i <= k -> k < i + L.length -> 0 <= at_ k /\ at_ k < n) -> Quiet b L.length ->
  ∃ ents,jW m at_ i L b = (0, { b with ms := b.ms.set m { S with seen := putAll at_ i L S.seen,lg := S.lg ++ wrs at_ i L },log := b.log ++ ents }) /\ ents.length = L.length
 | [],i,b,S,ho,hS,hf,hn,hr,hq => ⟨[],by simp [jW,putAll,wrs,set_same hS],rfl⟩
 | s :: r,i,b,S,ho,hS,hf,hn,hr,hq => by
  have hr0 := hr i (Nat.le_refl _) (by simp)
  have e := wr1 b b (hq.ahead (by simp)) ho m S hS (at_ i) s hf hr0.1 (by omega)
  have hlt := (List.getElem?_eq_some_iff.1 hS).1
  obtain ⟨ents,e2,l2⟩ := jW_q m n at_ r (i + 1) { b with ms := b.ms.set m { S with seen := mPut S.seen (at_ i) s,lg := S.lg ++ [(at_ i,s)] },log := b.log ++ [⟨2,m,at_ i,s,0⟩] } { S with seen := mPut S.seen (at_ i) s,lg := S.lg ++ [(at_ i,s)] } ho (by simp [hlt]) hf hn (fun k h1 h2 => hr k (by omega) (by simp; omega)) (Quiet.next (i := 1) (b := b) hq rfl (by simp))
  refine ⟨⟨2,m,at_ i,s,0⟩ :: ents, ?_,by simp [l2]⟩
  rw [jW,e]
  simp only [if_true]
  rw [e2]
  simp [putAll,wrs,List.set_set]
theorem fl1 (b : BS) (e : b.ahead = b) (ho : b.off = false) (m : Nat) (S : MS) (hS : b.ms[m]? = some S) (hf : S.fails = false) (n0 : 0 < S.n) :
  b.flush m = (⟨3,m,0,zz,0⟩, { b with ms := b.ms.set m (S.settle fun _ => true),log := b.log ++ [⟨3,m,0,zz,0⟩] }) := by
 have hio : S.io 0 = 0 := by unfold MS.io mIO; rw [if_neg (by omega),hf]; rfl
 have hw : S.flush = (S.settle fun _ => true,0) := if_pos hio
 unfold BS.flush
 rw [ioR_on b b e ho,atAct_in _ _ b m S rfl hS]
 simp only [amFlush,hw]
theorem jPut1_ok (b b0 : BS) (e : b.ahead = b0) (ho : b0.off = false) (m n : Nat) (D : Img) (hu : Bool) (hS : b0.ms[m]? = some (calmM n (D,false,hu))) (at_ : Nat -> Int) (L : List (List Nat)) (hL : L ≠ []) (hr : ∀ k,k < L.length -> 0 <= at_ k /\ at_ k < n) (n0 : 0 < n) (hb : b0.log.length = b.log.length /\ b0.steps = b.steps) (hq : ∀ s ∈ b.steps,¬ ((b.log.length : Int) < s.tm /\ s.tm < b.log.length + (L.length + 1))) :
  ∃ ents,jPut1 m at_ L b = (0, { b0 with ms := b0.ms.set m (calmM n (putAll at_ 0 L D,false,hu)),log := b.log ++ ents }) /\ ents.length = L.length + 1 := by
 cases L with
 | nil => exact absurd rfl hL
 | cons s r =>
  have hlt := (List.getElem?_eq_some_iff.1 hS).1
  have hr0 := hr 0 (by simp)
  have e1 := wr1 b b0 e ho m _ hS (at_ 0) s rfl hr0.1 hr0.2
  obtain ⟨ents,e2,l2⟩ := jW_q m n at_ r 1 { b0 with ms := b0.ms.set m { (calmM n (D,false,hu)) with seen := mPut D (at_ 0) s,lg := [(at_ 0,s)] },log := b.log ++ [⟨2,m,at_ 0,s,0⟩] } { (calmM n (D,false,hu)) with seen := mPut D (at_ 0) s,lg := [(at_ 0,s)] } ho (by simp [hlt]) rfl rfl (fun k h1 h2 => hr k (by simp; omega)) (fun s' hs' x => hq s' (by rw [<- hb.2]; exact hs') (by simp at x ⊢; omega))
  have eW : jW m at_ 0 (s :: r) b = (0, { b0 with ms := b0.ms.set m { (calmM n (D,false,hu)) with seen := putAll at_ 0 (s :: r) D,lg := wrs at_ 0 (s :: r) },log := b.log ++ (⟨2,m,at_ 0,s,0⟩ :: ents) }) := by
   rw [jW,e1]
   simp only [if_true]
   refine (show _ = _ from e2).trans ?_
   simp [putAll,wrs,List.set_set]
  have eF := fl1 { b0 with ms := b0.ms.set m { (calmM n (D,false,hu)) with seen := putAll at_ 0 (s :: r) D,lg := wrs at_ 0 (s :: r) },log := b.log ++ (⟨2,m,at_ 0,s,0⟩ :: ents) } (aheadL_quiet _ _ _ fun s' hs' x => hq s' (by rw [<- hb.2]; exact hs') (by simp at x ⊢; omega)) ho m _ (by simp [hlt]; rfl) rfl n0
  refine ⟨⟨2,m,at_ 0,s,0⟩ :: (ents ++ [⟨3,m,0,zz,0⟩]), ?_,by simp [l2]⟩
  unfold jPut1
  rw [eW]
  simp only [if_true]
  rw [eF]
  have ek := keep_wrs at_ (s :: r) 0 0 D
  simp only [calmM,List.set_set,List.append_assoc,List.cons_append,MS.settle,ek]
theorem jPut1_no (b b0 : BS) (e : b.ahead = b0) (ho : b0.off = false) (m n : Nat) (D : Img) (hu : Bool) (hS : b0.ms[m]? = some (calmM n (D,true,hu))) (at_ : Nat -> Int) (L : List (List Nat)) (hL : L ≠ []) (hr : ∀ k,k < L.length -> 0 <= at_ k /\ at_ k < n) :
  ∃ ents,jPut1 m at_ L b = (10, { b0 with log := b.log ++ ents }) /\ ents.length = 1 := by
 cases L with
 | nil => exact absurd rfl hL
 | cons s r =>
  have hr0 := hr 0 (by simp)
  have e1 := wrF b b0 e ho m _ hS (at_ 0) s rfl hr0.1 hr0.2
  refine ⟨[⟨2,m,at_ 0,s,10⟩], ?_,rfl⟩
  unfold jPut1
  rw [jW,e1]
  rfl
def upC (at_ : Nat -> Int) (L : List (List Nat)) (x : Img × Bool × Bool) : Img × Bool × Bool := if x.2.1 then x else (putAll at_ 0 L x.1,false,x.2.2)
def ioC (k : Nat) (l : List (Img × Bool × Bool)) : Nat := (l.map fun x => if x.2.1 then 1 else k + 1).sum
def tookC : Nat -> List (Img × Bool × Bool) -> List Nat
 | _,[] => []
 | i,x :: r => if x.2.1 then tookC (i + 1) r else i :: tookC (i + 1) r
theorem ioC_cons (k : Nat) (x : Img × Bool × Bool) (r : List (Img × Bool × Bool)) : ioC k (x :: r) = (if x.2.1 then 1 else k + 1) + ioC k r := by simp [ioC]
theorem ioC_pos (k : Nat) (x : Img × Bool × Bool) (r : List (Img × Bool × Bool)) : 0 < ioC k (x :: r) := by
 rw [ioC_cons]
 split <;> omega
theorem jPutM_ok (n : Nat) (n0 : 0 < n) (at_ : Nat -> Int) (L : List (List Nat)) (hL : L ≠ []) (hr : ∀ k,k < L.length -> 0 <= at_ k /\ at_ k < n) : ∀ (todo : List (Img × Bool × Bool)) (done : List (Img × Bool × Bool)) (took : List Nat) (b b0 : BS),b.ahead = b0 -> CB b0 n (done ++ todo) -> b0.log.length = b.log.length -> b0.steps = b.steps -> (∀ s ∈ b.steps,¬ ((b.log.length : Int) < s.tm /\ s.tm < b.log.length + ioC L.length todo)) -> todo ≠ [] ->
  ∃ b',jPutM at_ L todo.length done.length took b = (took ++ tookC done.length todo,0,b') /\ CB b' n (done ++ todo.map (upC at_ L)) /\ b'.steps = b.steps /\ b'.log.length = b.log.length + ioC L.length todo
 | [],_,_,_,_,_,_,_,_,_,h => absurd rfl h
 | x :: r,done,took,b,b0,e,hc,hl,hs,hq,_ => by
  have hS : b0.ms[done.length]? = some (calmM n x) := by rw [hc.ms]; simp
  have hio := ioC_cons L.length x r
  have key : ∃ (er : Int) (b1 : BS) (k : Nat),jPut1 done.length at_ L b = (er,b1) /\ (er = 0 /\ x.2.1 = false \/ er = 10 /\ x.2.1 = true) /\ CB b1 n ((done ++ [upC at_ L x]) ++ r) /\ b1.steps = b.steps /\ b1.log.length = b.log.length + k /\ k = (if x.2.1 then 1 else L.length + 1) := by
   obtain ⟨D,f,hu⟩ := x
   have hms := hc.ms
   cases f with
   | true =>
    obtain ⟨ents,e1,l1⟩ := jPut1_no b b0 e hc.off done.length n D hu hS at_ L hL hr
    exact ⟨10,_,1,e1, .inr ⟨rfl,rfl⟩,⟨by simp [upC,hms],hc.off⟩,hs,by simp [l1],rfl⟩
   | false =>
    obtain ⟨ents,e1,l1⟩ := jPut1_ok b b0 e hc.off done.length n D hu hS at_ L hL hr n0 ⟨hl,hs⟩ (fun s h x => hq s h (by simp at hio; omega))
    exact ⟨0,_,L.length + 1,e1, .inl ⟨rfl,rfl⟩,⟨by simp [upC,hms],hc.off⟩,hs,by simp [l1],rfl⟩
  obtain ⟨er,b1,k,e1,her,hc1,hs1,hl1,hk⟩ := key
  cases r with
  | nil =>
   refine ⟨b1, ?_,by simpa using hc1,hs1,by rw [hl1,hio,hk]; rfl⟩
   show jPutM at_ L (0 + 1) _ _ _ = _
   rw [jPutM,e1]
   rcases her with ⟨rfl,hx⟩ | ⟨rfl,hx⟩
   ·simp [jPutM,tookC,hx]
   ·simp [jPutM,tookC,hx]
  | cons y r' =>
   have hp := ioC_pos L.length y r'
   obtain ⟨b',e2,hc2,hs2,hl2⟩ := jPutM_ok n n0 at_ L hL hr (y :: r') (done ++ [upC at_ L x]) (if x.2.1 then took else took ++ [done.length]) b1 b1 (aheadL_quiet _ _ _ fun s h e => hq s (by rw [<- hs1]; exact h) (by rw [hk] at hl1; split at hl1 <;> rw [hio] <;> simp_all <;> omega)) hc1 rfl rfl (fun s h e => hq s (by rw [<- hs1]; exact h) (by rw [hio,<- hk]; omega)) (by simp)
   refine ⟨b', ?_,by simpa using hc2,hs2.trans hs1,by rw [hl2,hl1,hio,hk]; omega⟩
   have ed : (done ++ [upC at_ L x]).length = done.length + 1 := by simp
   rw [ed] at e2
   show jPutM at_ L ((y :: r').length + 1) _ _ _ = _
   rw [jPutM,e1]
   rcases her with ⟨rfl,hx⟩ | ⟨rfl,hx⟩
   ·rw [hx] at e2
    simp only [if_true]
    refine e2.trans ?_
    simp [tookC,hx]
   ·rw [hx] at e2
    simp only [if_neg (show ¬ (10 : Int) = 0 by omega),if_neg (show ¬ (10 : Int) = 13 by omega)]
    refine e2.trans ?_
    simp [tookC,hx]
theorem nsec_le {n k : Nat} (h : n <= k * 64) : nsec n <= k := by unfold nsec; omega
theorem jSecs_len (root body : List Nat) : (jSecs root body).length = 2 + nsec body.length := by simp [jSecs,secs_len]
theorem put_calm (b b0 : BS) (l : List (Img × Bool × Bool)) (r hf : Int) (hg : gOk l.length r = true) (h0 : 0 <= hf) (h1 : hf <= 1) (e : b.ahead = b0) (hc : CB b0 (gSec l.length r) l) (hl : b0.log.length = b.log.length) (hs : b0.steps = b.steps) (root body : List Nat) (hr : root.length = 128) (hb : body.length <= (gHalf l.length r - 2) * 64) (hq : ∀ s ∈ b.steps,¬ ((b.log.length : Int) < s.tm /\ s.tm < b.log.length + ioC (2 + nsec body.length) l)) :
  ∃ b',jPut b l.length r hf root body = (tookC 0 l,0,b') /\ CB b' (gSec l.length r) (l.map (upC (jPos l.length r hf) (jSecs root body))) /\ b'.steps = b.steps /\ b'.log.length = b.log.length + ioC (2 + nsec body.length) l := by
 have hlen := jSecs_len root body
 have hnb := nsec_le hb
 have h2 := gHalf_ge hg
 obtain ⟨b1,b2,b3,b4⟩ := gOk_t hg
 have hbm : b.ms.length = l.length := by
  have : b0.ms.length = b.ms.length := by rw [<- e]; exact ahead_ms b
  rw [<- this,hc.ms,List.length_map]
 have hS : gSec l.length r = 8 + 2 * gHalf l.length r + gNodes l.length r + r.toNat := if_pos hg
 have hj : ¬ jOk b.ms.length l.length r hf = false := by rw [show jOk b.ms.length l.length r hf = true from decide_eq_true ⟨hg,by rw [hbm],h0,h1⟩]; simp
 have hf2 : hf = 0 \/ hf = 1 := by omega
 have eJ : jPut b l.length r hf root body = jPutM (jPos l.length r hf) (jSecs root body) l.length 0 [] b := by unfold jPut; rw [if_neg hj,if_neg (by omega),if_neg (by omega),hbm]
 have hne : l ≠ [] := fun x => by rw [x] at b1; simp at b1
 obtain ⟨b',e1,e2,e3,e4⟩ := jPutM_ok (gSec l.length r) (by omega) (jPos l.length r hf) (jSecs root body) (fun x => by rw [x] at hlen; simp at hlen; omega) (fun k hk => by rw [hlen] at hk; unfold jPos; rcases hf2 with rfl | rfl <;> omega) l [] [] b b0 e (by simpa using hc) hl hs (by rw [hlen]; exact hq) hne
 rw [hlen] at e4
 exact ⟨b',by rw [eJ]; simpa using e1,by simpa using e2,e3,e4⟩
/-! reading -/
theorem rd1 (b : BS) (e : b.ahead = b) (ho : b.off = false) (m : Nat) (n : Nat) (D : Img) (hu : Bool) (hS : b.ms[m]? = some (calmM n (D,false,hu))) (i : Int) (h0 : 0 <= i) (h1 : i < n) :
  b.read m i = (⟨1,m,i,mGet D i zz,0⟩, { b with log := b.log ++ [⟨1,m,i,mGet D i zz,0⟩] }) := by
 have hio : (calmM n (D,false,hu)).io i = 0 := by
  unfold MS.io mIO
  rw [if_neg (by simp only [calmM]; omega)]
  rfl
 have hw : (calmM n (D,false,hu)).read i = (mGet D i zz,0) := if_pos hio
 unfold BS.read
 rw [ioR_on b b e ho,atAct_in _ _ b m _ rfl hS]
 simp only [amRead,hw,set_same hS]
def rdC (at_ : Nat -> Int) (D : Img) : Nat -> Nat -> List Nat
 | _,0 => []
 | i,n + 1 => mGet D (at_ i) zz ++ rdC at_ D (i + 1) n
theorem jR_q (m n : Nat) (at_ : Nat -> Int) (D : Img) (hu : Bool) : ∀ (k i : Nat) (acc : List Nat) (b : BS),b.off = false -> b.ms[m]? = some (calmM n (D,false,hu)) -> (∀ j,i <= j -> j < i + k -> 0 <= at_ j /\ at_ j < n) -> Quiet b k ->
  ∃ ents,jR m at_ k i acc b = (acc ++ rdC at_ D i k,0, { b with log := b.log ++ ents }) /\ ents.length = k
 | 0,i,acc,b,ho,hS,hr,hq => ⟨[],by simp [jR,rdC],rfl⟩
 | k + 1,i,acc,b,ho,hS,hr,hq => by
  have hr0 := hr i (Nat.le_refl _) (by omega)
  have e := rd1 b (hq.ahead (by omega)) ho m n D hu hS (at_ i) hr0.1 hr0.2
  obtain ⟨ents,e2,l2⟩ := jR_q m n at_ D hu k (i + 1) (acc ++ mGet D (at_ i) zz) { b with log := b.log ++ [⟨1,m,at_ i,mGet D (at_ i) zz,0⟩] } ho hS (fun j h1 h2 => hr j (by omega) (by omega)) (Quiet.next (i := 1) (b := b) hq rfl (by simp))
  refine ⟨⟨1,m,at_ i,mGet D (at_ i) zz,0⟩ :: ents, ?_,by simp [l2]⟩
  rw [jR,e]
  simp only [if_true]
  rw [e2]
  simp [rdC]
theorem M_app (a b : List Nat) : M (a ++ b) = M a ++ M b := by simp [M]
theorem rd_of (at_ : Nat -> Int) (D : Img) (L : List (List Nat)) : ∀ (n i : Nat),i + n <= L.length -> (∀ k,i <= k -> k < i + n -> M (mGet D (at_ k) zz) = M (L.getD k [])) -> M (rdC at_ D i n) = M ((L.drop i).take n).flatten
 | 0,i,h,e => by simp [rdC,M]
 | n + 1,i,h,e => by
  have hi : i < L.length := by omega
  rw [rdC,M_app,rd_of at_ D L n (i + 1) (by omega) (fun k h1 h2 => e k (by omega) (by omega)),e i (Nat.le_refl _) (by omega)]
  rw [List.drop_eq_getElem_cons hi,List.take_succ_cons,List.flatten_cons,M_app]
  simp [List.getD_eq_getElem?_getD,List.getElem?_eq_getElem hi]
theorem secs_flat (l : List Nat) : ∀ n : Nat,(secs l n).flatten = l.take (64 * n) ++ List.replicate (64 * n - l.length) 0
 | 0 => by simp [secs]
 | n + 1 => by
  rw [secs_succ,List.flatten_append,secs_flat l n]
  simp only [List.flatten_cons,List.flatten_nil,List.append_nil,pad64]
  rcases Nat.lt_or_ge l.length (64 * n) with h | h
  ·have hd : l.drop (64 * n) = [] := List.drop_of_length_le (by omega)
   rw [hd,List.take_of_length_le (show l.length <= 64 * n by omega),List.take_of_length_le (show l.length <= 64 * (n + 1) by omega),List.append_assoc]
   simp only [List.take_nil,List.nil_append,List.length_nil,List.replicate_append_replicate]
   congr 2
   omega
  ·rw [show 64 * n - l.length = 0 by omega,List.replicate_zero,List.append_nil,<- List.append_assoc,show 64 * (n + 1) = 64 * n + 64 by omega,List.take_add,List.length_drop]
   congr 2
   omega
theorem secs_take (l : List Nat) (n : Nat) (h : l.length <= 64 * n) : (secs l n).flatten.take l.length = l := by
 rw [secs_flat,List.take_of_length_le (l := l) (i := 64 * n) h,List.take_left]
theorem M_take (l : List Nat) (n : Nat) : M (l.take n) = (M l).take n := by simp [M]
theorem rd_root (at_ : Nat -> Int) (D : Img) (root body : List Nat) (hr : root.length = 128) (e : ∀ k,k < 2 + nsec body.length -> M (mGet D (at_ k) zz) = M ((jSecs root body).getD k [])) : M (rdC at_ D 0 2) = M root := by
 rw [rd_of at_ D (jSecs root body) 2 0 (by rw [jSecs_len]; omega) (fun k _ h => e k (by omega))]
 have e1 : ((jSecs root body).drop 0).take 2 = secs root 2 := by
  unfold jSecs
  rw [List.drop_zero,List.take_append_of_le_length (by rw [secs_len]; omega),List.take_of_length_le (by rw [secs_len]; omega)]
 have := secs_take root 2 (by omega)
 rw [List.take_of_length_le (by rw [secs_flat]; simp; omega)] at this
 rw [e1,this]
theorem rd_body (at_ : Nat -> Int) (D : Img) (root body : List Nat) (e : ∀ k,k < 2 + nsec body.length -> M (mGet D (at_ k) zz) = M ((jSecs root body).getD k [])) : M ((rdC at_ D 2 (nsec body.length)).take body.length) = M body := by
 rw [M_take,rd_of at_ D (jSecs root body) (nsec body.length) 2 (by rw [jSecs_len]; omega) (fun k _ h => e k (by omega)),<- M_take]
 have e1 : ((jSecs root body).drop 2).take (nsec body.length) = secs body (nsec body.length) := by
  unfold jSecs
  rw [List.drop_append_of_le_length (by rw [secs_len]; omega),List.drop_of_length_le (by rw [secs_len]; omega),List.nil_append,List.take_of_length_le (by rw [secs_len]; omega)]
 rw [e1,secs_take body _ (by unfold nsec; omega)]
def Holds (m r hf : Int) (D : Img) (L : List (List Nat)) : Prop := ∀ k,k < L.length -> M (mGet D (jPos m r hf k) zz) = M (L.getD k [])
theorem Holds.put {m r hf : Int} {D : Img} (u : Uq D) (L : List (List Nat)) : Holds m r hf (putAll (jPos m r hf) 0 L D) L := by
 intro k hk
 have := putAll_get (8 + hf * (gHalf m r : Nat)) L 0 u (jPos m r hf k)
 refine Eq.trans this ?_
 unfold jPos
 rw [if_pos (by omega)]
 congr 2
 omega
theorem Holds.other {m r hf hf' : Int} {D : Img} {L : List (List Nat)} (x : Holds m r hf D L) (u : Uq D) (hL : L.length <= gHalf m r) (L' : List (List Nat)) (hL' : L'.length <= gHalf m r) (h0 : hf = 0 \/ hf = 1) (h1 : hf' = 1 - hf) : Holds m r hf (putAll (jPos m r hf') 0 L' D) L := by
 intro k hk
 have := putAll_get (8 + hf' * (gHalf m r : Nat)) L' 0 u (jPos m r hf k)
 refine Eq.trans this ?_
 rw [if_neg ?_]
 ·exact x k hk
 ·unfold jPos
  subst h1
  rcases h0 with rfl | rfl <;> omega
theorem jPutM_keep (at_ : Nat -> Int) (L : List (List Nat)) (hl : ∀ s ∈ L,s.length = 64) : ∀ (n mem : Nat) (took : List Nat) (b : BS),BOk b -> b.log.length + n * (L.length + 1) < 3980 -> BOk (jPutM at_ L n mem took b).2.2
 | 0,mem,took,b,w,_ => w
 | n + 1,mem,took,b,w,hn => by
  rw [Nat.succ_mul] at hn
  obtain ⟨w1,s1,m1,l1⟩ := jPut1_keep mem at_ L b hl w (by omega)
  rw [jPutM]
  split
  ·exact jPutM_keep at_ L hl n _ _ _ w1 (by omega)
  ·split
   ·exact w1
   ·exact jPutM_keep at_ L hl n _ _ _ w1 (by omega)
theorem jPut_keep (b : BS) (m r hf : Int) (root body : List Nat) (w : BOk b) (hn : b.log.length + b.ms.length * (nsec body.length + 3) < 3980) : BOk (jPut b m r hf root body).2.2 := by
 unfold jPut
 split
 ·exact w
 split
 ·exact w
 split
 ·exact w
 ·refine jPutM_keep _ _ (fun s hs => ?_) _ _ _ _ w ?_
  ·rcases List.mem_append.1 hs with x | x
   ·exact secs_64 s x
   ·exact secs_64 s x
  ·rw [jSecs_len,show 2 + nsec body.length + 1 = nsec body.length + 3 by omega]; exact hn
structure HB (h : Heap) (C : Col) (kb β cp : Nat) (ps : List Nat) (b : BS) (n : Nat) (l : List (Img × Bool × Bool)) : Prop where
 I : BusI h C kb β cp ps b
 w : BOk b
 c : CB b n l
theorem HB.len {h : Heap} {C : Col} {kb β cp n : Nat} {ps : List Nat} {b : BS} {l : List (Img × Bool × Bool)} (x : HB h C kb β cp ps b n l) : b.ms.length = l.length := by rw [x.c.ms,List.length_map]
theorem HB.keep {h h' : Heap} {C C' : Col} {kb β cp n : Nat} {ps : List Nat} {b : BS} {l : List (Img × Bool × Bool)} (x : HB h C kb β cp ps b n l) (hn : h.next <= h'.next) (hg : ∀ j,j < h.next -> kb <= C j -> C j < kb + 100 -> h'.get j = h.get j) (hC : ∀ j,j < h.next -> C' j = C j) : HB h' C' kb β cp ps b n l := ⟨x.I.keep x.w.w.msl hn hg hC,x.w,x.c⟩
theorem hput (d : Nat) (h : Heap) (C : Col) (kb β cp : Nat) (ps : List Nat) (b b0 : BS) (l : List (Img × Bool × Bool)) (r hf : Int) (rv bv : AV) (root body : List Nat) (kb10 : 10 <= kb) (I : BusI h C kb β cp ps b) (w : BOk b) (e : b.ahead = b0) (hc : CB b0 (gSec l.length r) l) (hg : gOk l.length r = true) (h0 : 0 <= hf) (h1 : hf <= 1) (xr : ByR h rv root) (xb : ByR h bv body) (hr : root.length = 128) (hb : body.length <= (gHalf l.length r - 2) * 64) (hlog : b.log.length + l.length * (nsec body.length + 3) < 3980) (hst : SAll (d + 1) kb β cp ps b.steps) (hq : ∀ s ∈ b.steps,¬ ((b.log.length : Int) < s.tm /\ s.tm < b.log.length + ioC (2 + nsec body.length) l)) :
  G (callD env (d + 13) 8 [.ptr β 0,gA l.length r, .int .i64 hf,rv,bv] h) fun v h' => ∃ C' tv b',v = .tup [tv, .int .i64 0] /\ Own 1 h.next h' tv (iA (tookC 0 l)) (tookC 0 l).length /\ (∀ K,blkE tv = some K -> C' K = 0) /\ HB h' C' kb β cp ps b' (gSec l.length r) (l.map (upC (jPos l.length r hf) (jSecs root body))) /\ b'.steps = b.steps /\ b'.log.length = b.log.length + ioC (2 + nsec body.length) l /\ Fr (busK kb) C h h' /\ ∀ j,j < h.next -> C' j = C j := by
 have hbm : b.ms.length = l.length := by
  have : b0.ms.length = b.ms.length := by rw [<- e]; exact ahead_ms b
  rw [<- this,hc.ms,List.length_map]
 have ea := aheadL_steps b.log.length b.steps b
 obtain ⟨b',e1,e2,e3,e4⟩ := put_calm b b0 l r hf hg h0 h1 e hc (by rw [<- e]; show b.ahead.log.length = _; rw [show b.ahead.log = b.log from ea.2.1]) (by rw [<- e]; exact ea.1) root body hr hb hq
 have hH := gHalf_le l.length r
 refine (jput_ok d h C kb β cp ps b l.length r hf rv bv root body kb10 I w xr xb (by omega) (by omega) (by rw [hbm]; exact hlog) hst).mono ?_
 have wk := jPut_keep b l.length r hf root body w (by rw [hbm]; exact hlog)
 rw [e1] at wk
 rw [e1]
 rintro v h' ⟨C',tv,x1,x2,x3,x4,x5,x6⟩
 exact ⟨C',tv,b',x1,x2,x3,⟨x4,wk,e2⟩,e3,e4,x5,x6⟩
theorem hroot (d : Nat) (h : Heap) (C : Col) (kb β cp : Nat) (ps : List Nat) (b : BS) (l : List (Img × Bool × Bool)) (r hf : Int) (m : Nat) (D : Img) (hu : Bool) (kb10 : 10 <= kb) (x : HB h C kb β cp ps b (gSec l.length r) l) (hm : l[m]? = some (D,false,hu)) (hg : gOk l.length r = true) (h0 : 0 <= hf) (h1 : hf <= 1) (hlog : b.log.length + 2 < 3980) (hst : SAll (d + 1) kb β cp ps b.steps) (hq : Quiet b 2) :
  G (callD env (d + 13) 9 [.ptr β 0,gA l.length r, .int .i64 hf, .int .i64 (m : Int)] h) fun v h' => ∃ C' tv b',v = .tup [tv, .int .i64 0] /\ ByR h' tv (rdC (jPos l.length r hf) D 0 2) /\ (∀ K,blkA tv = some K -> h.next <= K /\ C' K = 0) /\ HB h' C' kb β cp ps b' (gSec l.length r) l /\ b'.steps = b.steps /\ b'.log.length = b.log.length + 2 /\ Fr (busK kb) C h h' /\ ∀ j,j < h.next -> C' j = C j := by
 have hml := (List.getElem?_eq_some_iff.1 hm).1
 have h2 := gHalf_ge hg
 have hS : gSec l.length r = 8 + 2 * gHalf l.length r + gNodes l.length r + r.toNat := if_pos hg
 have hf2 : hf = 0 \/ hf = 1 := by omega
 have hMay : jMay b.ms.length l.length r hf m = true := decide_eq_true ⟨decide_eq_true ⟨hg,by rw [x.len],h0,h1⟩,by omega,by omega⟩
 have hSm : b.ms[m]? = some (calmM (gSec l.length r) (D,false,hu)) := by rw [x.c.ms,List.getElem?_map,hm]; rfl
 obtain ⟨ents,e1,e2⟩ := jR_q m (gSec l.length r) (jPos l.length r hf) D hu 2 0 [] b x.c.off hSm (fun j _ hj => by unfold jPos; rcases hf2 with rfl | rfl <;> omega) hq
 have eR : jRoot b l.length r hf m = (rdC (jPos l.length r hf) D 0 2,0, { b with log := b.log ++ ents }) := by
  unfold jRoot; rw [if_pos hMay,e1,List.nil_append]
 have wk := (jR_keep m (jPos l.length r hf) 2 0 [] b x.w (by omega)).1
 rw [e1] at wk
 refine (jroot_ok d h C kb β cp ps b l.length r hf m kb10 x.I x.w hlog hst).mono ?_
 rw [eR]
 rintro v h' ⟨C',tv,x1,x2,x3,x4,x5,x6⟩
 exact ⟨C',tv,_,x1,x2,x3,⟨x4,wk,⟨x.c.ms,x.c.off⟩⟩,rfl,by simp [e2],x5,x6⟩
theorem hbody (d : Nat) (h : Heap) (C : Col) (kb β cp : Nat) (ps : List Nat) (b : BS) (l : List (Img × Bool × Bool)) (r hf : Int) (m many : Nat) (D : Img) (hu : Bool) (kb10 : 10 <= kb) (x : HB h C kb β cp ps b (gSec l.length r) l) (hm : l[m]? = some (D,false,hu)) (hg : gOk l.length r = true) (h0 : 0 <= hf) (h1 : hf <= 1) (hmany : many <= gCap l.length r) (hlog : b.log.length + (69 * many + 63) / 64 < 3980) (hst : SAll (d + 1) kb β cp ps b.steps) (hq : Quiet b ((69 * many + 63) / 64)) :
  G (callD env (d + 13) 10 [.ptr β 0,gA l.length r, .int .i64 hf, .int .i64 (m : Int), .int .i64 (many : Int)] h) fun v h' => ∃ C' tv b',v = .tup [tv, .int .i64 0] /\ ByR h' tv ((rdC (jPos l.length r hf) D 2 (nsec (69 * many))).take (69 * many)) /\ (∀ K,blkA tv = some K -> h.next <= K /\ C' K = 0) /\ HB h' C' kb β cp ps b' (gSec l.length r) l /\ b'.steps = b.steps /\ b'.log.length = b.log.length + nsec (69 * many) /\ Fr (busK kb) C h h' /\ ∀ j,j < h.next -> C' j = C j := by
 have hml := (List.getElem?_eq_some_iff.1 hm).1
 have h2 := gHalf_ge hg
 have eH : gHalf l.length r = 2 + (69 * gCap l.length r + 63) / 64 := by unfold gHalf; rw [if_pos hg]
 have hS : gSec l.length r = 8 + 2 * gHalf l.length r + gNodes l.length r + r.toNat := if_pos hg
 have hf2 : hf = 0 \/ hf = 1 := by omega
 have hMay : jMay b.ms.length l.length r hf m = true := decide_eq_true ⟨decide_eq_true ⟨hg,by rw [x.len],h0,h1⟩,by omega,by omega⟩
 have hSm : b.ms[m]? = some (calmM (gSec l.length r) (D,false,hu)) := by rw [x.c.ms,List.getElem?_map,hm]; rfl
 have hns : nsec (69 * many) = (69 * many + 63) / 64 := rfl
 obtain ⟨ents,e1,e2⟩ := jR_q m (gSec l.length r) (jPos l.length r hf) D hu ((69 * many + 63) / 64) 2 [] b x.c.off hSm (fun j _ hj => by unfold jPos; rcases hf2 with rfl | rfl <;> omega) hq
 have eR : jBody b l.length r hf m many = ((rdC (jPos l.length r hf) D 2 (nsec (69 * many))).take (69 * many),0, { b with log := b.log ++ ents }) := by
  unfold jBody
  rw [if_pos ⟨hMay,by omega,by omega⟩,Int.toNat_natCast,e1,List.nil_append]
  rfl
 have wk := (jR_keep m (jPos l.length r hf) ((69 * many + 63) / 64) 2 [] b x.w (by omega)).1
 rw [e1] at wk
 refine (jbody_ok d h C kb β cp ps b l.length r hf m many kb10 x.I x.w (.inr (by rw [Int.toNat_natCast]; exact hlog)) hst).mono ?_
 rw [eR]
 rintro v h' ⟨C',tv,x1,x2,x3,x4,x5,x6⟩
 exact ⟨C',tv,_,x1,x2,x3,⟨x4,wk,⟨x.c.ms,x.c.off⟩⟩,rfl,by simp [e2,hns],x5,x6⟩
/-! strings of bytes in memory -/
theorem cvc (dd : Option Tmp) (t : TypeId) (p : String) (a : Array Edge) (g : Option (Nat × Bool)) (x : Operand) : cls Try.prog ⟨dd, .convert 33 9 x,t,p,a,g⟩ = .r := cls_convStr Try.underlying33 Try.underlying9 x
theorem cvo (call : CallK) (ρ : Operand -> AV) (dd : Option Tmp) (t : TypeId) (p : String) (a : Array Edge) (g : Option (Nat × Bool)) (h : Heap) (x : Operand) : opE Try.prog call ρ ⟨dd, .convert 33 9 x,t,p,a,g⟩ h = th (okv (ρ x)) fun v => th (convStrE Try.prog h 33 9 v) fun v => some (v,h) := opE_convStr Try.underlying33 Try.underlying9 x
theorem cvr (ρ : Operand -> AV) (dd : Option Tmp) (t : TypeId) (p : String) (a : Array Edge) (g : Option (Nat × Bool)) (h : Heap) (x : Operand) : readE Try.prog ρ ⟨dd, .convert 33 9 x,t,p,a,g⟩ h = th (okv (ρ x)) fun v => convStrE Try.prog h 33 9 v := readE_convStr (e := 5) x
theorem ByR.str {h : Heap} {v : AV} {l : List Nat} (x : ByR h v l) : convStrE Try.prog h 33 9 v = some (.str (strB l)) := by
 have z : ∀ v : AV,sliceLenA v = some 0 -> (∀ {β : Type} (K : List AV -> Option β),firstK h 1 0 v K = K []) -> convStrE Try.prog h 33 9 v = some (.str (strB [])) := by
  intro v h1 h2
  unfold convStrE convStrK
  simp only [unK_E,Try.underlying33,Try.underlying9,Try.underlying5,th_some,h1,h2]
  rfl
 rcases x with ⟨rfl,rfl⟩ | ⟨k,o,cap,cs,ex,ro,rfl,h1,h2,h3,h4⟩ | ⟨k,o,i,cs,ex,ro,rfl,h2,h3,h4⟩
 ·exact z _ rfl fun K => rfl
 ·by_cases h0 : l = []
  ·subst h0; exact z _ rfl fun K => rfl
  ·exact convStr_slice Try.underlying33 Try.underlying9 Try.underlying5 h3 h4 (List.length_pos_iff.2 h0)
 ·by_cases h0 : l = []
  ·subst h0; exact z _ rfl fun K => rfl
  ·have := convStr_slice (c := l.length) Try.underlying33 Try.underlying9 Try.underlying5 h3 h4 (List.length_pos_iff.2 h0)
   rw [<- this]
   simp only [convStrE,convStrK,sliceLenA,firstK]
theorem same_str (s : List UInt8) : AV.same (.str s) (.str s) = true := by simp [AV.same,scSame]
theorem s54 : gSec 4 1 = 54 := by decide +kernel
theorem h21 : gHalf 4 1 = 21 := by decide +kernel
theorem c17 : gCap 4 1 = 17 := by decide +kernel
theorem ok41 : gOk 4 1 = true := by decide
theorem StK.nil (h : Heap) : StK h .nilslice [] [] := ⟨rfl,rfl,len_nilslice Try.underlying49,rfl,fun i s h => by simp at h⟩
def Lc (h : Heap) (C : Col) (g : List (Nat × Blk)) : Prop := ∀ q ∈ g,q.1 < h.next /\ C q.1 = 0 /\ h.get q.1 = some q.2
theorem Lc.fr {h h' : Heap} {C C' : Col} {g : List (Nat × Blk)} {kb : Nat} (x : Lc h C g) (kb10 : 10 <= kb) (f : Fr (busK kb) C h h') (e : ∀ j,j < h.next -> C' j = C j) : Lc h' C' g := fun q hq => by
 obtain ⟨h1,h2,h3⟩ := x q hq
 exact ⟨Nat.lt_of_lt_of_le h1 f.le,(e _ h1).trans h2,(f.get _ h1 (by rw [h2]; exact busK_0 kb10)).trans h3⟩
theorem Lc.kp {h h' : Heap} {C C' : Col} {g : List (Nat × Blk)} (x : Lc h C g) (k : Keeps h h') (e : ∀ j,j < h.next -> C' j = C j) : Lc h' C' g := fun q hq => by
 obtain ⟨h1,h2,h3⟩ := x q hq
 exact ⟨Nat.lt_of_lt_of_le h1 k.1,(e _ h1).trans h2,k.at h1 h3⟩
theorem Lc.at {h : Heap} {C : Col} {g : List (Nat × Blk)} (x : Lc h C g) {k : Nat} {b : Blk} (m : (k,b) ∈ g) : h.get k = some b := (x _ m).2.2
def c0l (n : Nat) : List (Img × Bool × Bool) := List.replicate n ([],false,false)
theorem mkK_cb (n s : Nat) (x : Nat × List Nat) (st : List Stp) : CB (BS.mkK n s x st) s (c0l n) := ⟨by simp [BS.mkK,c0l]; exact .inr rfl,rfl⟩
theorem mkK_ok {n s : Nat} {x : Nat × List Nat} {st : List Stp} (n0 : 1 <= n) (n1 : n <= 64) (hs : 1 <= s) (hx : x.2.length = 32) (hl : st.length <= 40) (hd : ∀ s ∈ st,s.data.length = 64) : BOk (BS.mkK n s x st) :=
 ⟨⟨fun S hS => by rw [(List.mem_replicate.1 hS).2]; exact MS.new_wf (by omega),by simp [BS.mkK]; omega,by simp [BS.mkK]; omega,fun y hy => by simp [BS.mkK] at hy; subst hy; exact hx,by simp [BS.mkK],by simp [BS.mkK],by simp [BS.mkK]; omega,hd,by simp [BS.mkK],fun t ht => by simp [BS.mkK] at ht⟩,fun S hS => by rw [(List.mem_replicate.1 hS).2]; exact Nat.zero_le _⟩
theorem sall_nil (d kb β cp : Nat) (ps : List Nat) : SAll d kb β cp ps [] := fun b hb => nostep d hb kb β cp ps
def bnB (β Lb n cp ρ : Nat) : Blk := .cells [.ptr β 0, .eslice Lb 0 0 n, .ptr cp 0, .ptr ρ 0] 0 false
def psB (ps : List Nat) : Blk := .cells (ps.map (AV.ptr · 0)) 1 false
theorem kit_nil (d : Nat) (h : Heap) (c : Col) (kb kr n s : Nat) (kb10 : 10 <= kb) (hkr : kb + 100 <= kr) (hn : 1 <= n) (hn64 : n <= 64) (hs : 1 <= s) (hs2 : s <= 2000) : G (callD env (d + 9) 7 [.int .i64 (n : Int), .int .i64 (s : Int), .agg (cC 0 czz), .nilslice] h) fun v h' => ∃ X β cp ρ Lb ps C b,v = .ptr X 0 /\ Lc h' C [(X,bnB β Lb n cp ρ),(Lb,psB ps)] /\ ps.length = n /\ HB h' C kb β cp ps b s (c0l n) /\ b.steps = [] /\ b.log = [] /\ Keeps h h' /\ ∀ j,j < h.next -> C j = c j := by
 refine kit_made d h c kb kr n s 0 czz .nilslice [] [] (StK.nil h) (fun s hs => by cases hs) kb10 hkr hn hn64 hs hs2 rfl (by omega) _ ?_
 intro X β cp ρ Lb ps C h' x1 x2 x3 x4 x5 x6 x7 x8 x9 x10 x11 x12
 exact ⟨X,β,cp,ρ,Lb,ps,C,_,rfl,(fun q hq => by
  simp only [List.mem_cons,List.not_mem_nil,or_false] at hq
  rcases hq with rfl | rfl
  ·exact ⟨x1,x2,x3⟩
  ·exact ⟨x4,x5,x6⟩),x7,⟨x8,mkK_ok hn hn64 hs rfl (by simp [cutL]) (fun s hs => by simp [cutL] at hs),mkK_cb n s _ _⟩,rfl,rfl,x10,x12⟩
set_option maxHeartbeats 4000000 in
theorem works_ok (d : Nat) (h : Heap) : G (callD env (d + 15) 12 [] h) fun v h' => v = .bool true := by
 refine G.gen fun Q hX => ?_
 have zc : (0 : Nat) <= 4611686018427387904 := by omega
 rw [callD_run (E := env) [(5, .fl [(3,0,2),(4,0,2)]),(8, .fl [(17,0,1),(24,1,2)])] (by kernel_rfl) Try.func12 rfl (by rw [Try.ntmps12]; simp) (by kernel_rfl)]; simp (maxSteps := 2000000) (implicitDefEqProofs := false) (disch := first | omega | (simp only [SD.down,uA,uL] <;> omega) | fail) only [Try.ntmps12,Try.results12,env_P,env_L,TQ.down,resE,oneV, ↓reduceIte,reduceCtorEq,uB,uE,uL,uA,uM,uS,uN,uX,uO,vR,vD,vL,vK,vE,vA,vM,vT,vS]
 first | refine G.call (small_ok1 (d + 5) h) ?_ | refine G.callC (small_ok1 (d + 5) h) ?_ | refine G.callL (small_ok1 (d + 5) h) ?_
 rintro v h1 ⟨rfl,k1⟩
 have g41 : overE 0 [AV.int .i64 4, .int .i64 1] (List.replicate 2 (AV.int .i64 0)) = some [.int .i64 4, .int .i64 1] := rfl
 unfold gA
 simp (maxSteps := 2000000) (implicitDefEqProofs := false) (disch := first | omega | (simp only [SD.down,uA,uL] <;> omega) | fail) only [g41,c33_fold,cz_fold,env_P,env_L,TQ.down,resE,oneV, ↓reduceIte,reduceCtorEq,uB,uE,uL,uA,uM,uS,uN,uX,uO,vR,vD,vL,vK,vE,vA,vM,vT,vS]
 first | refine G.call (kit_nil (d + 5) _ (fun _ => 0) 100 1000 4 (gSec 4 1) (by omega) (by omega) (by omega) (by omega) (by rw [s54]; omega) (by rw [s54]; omega)) ?_ | refine G.callC (kit_nil (d + 5) _ (fun _ => 0) 100 1000 4 (gSec 4 1) (by omega) (by omega) (by omega) (by omega) (by rw [s54]; omega) (by rw [s54]; omega)) ?_ | refine G.callL (kit_nil (d + 5) _ (fun _ => 0) 100 1000 4 (gSec 4 1) (by omega) (by omega) (by omega) (by omega) (by rw [s54]; omega) (by rw [s54]; omega)) ?_
 rintro v h2 ⟨X,β,cp,ρ,Lb,ps,C2,b,rfl,L2,pl,B2,st2,lg2,k2,hC2⟩
 have n2 := k2.1
 simp (maxSteps := 2000000) (implicitDefEqProofs := false) (disch := first | omega | (simp only [SD.down,uA,uL] <;> omega) | fail) only [TQ.down,resE,oneV, ↓reduceIte,reduceCtorEq,uB,uE,uL,uA,uM,uS,uN,uX,uO,vR,vD,vL,vK,vE,vA,vM,vT,vS] at n2
 have gX := L2.at (k := X) (b := bnB β Lb 4 cp ρ) (by simp)
 unfold bnB at gX
 have gG : h2.get h1.next = some (.cells [.int .i64 4, .int .i64 1] 0 false) := by rw [k2.2 _ (by simp (maxSteps := 2000000) (implicitDefEqProofs := false) (disch := first | omega | (simp only [SD.down,uA,uL] <;> omega) | fail) only [TQ.down,resE,oneV, ↓reduceIte,reduceCtorEq,uB,uE,uL,uA,uM,uS,uN,uX,uO,vR,vD,vL,vK,vE,vA,vM,vT,vS] <;> omega)]; simp (maxSteps := 2000000) (implicitDefEqProofs := false) (disch := first | omega | (simp only [SD.down,uA,uL] <;> omega) | fail) only [TQ.down,resE,oneV, ↓reduceIte,reduceCtorEq,uB,uE,uL,uA,uM,uS,uN,uX,uO,vR,vD,vL,vK,vE,vA,vM,vT,vS]
 have b8c : ∀ n : Nat,n < 256 -> AV.int .u8 ((n : Nat) : Int) = b8 n := fun n hn => by simp [b8]; omega
 simp (maxSteps := 2000000) (implicitDefEqProofs := false) (disch := first | omega | (simp only [SD.down,uA,uL] <;> omega) | fail) only [gX,gG,env_P,env_L,TQ.down,resE,oneV, ↓reduceIte,reduceCtorEq,uB,uE,uL,uA,uM,uS,uN,uX,uO,vR,vD,vL,vK,vE,vA,vM,vT,vS]
 first | refine G.call (text_ok (d + 13) h2 1 128 (by omega)) ?_ | refine G.callC (text_ok (d + 13) h2 1 128 (by omega)) ?_ | refine G.callL (text_ok (d + 13) h2 1 128 (by omega)) ?_
 rintro rv h3 ⟨by1,bk1,k3⟩
 have n3 := k3.1
 obtain ⟨ro,rs,rl⟩ := by1.ok
 have gX3 := k3.at (L2 (X,bnB β Lb 4 cp ρ) (by simp)).1 gX
 have gG3 := k3.at (by omega) gG
 simp (maxSteps := 2000000) (implicitDefEqProofs := false) (disch := first | omega | (simp only [SD.down,uA,uL] <;> omega) | fail) only [gX3,gG3,ro,rs,env_P,env_L,TQ.down,resE,oneV, ↓reduceIte,reduceCtorEq,uB,uE,uL,uA,uM,uS,uN,uX,uO,vR,vD,vL,vK,vE,vA,vM,vT,vS]
 first | refine G.call (text_ok (d + 13) h3 9 69 (by omega)) ?_ | refine G.callC (text_ok (d + 13) h3 9 69 (by omega)) ?_ | refine G.callL (text_ok (d + 13) h3 9 69 (by omega)) ?_
 rintro bv h4 ⟨by2,bk2,k4⟩
 have n4 := k4.1
 obtain ⟨bo,bs,bl⟩ := by2.ok
 have k24 := k3.trans k4
 have gX4 := k4.at (Nat.lt_of_lt_of_le (L2 (X,bnB β Lb 4 cp ρ) (by simp)).1 n3) gX3
 have gG4 := k4.at (by omega) gG3
 have ce : ∀ j,j < h2.next -> pnt C2 h2.next 0 j = C2 j := fun j hj => pnt_lt hj
 have by1' := by1.keep k4.1 fun j hj _ => k4.2 j hj
 have B4 : HB h4 (pnt C2 h2.next 0) 100 β cp ps b (gSec 4 1) (c0l 4) := B2.keep k24.1 (fun j hj _ _ => k24.2 j hj) ce
 have L4' := L2.kp k24 ce
 have l4 : (((c0l 4).length : Nat) : Int) = 4 := rfl
 have hp := hput (d + 1) h4 (pnt C2 h2.next 0) 100 β cp ps b b (c0l 4) 1 1 rv bv (txt 1 128) (txt 9 69) (by omega) B4.I B4.w (aheadL_quiet _ _ _ (by rw [st2]; simp)) B4.c ok41 (by omega) (by omega) by1' by2 (txt_len _ _) (by rw [txt_len,l4,h21]; omega) (by rw [lg2,txt_len]; decide) (by rw [st2]; exact sall_nil _ _ _ _ _) (by rw [st2]; simp)
 simp only [l4,txt_len] at hp
 simp (maxSteps := 2000000) (implicitDefEqProofs := false) (disch := first | omega | (simp only [SD.down,uA,uL] <;> omega) | fail) only [gX3,gX4,gG3,gG4,ro,rs,bo,bs,env_P,env_L,TQ.down,resE,oneV, ↓reduceIte,reduceCtorEq,uB,uE,uL,uA,uM,uS,uN,uX,uO,vR,vD,vL,vK,vE,vA,vM,vT,vS]
 first | refine G.call (hp) ?_ | refine G.callC (hp) ?_ | refine G.callL (hp) ?_
 rintro v h5 ⟨C5,tv,b5,rfl,ow,oc,B5,st5,lg5,fr5,hC5⟩
 have n5 := fr5.le
 have L5 := L4'.fr (by omega) fr5 hC5
 have gX5 := L5.at (k := X) (b := bnB β Lb 4 cp ρ) (by simp)
 unfold bnB at gX5
 have cG : pnt C2 h2.next 0 h1.next = 0 := by rw [pnt_lt (by omega),hC2 _ (by simp (maxSteps := 2000000) (implicitDefEqProofs := false) (disch := first | omega | (simp only [SD.down,uA,uL] <;> omega) | fail) only [TQ.down,resE,oneV, ↓reduceIte,reduceCtorEq,uB,uE,uL,uA,uM,uS,uN,uX,uO,vR,vD,vL,vK,vE,vA,vM,vT,vS] <;> omega)]
 have gG5 : h5.get h1.next = some (.cells [.int .i64 4, .int .i64 1] 0 false) := (fr5.get _ (by omega) (by rw [cG]; exact busK_0 (by omega))).trans gG4
 have tl : (tookC 0 (c0l 4)).length = 4 := rfl
 rw [tl] at ow
 have olen := ow.len (P := Try.prog) Try.underlying34
 rw [st2] at st5
 have hD : ((c0l 4).map (upC (jPos 4 1 1) (jSecs (txt 1 128) (txt 9 69)))) = List.replicate 4 (putAll (jPos 4 1 1) 0 (jSecs (txt 1 128) (txt 9 69)) [],false,false) := by simp [c0l,upC]
 rw [hD] at B5
 have hH : Holds 4 1 1 (putAll (jPos 4 1 1) 0 (jSecs (txt 1 128) (txt 9 69)) []) (jSecs (txt 1 128) (txt 9 69)) := Holds.put (show Uq [] from trivial) _
 generalize putAll (jPos 4 1 1) 0 (jSecs (txt 1 128) (txt 9 69)) [] = D at B5 hH
 have lg5' : b5.log.length <= 100 := by rw [lg5,lg2]; decide
 have hr := hroot (d + 1) h5 C5 100 β cp ps b5 (List.replicate 4 (D,false,false)) 1 1 2 D false (by omega) B5 rfl ok41 (by omega) (by omega) (by omega) (by rw [st5]; exact sall_nil _ _ _ _ _) (fun s hs => by rw [st5] at hs; cases hs)
 have lr4 : (((List.replicate 4 (D,false,false)).length : Nat) : Int) = 4 := rfl
 simp only [lr4] at hr
 simp (maxSteps := 2000000) (implicitDefEqProofs := false) (disch := first | omega | (simp only [SD.down,uA,uL] <;> omega) | fail) only [gX,gX3,gX4,gX5,gG,gG3,gG4,gG5,sgA,ro,rs,bo,bs,ow.ok,env_P,env_L,TQ.down,resE,oneV, ↓reduceIte,reduceCtorEq,uB,uE,uL,uA,uM,uS,uN,uX,uO,vR,vD,vL,vK,vE,vA,vM,vT,vS]
 first | refine G.call (hr) ?_ | refine G.callC (hr) ?_ | refine G.callL (hr) ?_
 rintro v h6 ⟨C6,rv2,b6,rfl,by6,bk6,B6,st6,lg6,fr6,hC6⟩
 have n6 := fr6.le
 rw [st5] at st6
 obtain ⟨ro6,rs6,rl6⟩ := by6.ok
 have L6 := L5.fr (by omega) fr6 hC6
 have gX6 := L6.at (k := X) (b := bnB β Lb 4 cp ρ) (by simp)
 unfold bnB at gX6
 have cG5 : C5 h1.next = 0 := (hC5 _ (by omega)).trans cG
 have gG6 : h6.get h1.next = some (.cells [.int .i64 4, .int .i64 1] 0 false) := (fr6.get _ (by omega) (by rw [cG5]; exact busK_0 (by omega))).trans gG5
 have ow6 := ow.keep fr6.le fun j hj => fr6.get j (ow.ge hj).2 (by rw [oc j hj]; exact busK_0 (by omega))
 have hb := hbody (d + 1) h6 C6 100 β cp ps b6 (List.replicate 4 (D,false,false)) 1 1 3 1 D false (by omega) B6 rfl ok41 (by omega) (by omega) (by rw [lr4,c17]; omega) (by omega) (by rw [st6]; exact sall_nil _ _ _ _ _) (fun s hs => by rw [st6] at hs; cases hs)
 simp only [lr4] at hb
 simp (maxSteps := 2000000) (implicitDefEqProofs := false) (disch := first | omega | (simp only [SD.down,uA,uL] <;> omega) | fail) only [gX5,gX6,gG5,gG6,sgA,ro6,rs6,ow.ok,env_P,env_L,TQ.down,resE,oneV, ↓reduceIte,reduceCtorEq,uB,uE,uL,uA,uM,uS,uN,uX,uO,vR,vD,vL,vK,vE,vA,vM,vT,vS]
 first | refine G.call (hb) ?_ | refine G.callC (hb) ?_ | refine G.callL (hb) ?_
 rintro v h7 ⟨C7,bv2,b7,rfl,by7,bk7,B7,st7,lg7,fr7,hC7⟩
 have n7 := fr7.le
 obtain ⟨ro7,rs7,rl7⟩ := by7.ok
 have by67 := by6.keep n7 fun j hj e => fr7.get j hj (by rw [(bk6 j e).2]; exact busK_0 (by omega))
 have e6 := by67.str
 have e7 := by7.str
 simp (maxSteps := 2000000) (implicitDefEqProofs := false) (disch := first | omega | (simp only [SD.down,uA,uL] <;> omega) | fail) only [gX5,gX6,gG5,gG6,sgA,ro6,rs6,ro7,rs7,ow.ok,olen,cvc,cvo,e6,env_P,env_L,TQ.down,resE,oneV, ↓reduceIte,reduceCtorEq,uB,uE,uL,uA,uM,uS,uN,uX,uO,vR,vD,vL,vK,vE,vA,vM,vT,vS]
 have eR : M (rdC (jPos 4 1 1) D 0 2) = M (txt 1 128) := rd_root _ _ _ (txt 9 69) (txt_len _ _) (fun k hk => hH k (by rw [jSecs_len]; exact hk))
 have eB : M ((rdC (jPos 4 1 1) D 2 (nsec (69 * 1))).take (69 * 1)) = M (txt 9 69) := by
  have := rd_body (jPos 4 1 1) D (txt 1 128) (txt 9 69) (fun k hk => hH k (by rw [jSecs_len]; exact hk))
  rw [txt_len] at this
  exact this
 first | refine G.call (text_ok (d + 13) h7 1 128 (by omega)) ?_ | refine G.callC (text_ok (d + 13) h7 1 128 (by omega)) ?_ | refine G.callL (text_ok (d + 13) h7 1 128 (by omega)) ?_
 rintro cv h8 ⟨by8,bk8,k8⟩
 have n8 := k8.1
 obtain ⟨co,cs,cl⟩ := by8.ok
 have by68 := by67.keep k8.1 fun j hj _ => k8.2 j hj
 have e68 := by68.str
 have e8 := by8.str
 have e78 := (by7.keep k8.1 fun j hj _ => k8.2 j hj).str
 have d1 : decide ((rdC (jPos 4 1 1) D 0 2).map (· % 256) = (txt 1 128).map (· % 256)) = true := decide_eq_true eR
 have d2 : decide (((rdC (jPos 4 1 1) D 2 (nsec (69 * 1))).take (69 * 1)).map (· % 256) = (txt 9 69).map (· % 256)) = true := decide_eq_true eB
 simp (maxSteps := 2000000) (implicitDefEqProofs := false) (disch := first | omega | (simp only [SD.down,uA,uL] <;> omega) | fail) only [ro6,rs6,ro7,rs7,co,cs,ow.ok,olen,cvc,cvo,cvr,e6,e68,e8,e78,bin_eql_str,d1,same_str,env_P,env_L,TQ.down,resE,oneV, ↓reduceIte,reduceCtorEq,uB,uE,uL,uA,uM,uS,uN,uX,uO,vR,vD,vL,vK,vE,vA,vM,vT,vS]
 first | refine G.call (text_ok (d + 13) h8 9 69 (by omega)) ?_ | refine G.callC (text_ok (d + 13) h8 9 69 (by omega)) ?_ | refine G.callL (text_ok (d + 13) h8 9 69 (by omega)) ?_
 rintro dv h9 ⟨by9,bk9,k9⟩
 obtain ⟨dvo,dvs,dvl⟩ := by9.ok
 have e69 := (by68.keep k9.1 fun j hj _ => k9.2 j hj).str
 have e79 := ((by7.keep k8.1 fun j hj _ => k8.2 j hj).keep k9.1 fun j hj _ => k9.2 j hj).str
 have e89 := (by8.keep k9.1 fun j hj _ => k9.2 j hj).str
 have e9 := by9.str
 simp (maxSteps := 2000000) (implicitDefEqProofs := false) (disch := first | omega | (simp only [SD.down,uA,uL] <;> omega) | fail) only [ro6,rs6,ro7,rs7,co,cs,dvo,dvs,ow.ok,olen,cvc,cvo,cvr,e6,e68,e69,e8,e89,e78,e79,e7,e9,bin_eql_str,d1,d2,same_str,env_P,env_L,TQ.down,resE,oneV, ↓reduceIte,reduceCtorEq,uB,uE,uL,uA,uM,uS,uN,uX,uO,vR,vD,vL,vK,vE,vA,vM,vT,vS]
 subst hX
 exact G.ok rfl
theorem cvB (n : Nat) : convPureE Try.prog 5 3 (b8 n) = some (.int .i64 ((n % 256 : Nat) : Int)) := by
 unfold b8
 rw [conv_int Try.underlying5 Try.underlying3,wrap_i64 (by omega) (by omega)]
theorem bin_neq_str (u : TypeId) (x y : List Nat) : binE Try.prog .neq u (.str (strB x)) (.str (strB y)) = some (.bool (!decide (x.map (· % 256) = y.map (· % 256)))) := by
 rw [<- strB_eq]
 simp only [binE,binK,strOpK,fB_eq]
abbrev c4 (D : Img) : List (Img × Bool × Bool) := List.replicate 4 (D,false,false)
theorem hbody4 (d : Nat) (h : Heap) (C : Col) (kb β cp : Nat) (ps : List Nat) (b : BS) (l : List (Img × Bool × Bool)) (hf m many : Nat) (D : Img) (hu : Bool) (kb10 : 10 <= kb) (hl4 : l.length = 4) (B : HB h C kb β cp ps b 54 l) (st : b.steps = []) (h1 : hf <= 1) (hm : l[m]? = some (D,false,hu)) (hmany : many <= 17) (hlog : b.log.length <= 3800) :
  G (callD env (d + 13) 10 [.ptr β 0, .agg [.int .i64 4, .int .i64 1], .int .i64 (hf : Int), .int .i64 (m : Int), .int .i64 (many : Int)] h) fun v h' => ∃ C' tv b',v = .tup [tv, .int .i64 0] /\ ByR h' tv ((rdC (jPos 4 1 hf) D 2 (nsec (69 * many))).take (69 * many)) /\ (∀ K,blkA tv = some K -> h.next <= K /\ C' K = 0) /\ HB h' C' kb β cp ps b' 54 l /\ b'.steps = [] /\ b'.log.length <= b.log.length + 19 /\ Fr (busK kb) C h h' /\ ∀ j,j < h.next -> C' j = C j := by
 have l4 : ((l.length : Nat) : Int) = 4 := by omega
 have hn : nsec (69 * many) <= 19 := nsec_le (by omega)
 have hp := hbody d h C kb β cp ps b l 1 hf m many D hu kb10 (by rw [l4,s54]; exact B) hm (by rw [l4]; exact ok41) (by omega) (by omega) (by rw [l4,c17]; omega) (by omega) (by rw [st]; exact sall_nil _ _ _ _ _) (fun s hs => by rw [st] at hs; cases hs)
 rw [l4,s54] at hp
 refine hp.mono ?_
 rintro v h' ⟨C',tv,b',rfl,x1,x2,x3,x4,x5,x6,x7⟩
 exact ⟨C',tv,b',rfl,x1,x2,x3,x4.trans st,by omega,x6,x7⟩
theorem hroot4 (d : Nat) (h : Heap) (C : Col) (kb β cp : Nat) (ps : List Nat) (b : BS) (l : List (Img × Bool × Bool)) (hf m : Nat) (D : Img) (hu : Bool) (kb10 : 10 <= kb) (hl4 : l.length = 4) (B : HB h C kb β cp ps b 54 l) (st : b.steps = []) (h1 : hf <= 1) (hm : l[m]? = some (D,false,hu)) (hlog : b.log.length <= 3800) :
  G (callD env (d + 13) 9 [.ptr β 0, .agg [.int .i64 4, .int .i64 1], .int .i64 (hf : Int), .int .i64 (m : Int)] h) fun v h' => ∃ C' tv b',v = .tup [tv, .int .i64 0] /\ ByR h' tv (rdC (jPos 4 1 hf) D 0 2) /\ (∀ K,blkA tv = some K -> h.next <= K /\ C' K = 0) /\ HB h' C' kb β cp ps b' 54 l /\ b'.steps = [] /\ b'.log.length <= b.log.length + 2 /\ Fr (busK kb) C h h' /\ ∀ j,j < h.next -> C' j = C j := by
 have l4 : ((l.length : Nat) : Int) = 4 := by omega
 have hp := hroot d h C kb β cp ps b l 1 hf m D hu kb10 (by rw [l4,s54]; exact B) hm (by rw [l4]; exact ok41) (by omega) (by omega) (by omega) (by rw [st]; exact sall_nil _ _ _ _ _) (fun s hs => by rw [st] at hs; cases hs)
 rw [l4,s54] at hp
 refine hp.mono ?_
 rintro v h' ⟨C',tv,b',rfl,x1,x2,x3,x4,x5,x6,x7⟩
 exact ⟨C',tv,b',rfl,x1,x2,x3,x4.trans st,by omega,x6,x7⟩
end Go.Proofs.Ytlnepbkeiianmaa
