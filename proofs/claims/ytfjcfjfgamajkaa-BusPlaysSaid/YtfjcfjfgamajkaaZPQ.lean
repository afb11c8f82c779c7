/- Of this program, for all inputs: contracts. No condition but those in the theorems. -/
import Derived.Test.YtfjcfjfgamajkaaYY
import Derived.Test.YtfjcfjfgamajkaaVV
namespace Go.Proofs.Ytfjcfjfgamajkaa
open Go Go.Ai Go.Aw Go.Proofs
open Nat renaming reduceBEq -> uB,reduceEqDiff -> uE,reduceLT -> uL,reduceAdd -> uA,reduceMul -> uM,reduceSub -> uS,reduceAnd -> uN,reduceXor -> uX,reduceOr -> uO
open Int renaming reduceMod -> vR,reduceDiv -> vD,reduceLT -> vL,reduceLE -> vK,reduceEq -> vE,reduceAdd -> vA,reduceMul -> vM,reduceToNat -> vT,reduceSub -> vS
set_option linter.unusedSimpArgs false
set_option linter.unusedVariables false
set_option maxRecDepth 10000
/-! the document's bus,and that a bus is like it: no program in sight -/
def Uq : Img -> Prop
 | [] => True
 | x :: r => (∀ y ∈ r,y.1 ≠ x.1) /\ Uq r
theorem mGet_none {i : Int} : ∀ {l : Img},(∀ y ∈ l,y.1 ≠ i) -> mGet l i zz = zz
 | [],_ => rfl
 | (k,t) :: r,h => by
  rw [mGet,if_neg (fun e => h (k,t) (by simp) e.symm)]
  exact mGet_none fun y hy => h y (List.mem_cons_of_mem _ hy)
theorem mGet_upd (i j : Int) (s : List Nat) : ∀ l : Img,mGet (mUpd l i s) j zz = if j = i then s else mGet l j zz
 | [] => by simp [mUpd,mGet]
 | (k,t) :: r => by
  rw [mUpd]
  by_cases h : i = k
  ·rw [if_pos h,mGet,mGet]
   by_cases e : j = i
   ·rw [if_pos e,if_pos e]
   ·rw [if_neg e,if_neg e,if_neg (by omega)]
  ·rw [if_neg h,mGet,mGet_upd i j s r,mGet]
   by_cases e : j = k
   ·rw [if_pos e,if_pos e,if_neg (by omega)]
   ·rw [if_neg e,if_neg e]
theorem mem_upd {i : Int} {s : List Nat} {y : Int × List Nat} : ∀ {l : Img},y ∈ mUpd l i s -> y.1 = i \/ y ∈ l
 | [],h => by simp [mUpd] at h; subst h; exact .inl rfl
 | (k,t) :: r,h => by
  rw [mUpd] at h
  split at h
  ·rcases List.mem_cons.1 h with rfl | h
   ·exact .inl rfl
   ·exact .inr (List.mem_cons_of_mem _ h)
  ·rcases List.mem_cons.1 h with rfl | h
   ·exact .inr (by simp)
   ·rcases mem_upd h with q | q
    ·exact .inl q
    ·exact .inr (List.mem_cons_of_mem _ q)
theorem mem_del {i : Int} {y : Int × List Nat} : ∀ {l : Img},y ∈ mDel l i -> y ∈ l
 | [],h => by cases h
 | (k,t) :: r,h => by
  rw [mDel] at h
  split at h
  ·exact List.mem_cons_of_mem _ h
  ·rcases List.mem_cons.1 h with rfl | h
   ·simp
   ·exact List.mem_cons_of_mem _ (mem_del h)
theorem Uq.upd {i : Int} {s : List Nat} : ∀ {l : Img},Uq l -> Uq (mUpd l i s)
 | [],_ => by simp [mUpd,Uq]
 | (k,t) :: r,h => by
  rw [mUpd]
  split
  ·rename_i e
   exact ⟨fun y hy => by rw [show (i,s).1 = k from e]; exact h.1 y hy,h.2⟩
  ·rename_i e
   refine ⟨fun y hy => ?_,h.2.upd⟩
   rcases mem_upd hy with q | q
   ·rw [q]; exact e
   ·exact h.1 y q
theorem Uq.del {i : Int} : ∀ {l : Img},Uq l -> Uq (mDel l i)
 | [],_ => trivial
 | (k,t) :: r,h => by
  rw [mDel]
  split
  ·exact h.2
  ·exact ⟨fun y hy => h.1 y (mem_del hy),h.2.del⟩
theorem mGet_del (i j : Int) : ∀ {l : Img},Uq l -> mGet (mDel l i) j zz = if j = i then zz else mGet l j zz
 | [],_ => by simp [mDel,mGet]
 | (k,t) :: r,h => by
  rw [mDel]
  by_cases e : i = k
  ·rw [if_pos e,mGet]
   by_cases f : j = i
   ·rw [if_pos f]
    exact mGet_none fun y hy => by have := h.1 y hy; simp at this; omega
   ·rw [if_neg f,if_neg (by omega)]
  ·rw [if_neg e,mGet,mGet_del i j h.2,mGet]
   by_cases f : j = k
   ·rw [if_pos f,if_pos f,if_neg (by omega)]
   ·rw [if_neg f,if_neg f]
def EqI (m r : Img) : Prop := Uq m /\ ∀ i,M (mGet m i zz) = M ((rFind r i).getD zz)
theorem EqI.nil : EqI [] [] := ⟨trivial,fun _ => rfl⟩
theorem EqI.put {m r : Img} (e : EqI m r) (i : Int) (s : List Nat) : EqI (mPut m i s) (r ++ [(i,s)]) := by
 unfold mPut
 split
 ·rename_i hs
  refine ⟨e.1.del,fun j => ?_⟩
  rw [mGet_del i j e.1,rFind_snoc]
  by_cases f : i = j
  ·rw [if_pos f.symm,if_pos f]; exact hs.symm
  ·rw [if_neg (Ne.symm f),if_neg f]; exact e.2 j
 ·refine ⟨e.1.upd,fun j => ?_⟩
  rw [mGet_upd i j s,rFind_snoc]
  by_cases f : i = j
  ·rw [if_pos f.symm,if_pos f]; rfl
  ·rw [if_neg (Ne.symm f),if_neg f]; exact e.2 j
theorem rFind_app (i : Int) (a : Img) : ∀ b : Img,rFind (a ++ b) i = match rFind b i with | some s => some s | none => rFind a i := by
 intro b
 induction a with
 | nil => simp [rFind]; cases rFind b i <;> rfl
 | cons x r ih =>
  rw [List.cons_append,rFind,ih,rFind]
  cases rFind b i <;> rfl
theorem rSeen_app (dur lg : Img) (i : Int) : rSeen dur lg i = (rFind (dur ++ lg) i).getD zz := by
 rw [rFind_app,rSeen]
 cases rFind lg i <;> rfl
theorem rFind_filter (i j : Int) : ∀ l : Img,rFind (l.filter fun x => decide (x.1 ≠ i)) j = if j = i then none else rFind l j
 | [] => by simp [rFind]
 | x :: r => by
  by_cases e : x.1 = i
  ·rw [List.filter_cons_of_neg (by simp [e]),rFind_filter i j r,rFind]
   by_cases f : j = i
   ·rw [if_pos f,if_pos f]
   ·rw [if_neg f,if_neg f]
    have : x.1 ≠ j := by omega
    simp [this]
    cases rFind r j <;> rfl
  ·rw [List.filter_cons_of_pos (by simp [e]),rFind,rFind_filter i j r,rFind]
   by_cases f : j = i
   ·rw [if_pos f,if_pos f]
    simp [show x.1 ≠ j by omega]
   ·rw [if_neg f,if_neg f]
structure RS where
 n : Nat
 dur : Img
 lg : Img
 marks : List Img
 fails : Bool
 hurt : Bool
def RS.read (R : RS) (i : Int) : List Nat × Int := if mIO R.n R.fails i = 0 then (rSeen R.dur R.lg i,0) else (zz,mIO R.n R.fails i)
def RS.write (R : RS) (i : Int) (s : List Nat) : RS × Int := if mIO R.n R.fails i = 0 then ({ R with lg := R.lg ++ [(i,s)] },0) else (R,mIO R.n R.fails i)
def RS.flush (R : RS) : RS × Int := if R.fails then (R,10) else ({ R with dur := R.dur ++ R.lg,lg := [] },0)
def kept (p : List Nat) (l : Img) : Img := (l.zip p).filterMap fun x => if x.2 % 256 = 0 then none else some x.1
def RS.crash (R : RS) (p : List Nat) : RS := { R with dur := R.dur ++ kept p R.lg,lg := [] }
def RS.set (R : RS) (i : Int) (s : List Nat) : RS := if mIO R.n false i = 0 then { R with lg := R.lg.filter fun x => decide (x.1 ≠ i),dur := R.dur ++ [(i,s)],hurt := true } else R
def RS.mark (R : RS) : RS := if 64 <= R.marks.length then R else { R with marks := R.marks ++ [R.dur ++ R.lg] }
def RS.back (R : RS) (n : Int) : RS := if n < 0 then R else match R.marks[n.toNat]? with
 | some l => { R with dur := l,lg := [],hurt := true }
 | none => R
def RS.fail (R : RS) (on : Bool) : RS := { R with fails := on,hurt := R.hurt || on }
def RS.did (R : RS) (s : Stp) : RS := if s.kind = 1 then R.set s.i s.data else if s.kind = 2 then R.mark else if s.kind = 3 then R.back s.n else if s.kind = 4 then R.fail true else if s.kind = 5 then R.fail false else R
structure MR (S : MS) (R : RS) : Prop where
 n : S.n = R.n
 n0 : 0 < S.n
 lg : S.lg = R.lg
 fails : S.fails = R.fails
 hurt : S.hurt = R.hurt
 dur : EqI S.dur R.dur
 seen : EqI S.seen (R.dur ++ R.lg)
 ml : S.marks.length = R.marks.length
 ml64 : S.marks.length <= 64
 mks : ∀ (i : Nat) (a b : Img),S.marks[i]? = some a -> R.marks[i]? = some b -> EqI a b
def RS.new (n : Nat) : RS := ⟨n,[],[],[],false,false⟩
theorem MR.new {n : Nat} (h : 0 < n) : MR (MS.new n) (RS.new n) := ⟨rfl,h,rfl,rfl,rfl, .nil, .nil,rfl,Nat.zero_le _,fun i a b h => by simp [MS.new] at h⟩
theorem MR.io {S : MS} {R : RS} (x : MR S R) (i : Int) : S.io i = mIO R.n R.fails i := by rw [MS.io,x.n,x.fails]
theorem MR.read {S : MS} {R : RS} (x : MR S R) (i : Int) : M (S.read i).1 = M (R.read i).1 /\ (S.read i).2 = (R.read i).2 := by
 unfold MS.read RS.read
 rw [x.io]
 split
 ·exact ⟨by rw [rSeen_app]; exact x.seen.2 i,rfl⟩
 ·exact ⟨rfl,rfl⟩
theorem MR.write {S : MS} {R : RS} (x : MR S R) (i : Int) (s : List Nat) : MR (S.write i s).1 (R.write i s).1 /\ (S.write i s).2 = (R.write i s).2 := by
 unfold MS.write RS.write
 rw [x.io]
 split
 ·refine ⟨⟨x.n,x.n0,by show S.lg ++ _ = R.lg ++ _; rw [x.lg],x.fails,x.hurt,x.dur, ?_,x.ml,x.ml64,x.mks⟩,rfl⟩
  have := x.seen.put i s
  rw [List.append_assoc] at this
  exact this
 ·exact ⟨x,rfl⟩
theorem keep_eq {m r : Img} (e : EqI m r) (f : Nat -> Bool) (q : Nat -> Bool) : ∀ (lg : Img) (m r : Img) (k : Nat),EqI m r -> EqI (mKeep f m k lg) (r ++ ((lg.zip (List.range' k lg.length)).filterMap fun x => if f x.2 then some x.1 else none))
 | [],m,r,k,e => by simpa [mKeep] using e
 | x :: l,m,r,k,e => by
  rw [mKeep,List.length_cons,List.range'_succ,List.zip_cons_cons,List.filterMap_cons]
  by_cases h : f k = true
  ·simp only [h,if_true]
   have := keep_eq e f q l _ _ (k + 1) (e.put x.1 x.2)
   rw [List.append_assoc] at this
   exact this
  ·simp only [h,if_false]
   exact keep_eq e f q l _ _ (k + 1) e
theorem keep_all : ∀ (lg : Img) (k : Nat),((lg.zip (List.range' k lg.length)).filterMap fun x => if (fun _ : Nat => true) x.2 then some x.1 else none) = lg
 | [],k => rfl
 | x :: l,k => by
  rw [List.length_cons,List.range'_succ,List.zip_cons_cons,List.filterMap_cons]
  simp only [if_true]
  have := keep_all l (k + 1)
  simp only [if_true] at this
  rw [this]
theorem keep_kept : ∀ (lg : Img) (p p' : List Nat) (k : Nat),(∀ j,p'.getD (k + j) 0 = p.getD j 0) -> ((lg.zip (List.range' k lg.length)).filterMap fun x => if decide (p'.getD x.2 0 % 256 ≠ 0) then some x.1 else none) = kept p lg
 | [],p,p',k,h => by simp [kept]
 | x :: l,p,p',k,h => by
  rw [List.length_cons,List.range'_succ,List.zip_cons_cons,List.filterMap_cons]
  have h0 := h 0
  rw [Nat.add_zero] at h0
  have ih := keep_kept l p.tail p' (k + 1) fun j => by
   rw [Nat.add_assoc,Nat.add_comm 1 j,h (j + 1)]
   cases p <;> simp
  rw [ih]
  cases p with
  | nil =>
   have h0' : p'.getD k 0 % 256 = 0 := by rw [h0]; rfl
   rw [List.getD_eq_getElem?_getD] at h0'
   simp [kept,h0']
  | cons a p =>
   have h0' : p'.getD k 0 = a := by rw [h0]; rfl
   rw [List.getD_eq_getElem?_getD] at h0'
   by_cases e : a % 256 = 0
   ·simp [kept,h0',e]
   ·simp [kept,h0',e]
theorem MR.flush {S : MS} {R : RS} (x : MR S R) : MR S.flush.1 R.flush.1 /\ S.flush.2 = R.flush.2 := by
 unfold MS.flush RS.flush
 have e0 : S.io 0 = cond R.fails 10 0 := by
  rw [x.io,mIO,if_neg]
  have := x.n0; rw [x.n] at this
  omega
 rw [e0]
 cases h : R.fails with
 | true => exact ⟨x,rfl⟩
 | false =>
  have e := keep_eq x.dur (fun _ => true) (fun _ => true) S.lg S.dur R.dur 0 x.dur
  rw [keep_all,x.lg] at e
  rw [show (cond false 10 0 : Int) = 0 from rfl,if_pos rfl,if_neg (by decide)]
  exact ⟨⟨x.n,x.n0,rfl,by show S.fails = false; rw [x.fails]; exact h,x.hurt,by show EqI (mKeep _ S.dur 0 S.lg) _; rw [x.lg]; exact e,by show EqI (mKeep _ S.dur 0 S.lg) ((R.dur ++ R.lg) ++ []); rw [x.lg,List.append_nil]; exact e,x.ml,x.ml64,x.mks⟩,rfl⟩
theorem MR.crash {S : MS} {R : RS} (x : MR S R) (p : List Nat) : MR (S.crash p) (R.crash p) := by
 have e := keep_eq x.dur (fun k => decide (p.getD k 0 % 256 ≠ 0)) (fun _ => true) S.lg S.dur R.dur 0 x.dur
 rw [keep_kept S.lg p p 0 (fun j => by rw [Nat.zero_add]),x.lg] at e
 exact ⟨x.n,x.n0,rfl,x.fails,x.hurt,by show EqI (mKeep _ S.dur 0 S.lg) _; rw [x.lg]; exact e,by show EqI (mKeep _ S.dur 0 S.lg) ((R.dur ++ kept p R.lg) ++ []); rw [x.lg,List.append_nil]; exact e,x.ml,x.ml64,x.mks⟩
theorem MR.did {S : MS} {R : RS} (x : MR S R) (s : Stp) (hk : ¬ (s.kind < 1 \/ 5 < s.kind)) : MR (S.did s) (R.did s) := by
 unfold MS.did RS.did
 split
 ·unfold MS.set RS.set
  rw [show S.may s.i = mIO R.n false s.i by rw [MS.may,x.n]]
  split
  ·refine ⟨x.n,x.n0,by show S.lg.filter _ = _; rw [x.lg],x.fails,rfl,x.dur.put _ _, ?_,x.ml,x.ml64,x.mks⟩
   show EqI (mPut S.seen s.i s.data) ((R.dur ++ [(s.i,s.data)]) ++ R.lg.filter fun x => decide (x.1 ≠ s.i))
   have e := x.seen.put s.i s.data
   refine ⟨e.1,fun j => ?_⟩
   rw [e.2 j]
   rw [rFind_snoc,rFind_app j (R.dur ++ _) (R.lg.filter _),rFind_filter,rFind_snoc,rFind_app]
   by_cases f : s.i = j
   ·rw [if_pos f,if_pos f.symm,if_pos f]
   ·rw [if_neg f,if_neg (Ne.symm f),if_neg f]
  ·exact x
 split
 ·unfold MS.mark RS.mark
  by_cases h : S.marks.length = 64
  ·rw [if_pos h,if_pos (by rw [<- x.ml]; omega)]
   exact x
  ·have := x.ml64
   rw [if_neg h,if_neg (by rw [<- x.ml]; omega)]
   refine ⟨x.n,x.n0,x.lg,x.fails,x.hurt,x.dur,x.seen, ?_, ?_,fun i a b ha hb => ?_⟩
   ·show (S.marks ++ [S.seen]).length = (R.marks ++ [_]).length
    rw [List.length_append,List.length_append,x.ml]; rfl
   ·show (S.marks ++ [S.seen]).length <= 64
    rw [List.length_append]; simp; omega
   ·have ha : (S.marks ++ [S.seen])[i]? = some a := ha
    have hb : (R.marks ++ [R.dur ++ R.lg])[i]? = some b := hb
    by_cases hi : i < S.marks.length
    ·rw [List.getElem?_append_left hi] at ha
     rw [List.getElem?_append_left (by rw [<- x.ml]; exact hi)] at hb
     exact x.mks i a b ha hb
    ·rw [List.getElem?_append_right (by omega)] at ha
     rw [List.getElem?_append_right (by rw [<- x.ml]; omega),<- x.ml] at hb
     cases hq : i - S.marks.length with
     | zero =>
      rw [hq] at ha hb
      simp at ha hb
      subst ha hb
      exact x.seen
     | succ n => rw [hq] at ha; simp at ha
 split
 ·unfold MS.back RS.back
  split
  ·exact x
  ·cases ha : S.marks[s.n.toNat]? with
   | none =>
    have : R.marks[s.n.toNat]? = none := by rw [List.getElem?_eq_none_iff,<- x.ml]; exact List.getElem?_eq_none_iff.1 ha
    rw [this]
    exact x
   | some a =>
    obtain ⟨b,hb⟩ : ∃ b,R.marks[s.n.toNat]? = some b := ⟨_,List.getElem?_eq_getElem (by rw [<- x.ml]; exact (List.getElem?_eq_some_iff.1 ha).1)⟩
    rw [hb]
    have := x.mks _ a b ha hb
    exact ⟨x.n,x.n0,rfl,x.fails,rfl,this,by show EqI a (b ++ []); rw [List.append_nil]; exact this,x.ml,x.ml64,x.mks⟩
 split
 ·exact ⟨x.n,x.n0,x.lg,rfl,by show (S.hurt || true) = (R.hurt || true); simp,x.dur,x.seen,x.ml,x.ml64,x.mks⟩
 ·rw [if_pos (by omega)]
  exact ⟨x.n,x.n0,x.lg,rfl,by show (S.hurt || false) = (R.hurt || false); rw [x.hurt],x.dur,x.seen,x.ml,x.ml64,x.mks⟩
theorem MR.look {S : MS} {R : RS} (x : MR S R) (i : Int) : M (S.look i) = M ((rFind R.dur i).getD zz) := x.dur.2 i
structure RB where
 ms : List RS
 cell : Nat × List Nat
 steps : List Stp
 off : Bool
 log : List Ent
def crashRL : List RS -> List Nat -> List RS
 | [],_ => []
 | R :: r,p => R.crash (p.take R.lg.length) :: crashRL r (p.drop R.lg.length)
def RB.step (b : RB) (s : Stp) : RB := if s.kind = 6 then { b with ms := crashRL b.ms s.picks,off := true } else
 if s.m < 0 \/ (b.ms.length : Int) <= s.m then b else { b with ms := b.ms.modify s.m.toNat fun R => R.did s }
def aheadRL (now : Nat) : List Stp -> RB -> RB
 | [],b => b
 | s :: r,b => aheadRL now r (if s.tm = now then b.step s else b)
def RB.ahead (b : RB) : RB := aheadRL b.log.length b.steps b
def RB.ioR (b : RB) (t : Ent) (act : RB -> Int × List Nat × RB) : Ent × RB :=
 let r := if b.ahead.off then (13,t.x,b.ahead) else act b.ahead
 ({ t with x := r.2.1,e := r.1 }, { r.2.2 with log := b.log ++ [{ t with x := r.2.1,e := r.1 }] })
def atActR (t : Ent) (am : RS -> Int × List Nat × RS) (b : RB) : Int × List Nat × RB := if t.m < 0 then (2,t.x,b) else match b.ms[t.m.toNat]? with
 | some S => ((am S).1,(am S).2.1, { b with ms := b.ms.set t.m.toNat (am S).2.2 })
 | none => (2,t.x,b)
def amReadR (t : Ent) (S : RS) : Int × List Nat × RS := ((S.read t.i).2,(S.read t.i).1,S)
def amWriteR (t : Ent) (S : RS) : Int × List Nat × RS := ((S.write t.i t.x).2,t.x,(S.write t.i t.x).1)
def amFlushR (t : Ent) (S : RS) : Int × List Nat × RS := (S.flush.2,t.x,S.flush.1)
def cellActR (b : RB) : Int × List Nat × RB := (0,pad b.cell.2,b)
def advActR (lb : List Nat) (b : RB) : Int × List Nat × RB := if b.cell.1 = 4611686018427387904 then (15,pad lb,b) else (0,pad lb, { b with cell := (b.cell.1 + 1,lb) })
def RB.read (b : RB) (m i : Int) : Ent × RB := b.ioR ⟨1,m,i,zz,0⟩ (atActR ⟨1,m,i,zz,0⟩ (amReadR ⟨1,m,i,zz,0⟩))
def RB.write (b : RB) (m i : Int) (s : List Nat) : Ent × RB := b.ioR ⟨2,m,i,s,0⟩ (atActR ⟨2,m,i,s,0⟩ (amWriteR ⟨2,m,i,s,0⟩))
def RB.flush (b : RB) (m : Int) : Ent × RB := b.ioR ⟨3,m,0,zz,0⟩ (atActR ⟨3,m,0,zz,0⟩ (amFlushR ⟨3,m,0,zz,0⟩))
def RB.cellR (b : RB) : Ent × RB := b.ioR tCell cellActR
def RB.advR (b : RB) (lb : List Nat) : Ent × RB := b.ioR (tAdv lb) (advActR lb)
def RB.cellV (b : RB) : Nat × List Nat := if b.ahead.off then (0,czz) else b.ahead.cell
def RB.advV (b : RB) : Nat := if b.ahead.off then 0 else if b.ahead.cell.1 = 4611686018427387904 then 0 else b.ahead.cell.1 + 1
structure ER (t u : Ent) : Prop where
 kind : t.kind = u.kind
 m : t.m = u.m
 i : t.i = u.i
 x : M t.x = M u.x
 e : t.e = u.e
structure BR (b : BS) (r : RB) : Prop where
 ml : b.ms.length = r.ms.length
 ms : ∀ (i : Nat) (S : MS) (R : RS),b.ms[i]? = some S -> r.ms[i]? = some R -> MR S R
 c0 : 0 < b.cell.length
 cell : b.last = r.cell
 steps : b.steps = r.steps
 off : b.off = r.off
 ll : b.log.length = r.log.length
 log : ∀ (i : Nat) (t u : Ent),b.log[i]? = some t -> r.log[i]? = some u -> ER t u
theorem crash_rel : ∀ (l : List MS) (l' : List RS) (p : List Nat),l.length = l'.length -> (∀ (i : Nat) (S : MS) (R : RS),l[i]? = some S -> l'[i]? = some R -> MR S R) -> (crashL l p).length = (crashRL l' p).length /\ ∀ (i : Nat) (S : MS) (R : RS),(crashL l p)[i]? = some S -> (crashRL l' p)[i]? = some R -> MR S R
 | [],[],p,_,_ => ⟨rfl,fun i S R h => by simp [crashL] at h⟩
 | S :: l,R :: l',p,h,hm => by
  have h0 := hm 0 S R rfl rfl
  have ih := crash_rel l l' (p.drop R.lg.length) (by simpa using h) fun i S R a b => hm (i + 1) S R (by simpa using a) (by simpa using b)
  rw [crashL,crashRL,h0.lg]
  refine ⟨by simp [ih.1],fun i S' R' a b => ?_⟩
  cases i with
  | zero =>
   simp at a b
   subst a b
   exact h0.crash _
  | succ i => exact ih.2 i S' R' (by simpa using a) (by simpa using b)
theorem RS.did_id (R : RS) (s : Stp) (h : s.kind < 1 \/ 5 < s.kind) : R.did s = R := by
 unfold RS.did
 rw [if_neg (by omega),if_neg (by omega),if_neg (by omega),if_neg (by omega),if_neg (by omega)]
theorem BS.step_last (b : BS) (s : Stp) : (b.step s).last = b.last := by
 unfold BS.last
 rw [(b.step_steps s).2.2]
theorem RB.step_same (b : RB) (s : Stp) : (b.step s).steps = b.steps /\ (b.step s).log = b.log /\ (b.step s).cell = b.cell := by
 unfold RB.step
 split
 ·exact ⟨rfl,rfl,rfl⟩
 ·split <;> exact ⟨rfl,rfl,rfl⟩
theorem BR.step {b : BS} {r : RB} (x : BR b r) (s : Stp) : BR (b.step s) (r.step s) := by
 have key : (b.step s).ms.length = (r.step s).ms.length /\ (∀ (i : Nat) (S : MS) (R : RS),(b.step s).ms[i]? = some S -> (r.step s).ms[i]? = some R -> MR S R) /\ (b.step s).off = (r.step s).off := by
  unfold BS.step RB.step
  split
  ·have := crash_rel b.ms r.ms s.picks x.ml x.ms
   exact ⟨this.1,this.2,rfl⟩
  ·by_cases hm : s.m < 0 \/ (b.ms.length : Int) <= s.m
   ·rw [if_pos (.inr (.inr hm)),if_pos (by rw [<- x.ml]; exact hm)]
    exact ⟨x.ml,x.ms,x.off⟩
   ·by_cases hk : s.kind < 1 \/ 5 < s.kind
    ·rw [if_pos (by omega),if_neg (by rw [<- x.ml]; exact hm)]
     refine ⟨by show _ = (r.ms.modify _ _).length; rw [List.length_modify]; exact x.ml,fun i S R a b => ?_,x.off⟩
     have b : (r.ms.modify s.m.toNat fun R => R.did s)[i]? = some R := b
     rw [List.getElem?_modify] at b
     cases q : r.ms[i]? with
     | none => rw [q] at b; simp at b
     | some R0 =>
      rw [q] at b
      simp [RS.did_id _ _ hk] at b
      subst b
      exact x.ms i S R0 a q
    ·rw [if_neg (by omega),if_neg (by rw [<- x.ml]; exact hm)]
     refine ⟨by show (b.ms.modify _ _).length = (r.ms.modify _ _).length; rw [List.length_modify,List.length_modify]; exact x.ml,fun i S R a c => ?_,x.off⟩
     have a : (b.ms.modify s.m.toNat fun R => R.did s)[i]? = some S := a
     have c : (r.ms.modify s.m.toNat fun R => R.did s)[i]? = some R := c
     rw [List.getElem?_modify] at a c
     cases q : r.ms[i]? with
     | none => rw [q] at c; simp at c
     | some R0 =>
      cases q2 : b.ms[i]? with
      | none => rw [q2] at a; simp at a
      | some S0 =>
       rw [q] at c
       rw [q2] at a
       have m0 := x.ms i S0 R0 q2 q
       simp at a c
       by_cases e : s.m.toNat = i
       ·rw [if_pos e] at a c
        subst a c
        exact m0.did s hk
       ·rw [if_neg e] at a c
        subst a c
        exact m0
 obtain ⟨k1,k2,k3⟩ := key
 obtain ⟨a1,a2,a3⟩ := b.step_steps s
 obtain ⟨b1,b2,b3⟩ := r.step_same s
 exact ⟨k1,k2,by rw [a3]; exact x.c0,by rw [b.step_last,b3]; exact x.cell,by rw [a1,b1]; exact x.steps,k3,by rw [a2,b2]; exact x.ll,by rw [a2,b2]; exact x.log⟩
theorem BR.aheadL {now : Nat} : ∀ (l : List Stp) {b : BS} {r : RB},BR b r -> BR (aheadL now l b) (aheadRL now l r)
 | [],_,_,x => x
 | s :: l,b,r,x => by
  rw [Proofs.Ytfjcfjfgamajkaa.aheadL,aheadRL]
  refine BR.aheadL l ?_
  split
  ·exact x.step s
  ·exact x
theorem BR.ahead {b : BS} {r : RB} (x : BR b r) : BR b.ahead r.ahead := by
 unfold BS.ahead RB.ahead
 rw [x.ll,x.steps]
 exact x.aheadL r.steps
theorem BR.io {b : BS} {r : RB} (x : BR b r) (t : Ent) (act : BS -> Int × List Nat × BS) (actR : RB -> Int × List Nat × RB) (h : BR b.ahead r.ahead -> b.ahead.off = false -> (act b.ahead).1 = (actR r.ahead).1 /\ M (act b.ahead).2.1 = M (actR r.ahead).2.1 /\ BR (act b.ahead).2.2 (actR r.ahead).2.2) :
  ER (b.ioR t act).1 (r.ioR t actR).1 /\ BR (b.ioR t act).2 (r.ioR t actR).2 := by
 have xa := x.ahead
 have key : ∀ (e e' : Int) (y y' : List Nat) (b' : BS) (r' : RB),e = e' -> M y = M y' -> BR b' r' -> ER { t with x := y,e := e } { t with x := y',e := e' } /\ BR { b' with log := b.log ++ [{ t with x := y,e := e }] } { r' with log := r.log ++ [{ t with x := y',e := e' }] } := by
  rintro e _ y y' b' r' rfl hy z
  have er : ER { t with x := y,e := e } { t with x := y',e := e } := ⟨rfl,rfl,rfl,hy,rfl⟩
  refine ⟨er,z.ml,z.ms,z.c0,z.cell,z.steps,z.off,by simp [x.ll],fun i u v a c => ?_⟩
  have a : (b.log ++ [{ t with x := y,e := e }])[i]? = some u := a
  have c : (r.log ++ [{ t with x := y',e := e }])[i]? = some v := c
  by_cases hi : i < b.log.length
  ·rw [List.getElem?_append_left hi] at a
   rw [List.getElem?_append_left (by rw [<- x.ll]; exact hi)] at c
   exact x.log i u v a c
  ·rw [List.getElem?_append_right (by omega)] at a
   rw [List.getElem?_append_right (by rw [<- x.ll]; omega),<- x.ll] at c
   cases q : i - b.log.length with
   | zero =>
    rw [q] at a c
    simp at a c
    subst a c
    exact er
   | succ n => rw [q] at a; simp at a
 unfold BS.ioR RB.ioR
 cases ho : b.ahead.off with
 | true =>
  rw [show r.ahead.off = true by rw [<- xa.off]; exact ho]
  exact key 13 13 t.x t.x _ _ rfl rfl xa
 | false =>
  rw [show r.ahead.off = false by rw [<- xa.off]; exact ho]
  obtain ⟨h1,h2,h3⟩ := h xa ho
  exact key _ _ _ _ _ _ h1 h2 h3
theorem at_rel (t : Ent) (am : MS -> Int × List Nat × MS) (amR : RS -> Int × List Nat × RS) (h : ∀ S R,MR S R -> (am S).1 = (amR R).1 /\ M (am S).2.1 = M (amR R).2.1 /\ MR (am S).2.2 (amR R).2.2) {b : BS} {r : RB} (x : BR b r) :
  (atAct t am b).1 = (atActR t amR r).1 /\ M (atAct t am b).2.1 = M (atActR t amR r).2.1 /\ BR (atAct t am b).2.2 (atActR t amR r).2.2 := by
 unfold atAct atActR
 split
 ·exact ⟨rfl,rfl,x⟩
 ·cases hS : b.ms[t.m.toNat]? with
  | none =>
   rw [show r.ms[t.m.toNat]? = none by rw [List.getElem?_eq_none_iff,<- x.ml]; exact List.getElem?_eq_none_iff.1 hS]
   exact ⟨rfl,rfl,x⟩
  | some S =>
   obtain ⟨R,hR⟩ : ∃ R,r.ms[t.m.toNat]? = some R := ⟨_,List.getElem?_eq_getElem (by rw [<- x.ml]; exact (List.getElem?_eq_some_iff.1 hS).1)⟩
   rw [hR]
   obtain ⟨h1,h2,h3⟩ := h S R (x.ms _ S R hS hR)
   refine ⟨h1,h2,⟨by simp [x.ml],fun i S' R' a c => ?_,x.c0,x.cell,x.steps,x.off,x.ll,x.log⟩⟩
   have a : (b.ms.set t.m.toNat (am S).2.2)[i]? = some S' := a
   have c : (r.ms.set t.m.toNat (amR R).2.2)[i]? = some R' := c
   rw [List.getElem?_set] at a c
   by_cases e : t.m.toNat = i
   ·rw [if_pos e] at a c
    split at a
    ·split at c
     ·simp at a c
      subst a c
      exact h3
     ·cases c
    ·cases a
   ·rw [if_neg e] at a c
    exact x.ms i S' R' a c
theorem BR.read {b : BS} {r : RB} (x : BR b r) (m i : Int) : ER (b.read m i).1 (r.read m i).1 /\ BR (b.read m i).2 (r.read m i).2 :=
 x.io _ _ _ fun y _ => at_rel _ _ _ (fun S R z => ⟨(z.read i).2,(z.read i).1,z⟩) y
theorem BR.write {b : BS} {r : RB} (x : BR b r) (m i : Int) (s : List Nat) : ER (b.write m i s).1 (r.write m i s).1 /\ BR (b.write m i s).2 (r.write m i s).2 :=
 x.io _ _ _ fun y _ => at_rel _ _ _ (fun S R z => ⟨(z.write i s).2,rfl,(z.write i s).1⟩) y
theorem BR.flush {b : BS} {r : RB} (x : BR b r) (m : Int) : ER (b.flush m).1 (r.flush m).1 /\ BR (b.flush m).2 (r.flush m).2 :=
 x.io _ _ _ fun y _ => at_rel _ _ _ (fun S R z => ⟨z.flush.2,rfl,z.flush.1⟩) y
theorem BR.cell' {b : BS} {r : RB} (x : BR b r) : ER b.cellR.1 r.cellR.1 /\ BR b.cellR.2 r.cellR.2 :=
 x.io _ _ _ fun y _ => ⟨rfl,by show M (pad b.ahead.last.2) = M (pad r.ahead.cell.2); rw [y.cell],y⟩
theorem BR.cellV {b : BS} {r : RB} (x : BR b r) : b.cellV = r.cellV := by
 have y := x.ahead
 unfold BS.cellV RB.cellV
 rw [y.off,y.cell]
theorem RB.ahead_cell (r : RB) : r.ahead.cell = r.cell /\ r.ahead.steps = r.steps /\ r.ahead.log = r.log := by
 have : ∀ (now : Nat) (l : List Stp) (r : RB),(aheadRL now l r).cell = r.cell /\ (aheadRL now l r).steps = r.steps /\ (aheadRL now l r).log = r.log := by
  intro now l
  induction l with
  | nil => exact fun r => ⟨rfl,rfl,rfl⟩
  | cons s l ih =>
   intro r
   rw [aheadRL]
   obtain ⟨h1,h2,h3⟩ := ih (if s.tm = now then r.step s else r)
   rw [h1,h2,h3]
   split
   ·obtain ⟨g1,g2,g3⟩ := r.step_same s
    exact ⟨g3,g1,g2⟩
   ·exact ⟨rfl,rfl,rfl⟩
 exact this _ _ r
theorem BR.adv {b : BS} {r : RB} (x : BR b r) (lb : List Nat) (hm : b.last.1 ≠ 4611686018427387904) : ER (b.advR lb).1 (r.advR lb).1 /\ BR (b.advR lb).2 (r.advR lb).2 /\ b.advV = r.advV := by
 have y := x.ahead
 have hr : r.ahead.cell.1 ≠ 4611686018427387904 := by rw [r.ahead_cell.1,<- x.cell]; exact hm
 have := x.io (tAdv lb) (advAct lb) (advActR lb) fun y _ => by
  unfold advAct advActR
  rw [if_neg hr]
  refine ⟨rfl,rfl,y.ml,y.ms, ?_, ?_,y.steps,y.off,y.ll,y.log⟩
  ·simp
  ·show BS.last _ = _
   unfold BS.last
   simp
   rw [<- y.cell]
   rfl
 refine ⟨this.1,this.2, ?_⟩
 unfold BS.advV RB.advV
 rw [y.off,if_neg hr,y.cell]
theorem BR.advF {b : BS} {r : RB} (x : BR b r) (lb : List Nat) (hm : b.last.1 = 4611686018427387904) : ER (b.advF lb).1 (r.advR lb).1 /\ BR (b.advF lb).2 (r.advR lb).2 /\ r.advV = 0 := by
 have hr : r.ahead.cell.1 = 4611686018427387904 := by rw [r.ahead_cell.1,<- x.cell]; exact hm
 have := x.io (tAdv lb) (advFAct lb) (advActR lb) fun y _ => by
  unfold advFAct advActR
  rw [if_pos hr]
  exact ⟨rfl,rfl,y⟩
 refine ⟨this.1,this.2, ?_⟩
 unfold RB.advV
 rw [if_pos hr]
 split <;> rfl
theorem BR.power {b : BS} {r : RB} (x : BR b r) : BR { b with off := false } { r with off := false } := ⟨x.ml,x.ms,x.c0,x.cell,x.steps,rfl,x.ll,x.log⟩
end Go.Proofs.Ytfjcfjfgamajkaa
