/- Slots as functions: code run. No program. No condition but those in the theorems. -/
import Derived.Test.YtlnepbkeiianmaaAwM1
namespace Go.Aw
open Go Go.Ai
set_option linter.unusedSimpArgs false
variable {P : Program} {β : Type}
/-! what stands in the slots,as a function -/
abbrev Sg := Nat -> AV
def upd (σ : Sg) (t : Nat) (v : AV) : Sg := fun u => if u = t then v else σ u
def sel (b : Bool) (v : AV) (σ : Sg) (u : Nat) : AV := match b with
 | true => v
 | false => σ u
theorem sel_true (v : AV) (σ : Sg) (u : Nat) : sel true v σ u = v := rfl
theorem sel_false (v : AV) (σ : Sg) (u : Nat) : sel false v σ u = σ u := rfl
theorem upd_at (σ : Sg) (t u : Nat) (v : AV) : upd σ t v u = sel (u == t) v σ u := by
 cases hb : u == t with
 | true => have h : u = t := by simpa using hb
           simp [upd,sel,h]
 | false => have h : u ≠ t := by simpa using hb
            simp [upd,sel,h]
def updO (σ : Sg) : Option Tmp -> AV -> Sg
 | none,_ => σ
 | some t,v => upd σ t v
def fitsD (n : Nat) : Option Tmp -> Bool
 | none => true
 | some d => Nat.blt d n
def ev (σ : Sg) : Operand -> AV
 | .tmp t => σ t
 | .const v => ofV v
 | .global _ => .bad
 | .func f => .func (.func f) [] []
def Agree (fr : Fr) (σ : Sg) : Prop := ∀ t,fr.eval (.tmp t) = σ t
theorem Agree.ev {fr : Fr} {σ : Sg} (h : Agree fr σ) : fr.eval = ev σ := by
 funext x
 cases x with
 | tmp t => exact h t
 | _ => rfl
theorem Agree.put {fr : Fr} {σ : Sg} (h : Agree fr σ) {n : Nat} {dst : Option Tmp} {v : AV} {K : Fr -> Option β} {K' : Sg -> Option β} (hK : ∀ fr' σ',Agree fr' σ' -> K fr' = K' σ') :
  putK n fr dst v K = match fitsD n dst with | true => K' (updO σ dst v) | false => none := by
 cases dst with
 | none => exact hK _ _ h
 | some d =>
  simp only [putK,fitsD]
  cases Nat.blt d n with
  | false => rfl
  | true =>
   simp only [setK_eq]
   refine hK _ _ fun t => ?_
   by_cases ht : t = d
   ·subst ht; rw [eval_tmp,get_set_same]; simp [updO,upd]
   ·rw [eval_tmp,get_set_ne _ (fun e => ht (pth_inj e)),<- eval_tmp,h t]; simp [updO,upd,ht]
def wantS (ops : Array Oper) (σ : Sg) (o : Oper) : Bool := match o.guard with
 | none => true
 | some (j,want) => match (ops[j]?).bind (·.dst) with
  | some t => (match σ t with | .bool b => b == want | _ => false)
  | none => false
theorem Agree.want {fr : Fr} {σ : Sg} (h : Agree fr σ) (ops : Array Oper) (o : Oper) : wantA ops fr o = wantS ops σ o := by
 unfold wantA wantS
 cases o.guard with
 | none => rfl
 | some g =>
  obtain ⟨j,want⟩ := g
  simp only
  cases (ops[j]?).bind (·.dst) with
  | none => rfl
  | some t => simp only [h t]; cases σ t <;> rfl
/-! regions -/
def opsS (P : Program) (call : CallK) (n : Nat) (ops : Array Oper) : List Oper -> Sg -> Heap -> (Sg -> Heap -> Option β) -> Option β
 | [],σ,h,K => K σ h
 | o :: rest,σ,h,K => match wantS ops σ o with
  | true => (match opE P call (ev σ) o h with
   | some (v,h) => (match fitsD n o.dst with | true => opsS P call n ops rest (updO σ o.dst v) h K | false => none)
   | none => none)
  | false => (match fitsD n o.dst with | true => opsS P call n ops rest (updO σ o.dst undefA) h K | false => none)
theorem opsK_S {call : CallK} {n : Nat} {ops : Array Oper} : ∀ (l : List Oper) {fr : Fr} {σ : Sg} {h : Heap} {K : Fr -> Heap -> Option β} {K' : Sg -> Heap -> Option β},Agree fr σ -> (∀ fr' σ' h',Agree fr' σ' -> K fr' h' = K' σ' h') ->
  opsK P call n ops l fr h K = opsS P call n ops l σ h K'
 | [],fr,σ,h,K,K',ha,hK => hK _ _ _ ha
 | o :: rest,fr,σ,h,K,K',ha,hK => by
  simp only [opsK,opsS,ha.want]
  cases wantS ops σ o with
  | true =>
   simp only [opK_E,ha.ev]
   cases opE P call (ev σ) o h with
   | none => rfl
   | some p =>
    obtain ⟨v,h'⟩ := p
    exact ha.put (K' := fun σ => opsS P call n ops rest σ h' K') fun fr' σ' ha' => opsK_S rest ha' hK
  | false => exact ha.put (K' := fun σ => opsS P call n ops rest σ h K') fun fr' σ' ha' => opsK_S rest ha' hK
structure LogS where
 o : Oper
 σ : Sg
 v : AV
def opsDS (P : Program) (call : CallK) (n : Nat) (ops : Array Oper) : List Oper -> Sg -> Heap -> List (Option LogS) -> List Heap -> (Sg -> Heap -> List (Option LogS) -> List Heap -> Option β) -> Option β
 | [],σ,h,lg,hs,K => K σ h lg hs
 | o :: rest,σ,h,lg,hs,K => match wantS ops σ o with
  | true => (match opE P call (ev σ) o h with
   | some (v,h') => (match fitsD n o.dst with
    | true => (match isX (cls P o) with
     | true => opsDS P call n ops rest (updO σ o.dst v) h' (none :: lg) (h' :: hs) K
     | false => opsDS P call n ops rest (updO σ o.dst v) h ((match isR (cls P o) with | true => some ⟨o,σ,v⟩ | false => none) :: lg) hs K)
    | false => none)
   | none => none)
  | false => (match fitsD n o.dst with
   | true => opsDS P call n ops rest (updO σ o.dst undefA) h (none :: lg) (match isX (cls P o) with | true => h :: hs | false => hs) K
   | false => none)
def LgRel : List (Option Log) -> List (Option LogS) -> Prop
 | [],[] => True
 | none :: a,none :: b => LgRel a b
 | some x :: a,some y :: b => x.o = y.o /\ x.v = y.v /\ Agree x.fr y.σ /\ LgRel a b
 | _,_ => False
theorem opsDK_S {call : CallK} {n : Nat} {ops : Array Oper} : ∀ (l : List Oper) {fr : Fr} {σ : Sg} {h : Heap} {lg : List (Option Log)} {lgS : List (Option LogS)} {hs : List Heap} {K : Fr -> Heap -> List (Option Log) -> List Heap -> Option β} {K' : Sg -> Heap -> List (Option LogS) -> List Heap -> Option β},
  Agree fr σ -> LgRel lg lgS -> (∀ fr' σ' h' lg' lgS' hs',Agree fr' σ' -> LgRel lg' lgS' -> K fr' h' lg' hs' = K' σ' h' lgS' hs') -> opsDK P call n ops l fr h lg hs K = opsDS P call n ops l σ h lgS hs K'
 | [],fr,σ,h,lg,lgS,hs,K,K',ha,hl,hK => hK _ _ _ _ _ _ ha hl
 | o :: rest,fr,σ,h,lg,lgS,hs,K,K',ha,hl,hK => by
  simp only [opsDK,opsDS,ha.want]
  cases wantS ops σ o with
  | true =>
   have e : (opK P call fr.eval o h fun v h => some (v,h)) = opE P call (ev σ) o h := by rw [ha.ev]; rfl
   simp only [e]
   cases opE P call (ev σ) o h with
   | none => rfl
   | some p =>
    obtain ⟨v,h'⟩ := p
    simp only
    cases hx : isX (cls P o) with
    | true =>
     simp only
     exact ha.put (K' := fun σ => opsDS P call n ops rest σ h' (none :: lgS) (h' :: hs) K') fun fr' σ' ha' => opsDK_S rest ha' hl hK
    | false =>
     simp only
     refine ha.put (K' := fun σ' => opsDS P call n ops rest σ' h ((match isR (cls P o) with | true => some ⟨o,σ,v⟩ | false => none) :: lgS) hs K') fun fr' σ' ha' => opsDK_S rest ha' ?_ hK
     cases isR (cls P o) with
     | true => exact ⟨rfl,rfl,ha,hl⟩
     | false => exact hl
  | false => exact ha.put (K' := fun σ => opsDS P call n ops rest σ h (none :: lgS) (match isX (cls P o) with | true => h :: hs | false => hs) K') fun fr' σ' ha' => opsDK_S rest ha' hl hK
def chkHS (P : Program) (l : LogS) (hs : List Heap) : Bool := hs.all fun h => match readE P (ev l.σ) l.o h with | some v => l.v.same v | none => false
def chkS (P : Program) (lg : List (Option LogS)) (hs : List Heap) : List (Nat × Nat × Nat) -> Bool
 | [] => true
 | (i,lo,hi) :: rest => match lg[i]? with
  | some (some l) => chkHS P l ((hs.drop lo).take (hi - lo + 1)) && chkS P lg hs rest
  | some none => chkS P lg hs rest
  | none => false
theorem chkHs_S {l : Log} {m : LogS} (h1 : l.o = m.o) (h2 : l.v = m.v) (h3 : Agree l.fr m.σ) : ∀ (hs : List Heap) (K : Option β),chkHs P l hs K = cond (chkHS P m hs) K none
 | [],K => by simp [chkHs,chkHS]
 | h :: hs,K => by
  have e : (readK P l.fr.eval l.o h fun v => some (v,h)) = th (readE P (ev m.σ) m.o h) fun v => some (v,h) := by rw [h3.ev,h1,readK_E]
  simp only [chkHs,e]
  have ih := chkHs_S h1 h2 h3 hs K
  unfold chkHS at ih ⊢
  simp only [List.all_cons]
  match hr : readE P (ev m.σ) m.o h with
  | none => simp
  | some v =>
   simp only [th_some,h2]
   cases m.v.same v with
   | true => simpa using ih
   | false => simp
theorem LgRel.get : ∀ {a : List (Option Log)} {b : List (Option LogS)},LgRel a b -> ∀ (i : Nat),(a[i]? = none /\ b[i]? = none) \/ (a[i]? = some none /\ b[i]? = some none) \/ ∃ (x : Log) (y : LogS),a[i]? = some (some x) /\ b[i]? = some (some y) /\ x.o = y.o /\ x.v = y.v /\ Agree x.fr y.σ
 | [],[],_,i => .inl ⟨rfl,rfl⟩
 | none :: a,none :: b,h,0 => .inr (.inl ⟨rfl,rfl⟩)
 | none :: a,none :: b,h,i + 1 => by simpa using LgRel.get (a := a) (b := b) h i
 | some x :: a,some y :: b,h,0 => .inr (.inr ⟨x,y,rfl,rfl,h.1,h.2.1,h.2.2.1⟩)
 | some x :: a,some y :: b,h,i + 1 => by simpa using LgRel.get (a := a) (b := b) h.2.2.2 i
 | [],_ :: _,h,_ => h.elim
 | none :: _,[],h,_ => h.elim
 | some _ :: _,[],h,_ => h.elim
 | none :: _,some _ :: _,h,_ => h.elim
 | some _ :: _,none :: _,h,_ => h.elim
theorem LgRel.len : ∀ {a : List (Option Log)} {b : List (Option LogS)},LgRel a b -> a.length = b.length
 | [],[],_ => rfl
 | none :: a,none :: b,h => by simp [LgRel.len (a := a) (b := b) h]
 | some _ :: a,some _ :: b,h => by simp [LgRel.len (a := a) (b := b) h.2.2.2]
 | [],_ :: _,h => h.elim
 | none :: _,[],h => h.elim
 | some _ :: _,[],h => h.elim
 | none :: _,some _ :: _,h => h.elim
 | some _ :: _,none :: _,h => h.elim
theorem LgRel.app : ∀ {a a' : List (Option Log)} {b b' : List (Option LogS)},LgRel a b -> LgRel a' b' -> LgRel (a ++ a') (b ++ b')
 | [],_,[],_,_,h => h
 | none :: a,_,none :: b,_,h,g => LgRel.app (a := a) (b := b) h g
 | some _ :: a,_,some _ :: b,_,h,g => ⟨h.1,h.2.1,h.2.2.1,LgRel.app (a := a) (b := b) h.2.2.2 g⟩
 | [],_,_ :: _,_,h,_ => h.elim
 | none :: _,_,[],_,h,_ => h.elim
 | some _ :: _,_,[],_,h,_ => h.elim
 | none :: _,_,some _ :: _,_,h,_ => h.elim
 | some _ :: _,_,none :: _,_,h,_ => h.elim
theorem LgRel.rev : ∀ {a : List (Option Log)} {b : List (Option LogS)},LgRel a b -> LgRel a.reverse b.reverse
 | [],[],_ => trivial
 | none :: a,none :: b,h => by
  simp only [List.reverse_cons]
  exact LgRel.app (LgRel.rev (a := a) (b := b) h) trivial
 | some _ :: a,some _ :: b,h => by
  simp only [List.reverse_cons]
  exact LgRel.app (LgRel.rev (a := a) (b := b) h.2.2.2) ⟨h.1,h.2.1,h.2.2.1,trivial⟩
 | [],_ :: _,h => h.elim
 | none :: _,[],h => h.elim
 | some _ :: _,[],h => h.elim
 | none :: _,some _ :: _,h => h.elim
 | some _ :: _,none :: _,h => h.elim
theorem chkFl_S {lg : List (Option Log)} {lgS : List (Option LogS)} (hl : LgRel lg lgS) (hs : List Heap) (K : Option β) : ∀ fl,chkFl P lg hs fl K = cond (chkS P lgS hs fl) K none
 | [] => by simp [chkFl,chkS]
 | (i,lo,hi) :: rest => by
  have ih := chkFl_S hl hs K rest
  simp only [chkFl,chkS]
  rcases hl.get i with ⟨h1,h2⟩ | ⟨h1,h2⟩ | ⟨x,y,h1,h2,h3,h4,h5⟩
  ·simp [h1,h2]
  ·simp only [h1,h2]; exact ih
  ·simp only [h1,h2,chkHs_S h3 h4 h5,ih]
   cases chkHS P y ((hs.drop lo).take (hi - lo + 1)) <;> simp
/-! a region whose made blocks stand in no order to its effects -/
def Heap.at_ (q : Nat) : Heap := ⟨q, .leaf⟩
def Heap.keep (h : Heap) (m : Nat) : Heap := ⟨h.next + m,h.t⟩
def lateE (P : Program) (call : CallK) (ρ : Operand -> AV) (o : Oper) (q : Nat) : Option (AV × Blk) := match opE P call ρ o (Heap.at_ q) with
 | some (v,h) => (match h.get q with | some b => some (v,b) | none => none)
 | none => none
theorem lateE_eq {call : CallK} {ρ : Operand -> AV} {o : Oper} {q : Nat} (hc : cls P o = .a) : (allocK P ρ o fun b mk => fN q fun q => (mk q).fK fun v => some (b,v)) = match lateE P call ρ o q with | some (v,b) => some (b,v) | none => none := by
 unfold lateE opE opK
 simp only [hc]
 rw [allocK_E,allocK_E]
 cases allocE P ρ o with
 | none => rfl
 | some e =>
  cases e with
  | mk b mk =>
   simp only [thB,fN_eq,fK_E,newK_E]
   cases hv : okv (mk q) with
   | none => simp [th,Heap.at_,hv]
   | some v =>
    have e : ((⟨q, .leaf⟩ : Heap).new b).get q = some b := new_same (⟨q, .leaf⟩ : Heap) b
    simp [th,Heap.at_,hv,p2,e]
def layO (q : Nat) (h : Heap) : Option Blk -> Heap
 | some b => h.put q (some b)
 | none => h
def layS (base : Nat) (pd : List (Nat × Blk)) : List Nat -> Heap -> Heap
 | [],h => h
 | i :: r,h => layS base pd r (layO (base + i) h (findP pd i))
theorem layK_S (base : Nat) (pd : List (Nat × Blk)) : ∀ (l : List Nat) (h : Heap) (K : Heap -> Option β),layK base pd l h K = K (layS base pd l h)
 | [],_,_ => rfl
 | i :: r,h,K => by
  simp only [layK,layS]
  cases findP pd i with
  | none => exact layK_S base pd r h K
  | some b => simp only [fN_eq,hputK_eq,layO]; exact layK_S base pd r _ K
def opsLS (P : Program) (call : CallK) (n : Nat) (ops : Array Oper) (base : Nat) : Nat -> List (List Nat) -> List Oper -> Sg -> Heap -> List (Nat × Blk) -> List (Option LogS) -> List Heap -> (Sg -> Heap -> List (Nat × Blk) -> List (Option LogS) -> List Heap -> Option β) -> Option β
 | _,_,[],σ,h,pd,lg,hs,K => K σ h pd lg hs
 | i,pls,o :: rest,σ,h,pd,lg,hs,K => match cls P o with
  | .a => (match wantS ops σ o with
   | true => (match lateE P call (ev σ) o (base + i) with
    | some (v,b) => (match fitsD n o.dst with | true => opsLS P call n ops base (i + 1) pls.tail rest (updO σ o.dst v) h ((i,b) :: pd) (none :: lg) hs K | false => none)
    | none => none)
   | false => (match fitsD n o.dst with | true => opsLS P call n ops base (i + 1) pls.tail rest (updO σ o.dst undefA) h pd (none :: lg) hs K | false => none))
  | .e => (match wantS ops σ o with
   | true => (match opE P call (ev σ) o (layS base pd (pls.headD []) h) with
    | some (v,h') => (match fitsD n o.dst with | true => opsLS P call n ops base (i + 1) pls.tail rest (updO σ o.dst v) h' pd (none :: lg) (h' :: hs) K | false => none)
    | none => none)
   | false => (match fitsD n o.dst with | true => opsLS P call n ops base (i + 1) pls.tail rest (updO σ o.dst undefA) (layS base pd (pls.headD []) h) pd (none :: lg) (layS base pd (pls.headD []) h :: hs) K | false => none))
  | _ => (match wantS ops σ o with
   | true => (match opE P call (ev σ) o h with
    | some (v,_) => (match fitsD n o.dst with | true => opsLS P call n ops base (i + 1) pls.tail rest (updO σ o.dst v) h pd ((match isR (cls P o) with | true => some ⟨o,σ,v⟩ | false => none) :: lg) hs K | false => none)
    | none => none)
   | false => (match fitsD n o.dst with | true => opsLS P call n ops base (i + 1) pls.tail rest (updO σ o.dst undefA) h pd (none :: lg) hs K | false => none))
theorem opsLK_S {call : CallK} {n : Nat} {ops : Array Oper} {base : Nat} {all : List (List Nat)} : ∀ (l : List Oper) {i : Nat} {pls : List (List Nat)} {fr : Fr} {σ : Sg} {h : Heap} {pd : List (Nat × Blk)} {lg : List (Option Log)} {lgS : List (Option LogS)} {hs : List Heap} {K : Fr -> Heap -> List (Nat × Blk) -> List (Option Log) -> List Heap -> Option β} {K' : Sg -> Heap -> List (Nat × Blk) -> List (Option LogS) -> List Heap -> Option β},
  all.drop i = pls -> Agree fr σ -> LgRel lg lgS -> (∀ fr' σ' h' pd' lg' lgS' hs',Agree fr' σ' -> LgRel lg' lgS' -> K fr' h' pd' lg' hs' = K' σ' h' pd' lgS' hs') -> opsLK P call n ops base all i l fr h pd lg hs K = opsLS P call n ops base i pls l σ h pd lgS hs K'
 | [],i,pls,fr,σ,h,pd,lg,lgS,hs,K,K',hp,ha,hl,hK => hK _ _ _ _ _ _ _ ha hl
 | o :: rest,i,pls,fr,σ,h,pd,lg,lgS,hs,K,K',hp,ha,hl,hK => by
  have hp' : all.drop (i + 1) = pls.tail := by rw [<- hp,List.tail_drop]
  have hp0 : (all[i]?).getD [] = pls.headD [] := by
   rw [<- hp]
   cases hd : all.drop i with
   | nil => rw [List.getElem?_eq_none (List.drop_eq_nil_iff.1 hd)]; rfl
   | cons x r =>
    have : (all.drop i)[0]? = some x := by rw [hd]; rfl
    rw [List.getElem?_drop,Nat.add_zero] at this
    rw [this]; rfl
  have e : ∀ h,(opK P call fr.eval o h fun v h => some (v,h)) = opE P call (ev σ) o h := fun h => by rw [ha.ev]; rfl
  simp only [opsLK,opsLS,ha.want]
  cases hc : cls P o with
  | a =>
   simp only
   rw [lateE_eq (call := call) hc,ha.ev]
   cases wantS ops σ o with
   | true =>
    simp only
    cases lateE P call (ev σ) o (base + i) with
    | none => rfl
    | some p =>
     obtain ⟨v,b⟩ := p
     exact ha.put (K' := fun σ => opsLS P call n ops base (i + 1) pls.tail rest σ h ((i,b) :: pd) (none :: lgS) hs K') fun fr' σ' ha' => opsLK_S rest hp' ha' hl hK
   | false => exact ha.put (K' := fun σ => opsLS P call n ops base (i + 1) pls.tail rest σ h pd (none :: lgS) hs K') fun fr' σ' ha' => opsLK_S rest hp' ha' hl hK
  | e =>
   simp only
   rw [layK_S,hp0]
   simp only [e]
   cases wantS ops σ o with
   | true =>
    simp only
    cases opE P call (ev σ) o (layS base pd (pls.headD []) h) with
    | none => rfl
    | some p =>
     obtain ⟨v,h'⟩ := p
     exact ha.put (K' := fun σ => opsLS P call n ops base (i + 1) pls.tail rest σ h' pd (none :: lgS) (h' :: hs) K') fun fr' σ' ha' => opsLK_S rest hp' ha' hl hK
   | false => exact ha.put (K' := fun σ => opsLS P call n ops base (i + 1) pls.tail rest σ (layS base pd (pls.headD []) h) pd (none :: lgS) (layS base pd (pls.headD []) h :: hs) K') fun fr' σ' ha' => opsLK_S rest hp' ha' hl hK
  | p =>
   simp only [e]
   cases wantS ops σ o with
   | true =>
    simp only
    cases opE P call (ev σ) o h with
    | none => rfl
    | some p =>
     obtain ⟨v,h'⟩ := p
     exact ha.put (K' := fun σ => opsLS P call n ops base (i + 1) pls.tail rest σ h pd (none :: lgS) hs K') fun fr' σ' ha' => opsLK_S rest hp' ha' hl hK
   | false => exact ha.put (K' := fun σ => opsLS P call n ops base (i + 1) pls.tail rest σ h pd (none :: lgS) hs K') fun fr' σ' ha' => opsLK_S rest hp' ha' hl hK
  | r =>
   simp only [e]
   cases wantS ops σ o with
   | true =>
    simp only
    cases opE P call (ev σ) o h with
    | none => rfl
    | some p =>
     obtain ⟨v,h'⟩ := p
     exact ha.put (K' := fun σ' => opsLS P call n ops base (i + 1) pls.tail rest σ' h pd (some ⟨o,σ,v⟩ :: lgS) hs K') fun fr' σ' ha' => opsLK_S rest hp' ha' ⟨rfl,rfl,ha,hl⟩ hK
   | false => exact ha.put (K' := fun σ => opsLS P call n ops base (i + 1) pls.tail rest σ h pd (none :: lgS) hs K') fun fr' σ' ha' => opsLK_S rest hp' ha' hl hK
def regionLS (P : Program) (call : CallK) (n : Nat) (ops : Array Oper) (pls : List (List Nat)) (rest : List Nat) (fl : List (Nat × Nat × Nat)) (m : Nat) (σ : Sg) (h : Heap) (K : Sg -> Heap -> Option β) : Option β :=
 opsLS P call n ops h.next 0 pls ops.toList σ (Heap.keep h m) [] [] [Heap.keep h m] fun σ h' pd lg hs => cond (chkS P lg.reverse hs.reverse fl) (K σ (layS h.next pd rest h')) none
def regionS (P : Program) (call : CallK) (n : Nat) (ops : Array Oper) (draw : Bool) (σ : Sg) (h : Heap) (K : Sg -> Heap -> Option β) : Option β :=
 match draw with
 | false => opsS P call n ops ops.toList σ h K
 | true => match drawOk P ops with
  | false => (match drawOkL P ops with
   | false => none
   | true => regionLS P call n ops (placesAll P ops) (restL P ops) (floatsL P ops) ops.size σ h K)
  | true => opsDS P call n ops ops.toList σ h [] [h] fun σ h lg hs => cond (chkS P lg.reverse hs.reverse (floats P ops)) (K σ h) none
theorem regionK_S {call : CallK} {n : Nat} {ops : Array Oper} {draw : Bool} {fr : Fr} {σ : Sg} {h : Heap} {K : Fr -> Heap -> Option β} {K' : Sg -> Heap -> Option β} (ha : Agree fr σ) (hK : ∀ fr' σ' h',Agree fr' σ' -> K fr' h' = K' σ' h') :
  regionK P call n ops draw fr h K = regionS P call n ops draw σ h K' := by
 cases draw with
 | false => exact opsK_S _ ha hK
 | true =>
  simp only [regionK,regionS]
  cases drawOk P ops with
  | false =>
   simp only [regionLK]
   cases drawOkL P ops with
   | false => rfl
   | true =>
    simp only [keepK_eq,regionLS]
    refine opsLK_S _ rfl ha (by trivial) fun fr' σ' h' pd' lg' lgS' hs' ha' hl' => ?_
    rw [layK_S,chkFl_S hl'.rev,hK _ _ _ ha']
  | true =>
   refine opsDK_S _ ha (by trivial) fun fr' σ' h' lg' lgS' hs' ha' hl' => ?_
   rw [chkFl_S hl'.rev,hK _ _ _ ha']
/-! code -/
def iterS (body : Sg -> Heap -> (Ex -> Sg -> Heap -> Option β) -> Option β) : Nat -> Sg -> Heap -> (Ex -> Sg -> Heap -> Option β) -> Option β
 | 0,_,_,_ => none
 | n + 1,σ,h,K => body σ h fun e σ h => match e with
  | .normal => iterS body n σ h K
  | e => K e σ h
def codeS (P : Program) (call : CallK) (L n : Nat) : Code -> Sg -> Heap -> (Ex -> Sg -> Heap -> Option β) -> Option β
 | .skip,σ,h,K => K .normal σ h
 | .label _,σ,h,K => K .normal σ h
 | .ret,σ,h,K => K .ret σ h
 | .exit id,σ,h,K => K (.exit id) σ h
 | .region _ ops draw,σ,h,K => regionS P call n ops draw σ h fun σ h => K .normal σ h
 | .seq a b,σ,h,K => codeS P call L n a σ h fun e σ h => match e with
  | .normal => codeS P call L n b σ h K
  | e => K e σ h
 | .cond c a b,σ,h,K => match ev σ c with
  | .bool true => codeS P call L n a σ h K
  | .bool false => codeS P call L n b σ h K
  | _ => none
 | .block id c,σ,h,K => codeS P call L n c σ h fun e σ h => match e with
  | .exit j => (match Nat.beq j id with | true => K .normal σ h | false => K (.exit j) σ h)
  | e => K e σ h
 | .loop c,σ,h,K => iterS (fun σ h K => codeS P call L n c σ h K) L σ h K
 | .scope c,σ,h,K => codeS P call L n c σ h K
 | _,_,_,_ => none
theorem codeK_S {call : CallK} {L n : Nat} : ∀ (c : Code) {fr : Fr} {σ : Sg} {h : Heap} {K : Ex -> Fr -> Heap -> Option β} {K' : Ex -> Sg -> Heap -> Option β},Agree fr σ -> (∀ e fr' σ' h',Agree fr' σ' -> K e fr' h' = K' e σ' h') ->
  codeK P call L n c fr h K = codeS P call L n c σ h K' := by
 intro c
 induction c with
 | skip => intro fr σ h K K' ha hK; exact hK _ _ _ _ ha
 | label l => intro fr σ h K K' ha hK; exact hK _ _ _ _ ha
 | ret => intro fr σ h K K' ha hK; exact hK _ _ _ _ ha
 | exit id => intro fr σ h K K' ha hK; exact hK _ _ _ _ ha
 | region id ops draw => intro fr σ h K K' ha hK; exact regionK_S ha fun _ _ _ ha' => hK _ _ _ _ ha'
 | seq a b iha ihb =>
  intro fr σ h K K' ha hK
  simp only [codeK,codeS]
  refine iha ha fun e fr' σ' h' ha' => ?_
  cases e with
  | normal => exact ihb ha' hK
  | exit j => exact hK _ _ _ _ ha'
  | ret => exact hK _ _ _ _ ha'
 | cond c a b iha ihb =>
  intro fr σ h K K' ha hK
  simp only [codeK,codeS,ha.ev]
  cases ev σ c <;> try rfl
  rename_i q
  cases q
  ·exact ihb ha hK
  ·exact iha ha hK
 | block id c ih =>
  intro fr σ h K K' ha hK
  simp only [codeK,codeS]
  refine ih ha fun e fr' σ' h' ha' => ?_
  cases e with
  | normal => exact hK _ _ _ _ ha'
  | ret => exact hK _ _ _ _ ha'
  | exit j =>
   simp only
   cases Nat.beq j id <;> exact hK _ _ _ _ ha'
 | loop c ih =>
  intro fr σ h K K' ha hK
  simp only [codeK,codeS]
  have key : ∀ (m : Nat) {fr : Fr} {σ : Sg} {h : Heap},Agree fr σ -> iterK (fun fr h K => codeK P call L n c fr h K) m fr h K = iterS (fun σ h K => codeS P call L n c σ h K) m σ h K' := by
   intro m
   induction m with
   | zero => intros; rfl
   | succ m ihm =>
    intro fr σ h ha
    simp only [iterK,iterS]
    refine ih ha fun e fr' σ' h' ha' => ?_
    cases e with
    | normal => exact ihm ha'
    | exit j => exact hK _ _ _ _ ha'
    | ret => exact hK _ _ _ _ ha'
  exact key L ha
 | scope c ih => intro fr σ h K K' ha hK; exact ih ha hK
 | rangeFunc f ps x y => intros; rfl
 | goto l => intros; rfl
 | refuse s => intros; rfl
/-! code in which the regions that draw and in which no read floats run in the order of their text; of those of the list D it is told which reads float -/
abbrev Fl := List (Nat × Nat × Nat)
inductive Dr where
 | fl (l : Fl)
 | late (pls : List (List Nat)) (rest : List Nat) (l : Fl) (m : Nat)
def look (D : List (Nat × Dr)) (id : Nat) : Option Dr := match D with
 | [] => none
 | (i,fl) :: D => match Nat.beq i id with | true => some fl | false => look D id
def regionF (P : Program) (call : CallK) (n : Nat) (ops : Array Oper) (d : Option Dr) (σ : Sg) (h : Heap) (K : Sg -> Heap -> Option β) : Option β :=
 match d with
 | none => opsS P call n ops ops.toList σ h K
 | some (.late pls rest fl m) => regionLS P call n ops pls rest fl m σ h K
 | some (.fl fl) => opsDS P call n ops ops.toList σ h [] [h] fun σ h lg hs => cond (chkS P lg.reverse hs.reverse fl) (K σ h) none
def codeF (P : Program) (call : CallK) (L n : Nat) (D : List (Nat × Dr)) : Code -> Sg -> Heap -> (Ex -> Sg -> Heap -> Option β) -> Option β
 | .skip,σ,h,K => K .normal σ h
 | .label _,σ,h,K => K .normal σ h
 | .ret,σ,h,K => K .ret σ h
 | .exit id,σ,h,K => K (.exit id) σ h
 | .region id ops draw,σ,h,K => regionF P call n ops (cond draw (look D id) none) σ h fun σ h => K .normal σ h
 | .seq a b,σ,h,K => codeF P call L n D a σ h fun e σ h => match e with
  | .normal => codeF P call L n D b σ h K
  | e => K e σ h
 | .cond c a b,σ,h,K => match ev σ c with
  | .bool true => codeF P call L n D a σ h K
  | .bool false => codeF P call L n D b σ h K
  | _ => none
 | .block id c,σ,h,K => codeF P call L n D c σ h fun e σ h => match e with
  | .exit j => (match Nat.beq j id with | true => K .normal σ h | false => K (.exit j) σ h)
  | e => K e σ h
 | .loop c,σ,h,K => iterS (fun σ h K => codeF P call L n D c σ h K) L σ h K
 | .scope c,σ,h,K => codeF P call L n D c σ h K
 | _,_,_,_ => none
def flEq : Fl -> Fl -> Bool
 | [],[] => true
 | (a,b,c) :: x,(a',b',c') :: y => Nat.beq a a' && (Nat.beq b b' && (Nat.beq c c' && flEq x y))
 | _,_ => false
theorem flEq_eq : ∀ {x y : Fl},flEq x y = true -> x = y
 | [],[],_ => rfl
 | (a,b,c) :: x,(a',b',c') :: y,h => by
  simp only [flEq,Bool.and_eq_true] at h
  obtain ⟨h1,h2,h3,h4⟩ := h
  rw [Nat.eq_of_beq_eq_true h1,Nat.eq_of_beq_eq_true h2,Nat.eq_of_beq_eq_true h3,flEq_eq h4]
 | [],_ :: _,h => by cases h
 | _ :: _,[],h => by cases h
def nEq : List Nat -> List Nat -> Bool
 | [],[] => true
 | a :: x,b :: y => Nat.beq a b && nEq x y
 | _,_ => false
theorem nEq_eq : ∀ {x y : List Nat},nEq x y = true -> x = y
 | [],[],_ => rfl
 | a :: x,b :: y,h => by
  simp only [nEq,Bool.and_eq_true] at h
  rw [Nat.eq_of_beq_eq_true h.1,nEq_eq h.2]
 | [],_ :: _,h => by cases h
 | _ :: _,[],h => by cases h
def nsEq : List (List Nat) -> List (List Nat) -> Bool
 | [],[] => true
 | a :: x,b :: y => nEq a b && nsEq x y
 | _,_ => false
theorem nsEq_eq : ∀ {x y : List (List Nat)},nsEq x y = true -> x = y
 | [],[],_ => rfl
 | a :: x,b :: y,h => by
  simp only [nsEq,Bool.and_eq_true] at h
  rw [nEq_eq h.1,nsEq_eq h.2]
 | [],_ :: _,h => by cases h
 | _ :: _,[],h => by cases h
def flatOk (P : Program) (D : List (Nat × Dr)) : Code -> Bool
 | .region id ops draw => !draw || (match look D id with
  | some (.late pls rest fl m) => !drawOk P ops && (drawOkL P ops && (flEq (floatsL P ops) fl && (nsEq (placesAll P ops) pls && (nEq (restL P ops) rest && Nat.beq ops.size m))))
  | some (.fl fl) => drawOk P ops && flEq (floats P ops) fl
  | none => drawOk P ops && flEq (floats P ops) [])
 | .seq a b => flatOk P D a && flatOk P D b
 | .cond _ a b => flatOk P D a && flatOk P D b
 | .block _ c => flatOk P D c
 | .loop c => flatOk P D c
 | .scope c => flatOk P D c
 | _ => true
theorem opE_flat {call : CallK} {ρ : Operand -> AV} {o : Oper} {h h' : Heap} {v : AV} (hx : isX (cls P o) = false) (e : opE P call ρ o h = some (v,h')) : h' = h := by
 unfold opE opK at e
 cases hc : cls P o with
 | a => rw [hc] at hx; cases hx
 | e => rw [hc] at hx; cases hx
 | p =>
  simp only [hc,pureK_E] at e
  cases h1 : pureE P ρ o with
  | none => rw [h1] at e; cases e
  | some v => rw [h1] at e; cases e; rfl
 | r =>
  simp only [hc,readK_E] at e
  cases h1 : readE P ρ o h with
  | none => rw [h1] at e; cases e
  | some v => rw [h1] at e; cases e; rfl
theorem opsDS_flat {call : CallK} {n : Nat} {ops : Array Oper} : ∀ (l : List Oper) (σ : Sg) (h : Heap) (lg : List (Option LogS)) (hs : List Heap) (K : Sg -> Heap -> Option β),opsDS P call n ops l σ h lg hs (fun σ h _ _ => K σ h) = opsS P call n ops l σ h K
 | [],_,_,_,_,_ => rfl
 | o :: r,σ,h,lg,hs,K => by
  simp only [opsDS,opsS]
  cases wantS ops σ o with
  | false => simp only [opsDS_flat r]
  | true =>
   simp only
   cases he : opE P call (ev σ) o h with
   | none => rfl
   | some p =>
    obtain ⟨v,h'⟩ := p
    simp only
    cases fitsD n o.dst with
    | false => rfl
    | true =>
     cases hx : isX (cls P o) with
     | true => simp only [opsDS_flat r]
     | false => simp only [opsDS_flat r,opE_flat hx he]
theorem regionS_flat {call : CallK} {n : Nat} {ops : Array Oper} (hd : drawOk P ops = true) (hf : (floats P ops).isEmpty = true) (σ : Sg) (h : Heap) (K : Sg -> Heap -> Option β) : regionS P call n ops true σ h K = regionS P call n ops false σ h K := by
 have hf : floats P ops = [] := by simpa using hf
 simp only [regionS,hd,hf,chkS,cond_true]
 exact opsDS_flat ..
theorem codeS_F {call : CallK} {L n : Nat} {D : List (Nat × Dr)} : ∀ (c : Code),flatOk P D c = true -> ∀ (σ : Sg) (h : Heap) (K : Ex -> Sg -> Heap -> Option β),codeS P call L n c σ h K = codeF P call L n D c σ h K := by
 intro c
 induction c with
 | region id ops draw =>
  intro hf σ h K
  simp only [codeS,codeF]
  cases draw with
  | false => rfl
  | true =>
   simp only [flatOk,Bool.not_true,Bool.false_or] at hf
   simp only [cond_true]
   cases hD : look D id with
   | some d =>
    rw [hD] at hf
    cases d with
    | fl fl =>
     simp only [Bool.and_eq_true] at hf
     have h2 := flEq_eq hf.2
     simp only [regionS,regionF,hf.1,h2]
    | late pls rest fl m =>
     simp only [Bool.and_eq_true,Bool.not_eq_true'] at hf
     obtain ⟨h1,h2,h3,h4,h5,h6⟩ := hf
     simp only [regionS,regionF,h1,h2,flEq_eq h3,nsEq_eq h4,nEq_eq h5,Nat.eq_of_beq_eq_true h6]
   | none =>
    rw [hD] at hf
    simp only [Bool.and_eq_true] at hf
    exact regionS_flat hf.1 (by rw [flEq_eq hf.2]; rfl) ..
 | seq a b iha ihb =>
  intro hf σ h K
  simp only [flatOk,Bool.and_eq_true] at hf
  simp only [codeS,codeF,iha hf.1,ihb hf.2]
 | cond c a b iha ihb =>
  intro hf σ h K
  simp only [flatOk,Bool.and_eq_true] at hf
  simp only [codeS,codeF,iha hf.1,ihb hf.2]
 | block id c ih => intro hf σ h K; simp only [codeS,codeF,ih hf]
 | loop c ih =>
  intro hf σ h K
  have : (fun σ h (K : Ex -> Sg -> Heap -> Option β) => codeS P call L n c σ h K) = fun σ h K => codeF P call L n D c σ h K := by funext σ h K; exact ih hf σ h K
  simp only [codeS,codeF,this]
 | scope c ih => intro hf σ h K; simp only [codeS,codeF,ih hf]
 | _ => intros; rfl
/-! calls -/
def argS (args : List AV) : Sg := fun t => args.getD t undefA
def resE (P : Program) (σ : Sg) (h : Heap) : List ResultVar -> Option (List AV)
 | [] => some []
 | .tmp t :: rs => th (okv (σ t)) fun v => th (resE P σ h rs) fun vs => some (v :: vs)
 | .cell a t :: rs => th (loadE P h t (σ a)) fun v => th (resE P σ h rs) fun vs => some (v :: vs)
def oneV : List AV -> AV
 | [v] => v
 | vs => .tup vs
theorem resK_S {fr : Fr} {σ : Sg} (ha : Agree fr σ) (h : Heap) : ∀ (rs : List ResultVar) (K : List AV -> Option β),resK P fr h rs K = th (resE P σ h rs) K
 | [],K => rfl
 | .tmp t :: rs,K => by
  simp only [resK,resE,fK_E,ha t,th_th]
  exact th_congr _ fun v => by rw [resK_S ha h rs]; rfl
 | .cell a t :: rs,K => by
  simp only [resK,resE,loadK_E,ha a,th_th]
  exact th_congr _ fun v => by rw [resK_S ha h rs]; rfl
def finS (P : Program) (rs : List ResultVar) : Ex -> Sg -> Heap -> Option (AV × Heap)
 | .exit _,_,_ => none
 | _,σ,h => th (resE P σ h rs) fun vs => some (oneV vs,h)
theorem enterK_S : ∀ (vs : List AV) (i : Nat) (fr : Fr) (σ : Sg) (K : Fr -> Option β) (K' : Sg -> Option β),Agree fr σ -> (∀ fr' σ',Agree fr' σ' -> K fr' = K' σ') -> enterK i vs fr K = K' fun t => if i <= t /\ t < i + vs.length then vs.getD (t - i) undefA else σ t
 | [],i,fr,σ,K,K',ha,hK => by
  rw [enterK]
  refine hK _ _ fun t => ?_
  rw [if_neg (by simp only [List.length_nil]; omega)]; exact ha t
 | v :: vs,i,fr,σ,K,K',ha,hK => by
  simp only [enterK,setK_eq]
  have h1 : Agree (Tr.set (some v) (pth i) fr) (upd σ i v) := fun t => by
   by_cases ht : t = i
   ·subst ht; rw [eval_tmp,get_set_same]; simp [upd]
   ·rw [eval_tmp,get_set_ne _ (fun e => ht (pth_inj e)),<- eval_tmp,ha t]; simp [upd,ht]
  rw [enterK_S vs (i + 1) _ _ K K' h1 hK]
  congr 1
  funext t
  by_cases ht : t = i
  ·subst ht; rw [if_neg (by omega),if_pos (by simp)]; simp [upd]
  ·by_cases h2 : i + 1 <= t /\ t < i + 1 + vs.length
   ·rw [if_pos h2,if_pos (by simp; omega),show t - i = (t - (i + 1)) + 1 by omega]; rfl
   ·rw [if_neg h2,if_neg (by simp; omega)]; simp [upd,ht]
theorem callD_S {E : Env} {d : Nat} {f : FuncId} {fn : Func} {c : Code} {args : List AV} {h : Heap} (ho : E.ora f = none) (hf : E.P.funcs[f]? = some fn) (hb : fn.body = some c) (hl : args.length <= fn.ntmps) :
  callD E (d + 1) f args h = codeS E.P (callD E d) E.L fn.ntmps c (argS args) h (finS E.P fn.results.toList) := by
 have hf : E.P.funcs.toList[f]? = some fn := by simpa using hf
 simp only [callD,ho,hf,hb,llen_eq,Nat.zero_add,Nat.ble_eq_true_of_le hl]
 rw [enterK_S args 0 .leaf (fun _ => undefA) _ (fun σ => codeS E.P (callD E d) E.L fn.ntmps c σ h (finS E.P fn.results.toList)) (fun t => by rw [eval_tmp]; simp [get_leaf])]
 ·congr 1
  funext t
  simp only [argS,Nat.zero_le,true_and,Nat.zero_add,Nat.sub_zero]
  split
  ·rfl
  ·rename_i ht
   rw [List.getD_eq_getElem?_getD,List.getElem?_eq_none (by omega)]; rfl
 ·intro fr σ ha
  refine codeK_S c ha fun e fr' σ' h' ha' => ?_
  have fin : ∀ {K : List AV -> Option (AV × Heap)},(∀ vs,K vs = some (oneV vs,h')) -> resK E.P fr' h' fn.results.toList K = th (resE E.P σ' h' fn.results.toList) fun vs => some (oneV vs,h') := by
   intro K hK
   rw [resK_S ha']
   exact th_congr _ hK
  cases e with
  | exit j => rfl
  | normal => exact fin fun vs => by cases vs with | nil => rfl | cons v r => cases r <;> rfl
  | ret => exact fin fun vs => by cases vs with | nil => rfl | cons v r => cases r <;> rfl
end Go.Aw
