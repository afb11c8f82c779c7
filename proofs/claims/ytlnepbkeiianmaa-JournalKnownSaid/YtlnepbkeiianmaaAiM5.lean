/- Regions whose made blocks stand in no order to their effects; the whole. No program. No condition but those in the theorems. -/
import Derived.Test.YtlnepbkeiianmaaAiM4
import Derived.ProofKit
import Derived.ChangeSame
import Derived.Below
import Derived.KernelRfl
import GoSem.Extern.Table
namespace Go.Ai
open Go
set_option linter.unusedSimpArgs false
variable {P : Program} {β : Type}
/-! steps of the memory relation for blocks with numbers of their own -/
theorem keepK_eq (h : Heap) (m : Nat) (K : Nat -> Heap -> β) : h.keepK m K = K h.next ⟨h.next + m,h.t⟩ := by
 unfold Heap.keepK
 simp only [fN_eq]
theorem Stp.keep {ρ : Ren} {h : Heap} {w : World} (r : HRel ρ h w) (m : Nat) : Stp ρ h w ρ ⟨h.next + m,h.t⟩ w :=
 ⟨Ext.refl _,⟨r.blk,fun k hk => r.new k (Nat.le_trans (Nat.le_add_right _ _) hk),r.inj⟩,rfl,rfl,rfl,Nat.le_refl _,fun _ _ _ => rfl,fun _ h _ => h,Nat.le_add_right _ _,fun k b l g e _ => ⟨k,b,l,g,e,rfl⟩,fun _ _ => rfl⟩
theorem Stp.far {ρ₀ ρ : Ren} {h₀ h : Heap} {w₀ w w' : World} {o : Obj} {q : Nat} (s : Stp ρ₀ h₀ w₀ ρ h w) (h1 : h₀.next <= q) (h2 : q < h.next) (h3 : ρ q = none) (hw : w'.heap = w.heap.push o) (ht : w'.tape = w.tape) (hos : w'.os = w.os) (ho : w'.output = w.output) :
  Stp ρ₀ h₀ w₀ (ρ.add q ⟨w.heap.size,0,0⟩) h w' := by
 have he : Ext ρ (ρ.add q ⟨w.heap.size,0,0⟩) := Ren.ext_add _ h3
 have hold : ∀ k,k < w.heap.size -> w'.heap[k]? = w.heap[k]? := fun k hk => by
  rw [hw,Array.getElem?_push,if_neg (by omega)]
 have hne : ∀ {k b},h.get k = some b -> k ≠ q := by
  rintro k b g rfl
  obtain ⟨l,e,_⟩ := s.rel.blk _ _ g
  rw [h3] at e; cases e
 have hsz : w.heap.size <= w'.heap.size := by rw [hw]; simp
 refine ⟨s.ext.trans he,⟨?_, ?_, ?_⟩,hos.trans s.os,ht.trans s.tape,ho.trans s.output,Nat.le_trans s.size hsz,fun b hb no => (hold b (Nat.lt_of_lt_of_le hb s.size)).trans (s.frm b hb no), ?_,s.nxt, ?_, ?_⟩
 ·intro k c g
  obtain ⟨l,e1,e2⟩ := s.rel.blk k c g
  exact ⟨l,he _ _ e1,e2.mono he (hold _ e2.lt)⟩
 ·intro k hk
  rw [Ren.add_ne _ _ (by omega)]
  exact s.rel.new _ hk
 ·intro k j c d l m g1 g2 e1 e2
  rw [Ren.add_ne _ _ (hne g1)] at e1
  rw [Ren.add_ne _ _ (hne g2)] at e2
  exact s.rel.inj k j c d l m g1 g2 e1 e2
 ·rintro b ⟨k,c,l,g,hrw,e,hb⟩ hlt
  rw [Ren.add_ne _ _ (hne g)] at e
  exact s.own b ⟨k,c,l,g,hrw,e,hb⟩ hlt
 ·intro k c l g e hlt
  rw [Ren.add_ne _ _ (hne g)] at e
  exact s.old k c l g e hlt
 ·intro k hk
  rw [Ren.add_ne _ _ (by omega)]
  exact s.low k hk
theorem Stp.lay {ρ₀ ρ : Ren} {h₀ h : Heap} {w₀ w : World} {q : Nat} {l : Loc} {b : Blk} (s : Stp ρ₀ h₀ w₀ ρ h w) (h1 : ρ q = some l) (h2 : BlkRel ρ w l b) (h3 : w₀.heap.size <= l.blk) (h4 : ¬ Seen ρ h l.blk) :
  Stp ρ₀ h₀ w₀ ρ (h.put q (some b)) w := by
 have hg : ∀ {k c m},(h.put q (some b)).get k = some c -> ρ k = some m -> (k = q /\ c = b /\ m = l) \/ (k ≠ q /\ h.get k = some c /\ m.blk ≠ l.blk) := by
  intro k c m g e
  by_cases hk : k = q
  ·subst hk
   rw [put_same] at g; cases g
   rw [h1] at e; cases e
   exact .inl ⟨rfl,rfl,rfl⟩
  ·rw [put_ne _ _ hk] at g
   exact .inr ⟨hk,g,fun z => h4 ⟨k,c,m,g,e,z⟩⟩
 refine ⟨s.ext,⟨?_,s.rel.new, ?_⟩,s.os,s.tape,s.output,s.size,s.frm, ?_,s.nxt, ?_,s.low⟩
 ·intro k c g
  by_cases hk : k = q
  ·subst hk
   rw [put_same] at g; cases g
   exact ⟨l,h1,h2⟩
  ·rw [put_ne _ _ hk] at g
   exact s.rel.blk k c g
 ·intro k j c d m n g1 g2 e1 e2 hrw hne
  rcases hg g1 e1 with ⟨rfl,rfl,rfl⟩ | ⟨a1,a2,a3⟩
  ·rcases hg g2 e2 with ⟨rfl,_,_⟩ | ⟨b1,b2,b3⟩
   ·exact absurd rfl hne
   ·exact fun z => b3 z.symm
  ·rcases hg g2 e2 with ⟨rfl,rfl,rfl⟩ | ⟨b1,b2,b3⟩
   ·exact a3
   ·exact s.rel.inj k j c d m n a2 b2 e1 e2 hrw hne
 ·rintro c ⟨k,d,m,g,hrw,e,rfl⟩ hlt
  rcases hg g e with ⟨rfl,rfl,rfl⟩ | ⟨a1,a2,a3⟩
  ·omega
  ·exact s.own _ ⟨k,d,m,a2,hrw,e,rfl⟩ hlt
 ·intro k d m g e hlt
  rcases hg g e with ⟨rfl,rfl,rfl⟩ | ⟨a1,a2,a3⟩
  ·omega
  ·exact s.old k d m a2 e hlt
theorem seen_lay {ρ : Ren} {h : Heap} {q : Nat} {l : Loc} {b : Blk} (h1 : ρ q = some l) {c : Nat} (hs : Seen ρ (h.put q (some b)) c) : c = l.blk \/ Seen ρ h c := by
 obtain ⟨k,d,m,g,e,rfl⟩ := hs
 by_cases hk : k = q
 ·subst hk
  rw [h1] at e; cases e
  exact .inl rfl
 ·rw [put_ne _ _ hk] at g
  exact .inr ⟨k,d,m,g,e,rfl⟩
def layH (base : Nat) (bl : Nat -> Option Blk) : List Nat -> Heap -> Heap
 | [],h => h
 | i :: r,h => layH base bl r (match bl i with | some b => h.put (base + i) (some b) | none => h)
theorem layK_eq {base : Nat} {pd : List (Nat × Blk)} {bl : Nat -> Option Blk} : ∀ (l : List Nat) (h : Heap) (K : Heap -> Option β),(∀ q ∈ l,findP pd q = bl q) -> layK base pd l h K = K (layH base bl l h)
 | [],_,_,_ => rfl
 | i :: r,h,K,hb => by
  simp only [layK,layH,hb i (by simp)]
  cases bl i with
  | none => exact layK_eq r h K fun q hq => hb q (by simp [hq])
  | some b =>
   simp only [fN_eq,hputK_eq]
   exact layK_eq r _ K fun q hq => hb q (by simp [hq])
theorem layH_next {base : Nat} {bl : Nat -> Option Blk} : ∀ (l : List Nat) (h : Heap),(layH base bl l h).next = h.next
 | [],_ => rfl
 | i :: r,h => by
  rw [layH,layH_next r]
  cases bl i <;> rfl
theorem layH_congr {base : Nat} {bl bl' : Nat -> Option Blk} : ∀ (l : List Nat) (h : Heap),(∀ q ∈ l,bl q = bl' q) -> layH base bl l h = layH base bl' l h
 | [],_,_ => rfl
 | i :: r,h,hb => by
  rw [layH,layH,hb i (by simp),layH_congr r _ fun q hq => hb q (by simp [hq])]
namespace L
structure DrawOk (P : Program) (ops : Array Oper) : Prop where
 edge : ∀ (i : Nat) (o : Oper),ops[i]? = some o -> ∀ e ∈ o.after,Region.binds .any e = true -> e.on < i
 ord : ∀ (i j : Nat) (x y : Oper),ops[i]? = some x -> ops[j]? = some y -> i < j -> touch ops x y = true \/ (isF (cls P x) = true /\ isF (cls P y) = true) -> ((masks ops).getD j 0).testBit i = true
theorem drawOk_spec {ops : Array Oper} (h : drawOkL P ops = true) : DrawOk P ops := by
 unfold drawOkL at h
 simp only [Bool.and_eq_true,List.all_eq_true] at h
 obtain ⟨h1,h2⟩ := h
 refine ⟨fun i o ho e he hb => ?_,fun i j x y hx hy hij ht => ?_⟩
 ·have := h1 (o,i) (mem_zipIdx ho) e (Array.mem_toList_iff.2 he)
  simpa [hb] using this
 ·have := h2 (y,j) (mem_zipIdx hy) (x,i) (mem_zipIdx hx)
  rcases ht with ht | ⟨c1,c2⟩ <;> simp_all
/-! the run in the text's order,laid open -/
def cntX (P : Program) (l : List Oper) (q : Nat) : Nat := (l.take q).countP fun o => isF (cls P o)
structure StepAt (P : Program) (call : CallK) (n : Nat) (ops : Array Oper) (base : Nat) (pls : List (List Nat)) (bl : Nat -> Option Blk) (fs : Nat -> Fr) (hp : Nat -> Heap) (vs : Nat -> AV) (j : Nat) (o : Oper) : Prop where
 al : cls P o = .a -> hp (j + 1) = hp j /\ (wantA ops (fs j) o = true -> ∃ b,bl j = some b /\ (allocK P (fs j).eval o fun b mk => fN (base + j) fun q => (mk q).fK fun v => some (b,v)) = some (b,vs j)) /\ (wantA ops (fs j) o = false -> vs j = undefA /\ bl j = none)
 ef : cls P o = .e -> (wantA ops (fs j) o = true -> opK P call (fs j).eval o (layH base bl ((pls[j]?).getD []) (hp j)) (fun v h => some (v,h)) = some (vs j,hp (j + 1))) /\ (wantA ops (fs j) o = false -> vs j = undefA /\ hp (j + 1) = layH base bl ((pls[j]?).getD []) (hp j))
 pl : cls P o = .p \/ cls P o = .r -> hp (j + 1) = hp j /\ (wantA ops (fs j) o = true -> ∃ h',opK P call (fs j).eval o (hp j) (fun v h => some (v,h)) = some (vs j,h')) /\ (wantA ops (fs j) o = false -> vs j = undefA)
 put : ∀ t,(fs (j + 1)).eval (.tmp t) = if o.dst = some t then vs j else (fs j).eval (.tmp t)
 lt : ∀ t,o.dst = some t -> t < n
def logOf (P : Program) (ops : Array Oper) (fs : Nat -> Fr) (vs : Nat -> AV) (j : Nat) (o : Oper) : Option Log :=
 if wantA ops (fs j) o = true /\ isR (cls P o) = true then some ⟨o,fs j,vs j⟩ else none
theorem findP_cons {pd : List (Nat × Blk)} {i q : Nat} {b : Blk} : findP ((i,b) :: pd) q = if i = q then some b else findP pd q := by
 simp only [findP]
 split
 ·rename_i h; rw [if_pos (Nat.eq_of_beq_eq_true h)]
 ·rename_i h; rw [if_neg (Nat.ne_of_beq_eq_false h)]
theorem opsLK_trace {call : CallK} {n : Nat} {ops : Array Oper} {base : Nat} {pls : List (List Nat)} (hpl : ∀ (j q : Nat),q ∈ (pls[j]?).getD [] -> q < j) : ∀ (l : List Oper) {i : Nat} {fr : Fr} {h : Heap} {pd : List (Nat × Blk)} {lg : List (Option Log)} {tl : List Heap} {K : Fr -> Heap -> List (Nat × Blk) -> List (Option Log) -> List Heap -> Option β} {r : β},
  (∀ q,i <= q -> findP pd q = none) -> opsLK P call n ops base pls i l fr h pd lg (h :: tl) K = some r ->
  ∃ (fs : Nat -> Fr) (hp : Nat -> Heap) (vs : Nat -> AV) (pd' : List (Nat × Blk)) (lg' : List (Option Log)) (ex : List Heap),fs i = fr /\ hp i = h /\ (∀ q,q < i -> findP pd' q = findP pd q) /\
   (∀ j o,l[j]? = some o -> StepAt P call n ops base pls (findP pd') fs hp vs (i + j) o) /\
   K (fs (i + l.length)) (hp (i + l.length)) pd' (lg' ++ lg) (ex ++ h :: tl) = some r /\ (lg'.length = l.length /\ ∀ j o,l[j]? = some o -> lg'.reverse[j]? = some (logOf P ops fs vs (i + j) o)) /\
   (∀ q,q <= l.length -> (ex ++ h :: tl).reverse[tl.length + cntX P l q]? = some (hp (i + q)))
 | [],i,fr,h,pd,lg,tl,K,r,hn,hk => by
  refine ⟨fun _ => fr,fun _ => h,fun _ => undefA,pd,[],[],rfl,rfl,fun _ _ => rfl,by simp,hk,by simp, ?_⟩
  intro q hq
  have : q = 0 := by simpa using hq
  subst this
  simp [cntX]
 | o :: l,i,fr,h,pd,lg,tl,K,r,hn,hk => by
  have main : ∀ (v : AV) (h' : Heap) (fr' : Fr) (pd1 : List (Nat × Blk)) (w : Bool),wantA ops fr o = w -> (∀ q,i + 1 <= q -> findP pd1 q = none) -> (∀ q,q < i -> findP pd1 q = findP pd q) ->
    (cls P o = .a -> h' = h /\ (w = true -> ∃ b,findP pd1 i = some b /\ (allocK P fr.eval o fun b mk => fN (base + i) fun q => (mk q).fK fun v => some (b,v)) = some (b,v)) /\ (w = false -> v = undefA /\ findP pd1 i = none)) ->
    (cls P o = .e -> (w = true -> opK P call fr.eval o (layH base (findP pd) ((pls[i]?).getD []) h) (fun v h => some (v,h)) = some (v,h')) /\ (w = false -> v = undefA /\ h' = layH base (findP pd) ((pls[i]?).getD []) h)) ->
    (cls P o = .p \/ cls P o = .r -> h' = h /\ (w = true -> ∃ h',opK P call fr.eval o h (fun v h => some (v,h)) = some (v,h')) /\ (w = false -> v = undefA)) ->
    (∀ t,fr'.eval (.tmp t) = if o.dst = some t then v else fr.eval (.tmp t)) -> (∀ t,o.dst = some t -> t < n) ->
    opsLK P call n ops base pls (i + 1) l fr' h' pd1 ((if w = true /\ isR (cls P o) = true then some ⟨o,fr,v⟩ else none) :: lg) (if isF (cls P o) = true then h' :: h :: tl else h' :: tl) K = some r ->
    ∃ (fs : Nat -> Fr) (hp : Nat -> Heap) (vs : Nat -> AV) (pd' : List (Nat × Blk)) (lg' : List (Option Log)) (ex : List Heap),fs i = fr /\ hp i = h /\ (∀ q,q < i -> findP pd' q = findP pd q) /\
   (∀ j o',(o :: l)[j]? = some o' -> StepAt P call n ops base pls (findP pd') fs hp vs (i + j) o') /\
   K (fs (i + (o :: l).length)) (hp (i + (o :: l).length)) pd' (lg' ++ lg) (ex ++ h :: tl) = some r /\ (lg'.length = (o :: l).length /\ ∀ j o',(o :: l)[j]? = some o' -> lg'.reverse[j]? = some (logOf P ops fs vs (i + j) o')) /\
   (∀ q,q <= (o :: l).length -> (ex ++ h :: tl).reverse[tl.length + cntX P (o :: l) q]? = some (hp (i + q))) := by
   intro v h' fr' pd1 w hw hn1 hlow ha he hpp hput hlt hk
   have hX : isF (cls P o) = false -> h' = h := by
    intro c
    cases hc : cls P o with
    | a => exact (ha hc).1
    | e => rw [hc] at c; cases c
    | p => exact (hpp (.inl hc)).1
    | r => exact (hpp (.inr hc)).1
   obtain ⟨tl',htl,htl2⟩ : ∃ tl',(if isF (cls P o) = true then h' :: h :: tl else h' :: tl) = h' :: tl' /\ ((isF (cls P o) = true /\ tl' = h :: tl) \/ (isF (cls P o) = false /\ tl' = tl)) := by
    cases hc : isF (cls P o)
    ·exact ⟨tl,by simp, .inr ⟨rfl,rfl⟩⟩
    ·exact ⟨h :: tl,by simp, .inl ⟨rfl,rfl⟩⟩
   rw [htl] at hk
   obtain ⟨fs,hp,vs,pd',lg',ex,f0,p0,low,st,hK,⟨ll,hl⟩,hq⟩ := opsLK_trace hpl l hn1 hk
   have bl_i : findP pd' i = findP pd1 i := low i (by omega)
   have lay_eq : layH base (findP pd') ((pls[i]?).getD []) h = layH base (findP pd) ((pls[i]?).getD []) h := layH_congr _ _ fun q hq => by
    have := hpl i q hq
    rw [low q (by omega),hlow q this]
   have nei : ∀ j,i + (j + 1) = i + 1 + j := fun j => by omega
   refine ⟨fun q => if q = i then fr else fs q,fun q => if q = i then h else hp q,fun q => if q = i then v else vs q,pd',lg' ++ [if w = true /\ isR (cls P o) = true then some ⟨o,fr,v⟩ else none],
    ex ++ (if isF (cls P o) = true then [h'] else []),by simp,by simp,fun q hq => by rw [low q (by omega),hlow q hq], ?_, ?_,⟨by simp [ll], ?_⟩, ?_⟩
   ·intro j o' hj
    cases j with
    | zero =>
     simp at hj; subst hj
     have e1 : i + 1 ≠ i := by omega
     refine ⟨fun c => ?_,fun c => ?_,fun c => ?_,fun t => ?_,hlt⟩
     ·obtain ⟨a1,a2,a3⟩ := ha c
      simp only [Nat.add_zero,if_true,if_neg e1,p0]
      rw [hw,bl_i]
      exact ⟨a1,a2,a3⟩
     ·simp only [Nat.add_zero,if_true,if_neg e1,p0]
      rw [hw,lay_eq]
      exact he c
     ·simp only [Nat.add_zero,if_true,if_neg e1,p0]
      rw [hw]
      exact hpp c
     ·simp only [Nat.add_zero,if_true,if_neg e1,f0]
      exact hput t
    | succ j =>
     have := st j o' (by simpa using hj)
     rw [nei j]
     have e1 : i + 1 + j ≠ i := by omega
     have e2 : i + 1 + j + 1 ≠ i := by omega
     refine ⟨?_, ?_, ?_, ?_,this.lt⟩
     ·simp only [if_neg e1,if_neg e2]; exact this.al
     ·simp only [if_neg e1,if_neg e2]; exact this.ef
     ·simp only [if_neg e1,if_neg e2]; exact this.pl
     ·simp only [if_neg e1,if_neg e2]; exact this.put
   ·simp only [List.length_cons,List.append_assoc,List.singleton_append]
    have e : ex ++ ((if isF (cls P o) = true then [h'] else []) ++ h :: tl) = ex ++ h' :: tl' := by
     rcases htl2 with ⟨c,rfl⟩ | ⟨c,rfl⟩
     ·simp [c]
     ·simp [c,hX c]
    have e1 : i + (l.length + 1) ≠ i := by omega
    rw [if_neg e1,if_neg e1,e,show i + (l.length + 1) = i + 1 + l.length by omega]
    exact hK
   ·intro j o' hj
    simp only [List.reverse_append,List.reverse_cons,List.reverse_nil,List.nil_append,List.singleton_append]
    cases j with
    | zero =>
     simp at hj; subst hj
     simp [logOf,hw]
    | succ j =>
     rw [List.getElem?_cons_succ,hl j o' (by simpa using hj),nei j]
     have e2 : i + 1 + j = i ↔ False := ⟨fun h => by omega,fun h => h.elim⟩
     simp only [logOf,e2,if_false]
   ·intro q hqle
    simp only [List.append_assoc]
    have e : ex ++ ((if isF (cls P o) = true then [h'] else []) ++ h :: tl) = ex ++ h' :: tl' := by
     rcases htl2 with ⟨c,rfl⟩ | ⟨c,rfl⟩
     ·simp [c]
     ·simp [c,hX c]
    rw [e]
    cases q with
    | zero =>
     simp only [cntX,List.take_zero,List.countP_nil,Nat.add_zero,if_true]
     rcases htl2 with ⟨c,rfl⟩ | ⟨c,rfl⟩
     ·simp only [List.reverse_append,List.reverse_cons,List.append_assoc]
      rw [List.getElem?_append_right (by simp)]
      simp
     ·simp only [List.reverse_append,List.reverse_cons,List.append_assoc]
      rw [List.getElem?_append_right (by simp)]
      simp [hX c]
    | succ q =>
     have := hq q (by simpa using hqle)
     have e2 : tl.length + cntX P (o :: l) (q + 1) = tl'.length + cntX P l q := by
      simp only [cntX,List.take_succ_cons,List.countP_cons]
      rcases htl2 with ⟨c,rfl⟩ | ⟨c,rfl⟩
      ·simp [c]; omega
      ·simp [c]
     have e1 : i + (q + 1) ≠ i := by omega
     rw [e2,if_neg e1,nei q]; exact this
  have hn' : ∀ q,i + 1 <= q -> findP pd q = none := fun q hq => hn q (by omega)
  simp only [opsLK] at hk
  cases hcl : cls P o with
  | a =>
   simp only [hcl] at hk
   split at hk
   ·rename_i hw
    split at hk
    ·rename_i b v hal
     obtain ⟨fr',hk,hput,hlt⟩ := putK_at hk
     refine main v h fr' ((i,b) :: pd) true hw (fun q hq => by rw [findP_cons,if_neg (by omega)]; exact hn' q hq) (fun q hq => by rw [findP_cons,if_neg (by omega)]) (fun _ => ⟨rfl,fun _ => ⟨b,by rw [findP_cons,if_pos rfl],hal⟩,fun c => by cases c⟩) (fun c => by rw [hcl] at c; cases c) (fun c => by rw [hcl] at c; rcases c with c | c <;> cases c) hput hlt ?_
     rw [<- hk,hcl]; rfl
    ·cases hk
   ·rename_i hw
    obtain ⟨fr',hk,hput,hlt⟩ := putK_at hk
    refine main undefA h fr' pd false hw hn' (fun _ _ => rfl) (fun _ => ⟨rfl,fun c => (by cases c),fun _ => ⟨rfl,hn i (Nat.le_refl _)⟩⟩) (fun c => by rw [hcl] at c; cases c) (fun c => by rw [hcl] at c; rcases c with c | c <;> cases c) hput hlt ?_
    rw [<- hk,hcl]; rfl
  | e =>
   simp only [hcl] at hk
   rw [layK_eq (bl := findP pd) _ _ _ (fun _ _ => rfl)] at hk
   simp only at hk
   split at hk
   ·rename_i hw
    split at hk
    ·rename_i v h' hop
     obtain ⟨fr',hk,hput,hlt⟩ := putK_at hk
     refine main v h' fr' pd true hw hn' (fun _ _ => rfl) (fun c => by rw [hcl] at c; cases c) (fun _ => ⟨fun _ => hop,fun c => by cases c⟩) (fun c => by rw [hcl] at c; rcases c with c | c <;> cases c) hput hlt ?_
     rw [<- hk,hcl]; rfl
    ·cases hk
   ·rename_i hw
    obtain ⟨fr',hk,hput,hlt⟩ := putK_at hk
    refine main undefA _ fr' pd false hw hn' (fun _ _ => rfl) (fun c => by rw [hcl] at c; cases c) (fun _ => ⟨fun c => (by cases c),fun _ => ⟨rfl,rfl⟩⟩) (fun c => by rw [hcl] at c; rcases c with c | c <;> cases c) hput hlt ?_
    rw [<- hk,hcl]; rfl
  | p =>
   simp only [hcl] at hk
   split at hk
   ·rename_i hw
    split at hk
    ·rename_i v h' hop
     obtain ⟨fr',hk,hput,hlt⟩ := putK_at hk
     refine main v h fr' pd true hw hn' (fun _ _ => rfl) (fun c => by rw [hcl] at c; cases c) (fun c => by rw [hcl] at c; cases c) (fun _ => ⟨rfl,fun _ => ⟨_,hop⟩,fun c => by cases c⟩) hput hlt ?_
     rw [<- hk,hcl]; rfl
    ·cases hk
   ·rename_i hw
    obtain ⟨fr',hk,hput,hlt⟩ := putK_at hk
    refine main undefA h fr' pd false hw hn' (fun _ _ => rfl) (fun c => by rw [hcl] at c; cases c) (fun c => by rw [hcl] at c; cases c) (fun _ => ⟨rfl,fun c => (by cases c),fun _ => rfl⟩) hput hlt ?_
    rw [<- hk,hcl]; rfl
  | r =>
   simp only [hcl] at hk
   split at hk
   ·rename_i hw
    split at hk
    ·rename_i v h' hop
     obtain ⟨fr',hk,hput,hlt⟩ := putK_at hk
     refine main v h fr' pd true hw hn' (fun _ _ => rfl) (fun c => by rw [hcl] at c; cases c) (fun c => by rw [hcl] at c; cases c) (fun _ => ⟨rfl,fun _ => ⟨_,hop⟩,fun c => by cases c⟩) hput hlt ?_
     rw [<- hk,hcl]; rfl
    ·cases hk
   ·rename_i hw
    obtain ⟨fr',hk,hput,hlt⟩ := putK_at hk
    refine main undefA h fr' pd false hw hn' (fun _ _ => rfl) (fun c => by rw [hcl] at c; cases c) (fun c => by rw [hcl] at c; cases c) (fun _ => ⟨rfl,fun c => (by cases c),fun _ => rfl⟩) hput hlt ?_
    rw [<- hk,hcl]; rfl
end L
end Go.Ai
namespace Go.Ai.L
open Go
set_option linter.unusedSimpArgs false
variable {P : Program} {β : Type}
/-! sets of operations that have come up -/
def Cl (ops : Array Oper) (S : Nat -> Bool) : Prop := ∀ j o,ops[j]? = some o -> S j = true -> ∀ e ∈ o.after,Region.binds .any e = true -> S e.on = true
theorem at_lt {ops : Array Oper} {i j : Nat} {o : Oper} (h : ops[j]? = some o) (hi : i < j) : ∃ x,ops[i]? = some x := by
 have := (Array.getElem?_eq_some_iff.1 h).1
 exact ⟨ops[i]'(by omega),Array.getElem?_eq_getElem _⟩
theorem DrawOk.mask_lt {ops : Array Oper} (D : DrawOk P ops) : ∀ (j : Nat) (o : Oper),ops[j]? = some o -> ∀ i,((masks ops).getD j 0).testBit i = true -> i < j := by
 intro j
 induction j using Nat.strongRecOn with
 | ind j ih =>
  intro o ho i hb
  obtain ⟨e,he,hbi,h⟩ := masks_bit ho hb
  have hlt := D.edge j o ho e he hbi
  rcases h with rfl | h
  ·exact hlt
  ·obtain ⟨x,hx⟩ := at_lt ho hlt
   exact Nat.lt_trans (ih _ hlt x hx i h) hlt
theorem DrawOk.closed {ops : Array Oper} (D : DrawOk P ops) {S : Nat -> Bool} (c : Cl ops S) : ∀ (j : Nat) (o : Oper),ops[j]? = some o -> (∀ e ∈ o.after,Region.binds .any e = true -> S e.on = true) -> ∀ i,((masks ops).getD j 0).testBit i = true -> S i = true := by
 intro j
 induction j using Nat.strongRecOn with
 | ind j ih =>
  intro o ho hr i hb
  obtain ⟨e,he,hbi,h⟩ := masks_bit ho hb
  have hlt := D.edge j o ho e he hbi
  rcases h with rfl | h
  ·exact hr e he hbi
  ·obtain ⟨x,hx⟩ := at_lt ho hlt
   exact ih _ hlt x hx (c _ x hx (hr e he hbi)) i h
/-! what stands in a slot,of those that have come up -/
def lastW (ops : Array Oper) (vs : Nat -> AV) (v0 : AV) (S : Nat -> Bool) (t : Tmp) : Nat -> AV
 | 0 => v0
 | j + 1 => if S j = true /\ (ops[j]?).bind (·.dst) = some t then vs j else lastW ops vs v0 S t j
theorem lastW_eq {ops : Array Oper} {vs : Nat -> AV} {v0 : AV} {S S' : Nat -> Bool} {t : Tmp} : ∀ {m : Nat},(∀ j,j < m -> (ops[j]?).bind (·.dst) = some t -> S j = S' j) -> lastW ops vs v0 S t m = lastW ops vs v0 S' t m
 | 0,_ => rfl
 | m + 1,h => by
  simp only [lastW]
  rw [lastW_eq fun j hj => h j (by omega)]
  by_cases hd : (ops[m]?).bind (·.dst) = some t
  ·rw [h m (by omega) hd]
  ·simp [hd]
theorem lastW_above {ops : Array Oper} {vs : Nat -> AV} {v0 : AV} {S : Nat -> Bool} {t : Tmp} {i : Nat} : ∀ {m : Nat},i <= m -> (∀ j,i <= j -> j < m -> (ops[j]?).bind (·.dst) = some t -> S j = false) -> lastW ops vs v0 S t m = lastW ops vs v0 S t i
 | 0,h,_ => by rw [Nat.le_zero.1 h]
 | m + 1,h,hh => by
  by_cases he : i = m + 1
  ·rw [he]
  ·simp only [lastW]
   rw [if_neg,lastW_above (by omega) fun j h1 h2 => hh j h1 (by omega)]
   rintro ⟨h1,h2⟩
   rw [hh m (by omega) (by omega) h2] at h1
   cases h1
structure Trc (P : Program) (call : CallK) (n : Nat) (ops : Array Oper) (base : Nat) (bl : Nat -> Option Blk) (fs : Nat -> Fr) (hp : Nat -> Heap) (vs : Nat -> AV) : Prop where
 ok : DrawOk P ops
 st : ∀ j o,ops[j]? = some o -> StepAt P call n ops base (placesAll P ops) bl fs hp vs j o
 read : ∀ i o,ops[i]? = some o -> isR (cls P o) = true -> wantA ops (fs i) o = true -> ∀ k,k <= ops.size -> loL P ops i <= cntX P ops.toList k -> cntX P ops.toList k <= hiL P ops i ->
  hp k = hp i \/ ∃ v0 h0,readK P (fs i).eval o (hp k) (fun v => some (v,hp k)) = some (v0,h0) /\ (vs i).same v0 = true
theorem Trc.flat {call : CallK} {n : Nat} {ops : Array Oper} {base : Nat} {bl : Nat -> Option Blk} {fs : Nat -> Fr} {hp : Nat -> Heap} {vs : Nat -> AV} (T : Trc P call n ops base bl fs hp vs) (j : Nat) (o : Oper) (ho : ops[j]? = some o) (hx : isF (cls P o) = false) : hp (j + 1) = hp j := by
 have s := T.st j o ho
 cases hc : cls P o with
 | a => exact (s.al hc).1
 | e => rw [hc] at hx; cases hx
 | p => exact (s.pl (.inl hc)).1
 | r => exact (s.pl (.inr hc)).1
variable {call : CallK} {n : Nat} {ops : Array Oper} {base : Nat} {bl : Nat -> Option Blk} {fs : Nat -> Fr} {hp : Nat -> Heap} {vs : Nat -> AV}
theorem Trc.all (T : Trc P call n ops base bl fs hp vs) (t : Tmp) : ∀ m,m <= ops.size -> lastW ops vs ((fs 0).eval (.tmp t)) (fun _ => true) t m = (fs m).eval (.tmp t)
 | 0,_ => rfl
 | m + 1,h => by
  have ho : ops[m]? = some (ops[m]'(by omega)) := Array.getElem?_eq_getElem _
  simp only [lastW,ho,Option.bind_some,true_and]
  rw [(T.st m _ ho).put t,T.all t m (by omega)]
def vAt (ops : Array Oper) (fs : Nat -> Fr) (vs : Nat -> AV) (S : Nat -> Bool) (t : Tmp) : AV := lastW ops vs ((fs 0).eval (.tmp t)) S t ops.size
def Names (ops : Array Oper) (o : Oper) (t : Tmp) : Prop := namesA ops o t = true
theorem names_dst {o : Oper} {t : Tmp} (h : o.dst = some t) : Names ops o t := by simp [Names,namesA,h]
theorem names_guard {o : Oper} {t : Tmp} (h : guardTmp ops o = some t) : Names ops o t := by simp [Names,namesA,h]
theorem names_op {o : Oper} {t : Tmp} (h : Operand.tmp t ∈ o.op.operands) : Names ops o t := by
 simp only [Names,namesA,Bool.or_eq_true,List.any_eq_true]
 exact .inr ⟨.tmp t,Array.mem_toList_iff.2 h,by simp⟩
theorem touch_l {x y : Oper} {t : Tmp} (h : x.dst = some t) (g : Names ops y t) : touch ops x y = true := by
 unfold Names at g
 simp [touch,h,g]
theorem touch_r {x y : Oper} {t : Tmp} (h : y.dst = some t) (g : Names ops x t) : touch ops x y = true := by
 unfold Names at g
 simp [touch,h,g]
theorem at_dst {j : Nat} {t : Tmp} (h : (ops[j]?).bind (·.dst) = some t) : ∃ o,ops[j]? = some o /\ o.dst = some t := by
 rw [Option.bind_eq_some_iff] at h
 exact h
structure Rdy (ops : Array Oper) (S : Nat -> Bool) (i : Nat) (o : Oper) : Prop where
 at_ : ops[i]? = some o
 un : S i = false
 edge : ∀ e ∈ o.after,Region.binds .any e = true -> S e.on = true
theorem Rdy.above {S : Nat -> Bool} {i j : Nat} {o x : Oper} (D : DrawOk P ops) (c : Cl ops S) (R : Rdy ops S i o) (hx : ops[j]? = some x) (hij : i < j) (ht : touch ops o x = true \/ (isF (cls P o) = true /\ isF (cls P x) = true)) : S j = false := by
 cases hj : S j with
 | false => rfl
 | true =>
  have := D.closed c j x hx (c j x hx hj) i (D.ord i j o x R.at_ hx hij ht)
  rw [R.un] at this; cases this
theorem Rdy.below {S : Nat -> Bool} {i j : Nat} {o x : Oper} (D : DrawOk P ops) (c : Cl ops S) (R : Rdy ops S i o) (hx : ops[j]? = some x) (hij : j < i) (ht : touch ops x o = true \/ (isF (cls P x) = true /\ isF (cls P o) = true)) : S j = true :=
 D.closed c i o R.at_ R.edge j (D.ord j i x o hx R.at_ hij ht)
theorem Rdy.size {S : Nat -> Bool} {i : Nat} {o : Oper} (R : Rdy ops S i o) : i < ops.size := (Array.getElem?_eq_some_iff.1 R.at_).1
theorem Trc.slot (T : Trc P call n ops base bl fs hp vs) {S : Nat -> Bool} {i : Nat} {o : Oper} (c : Cl ops S) (R : Rdy ops S i o) {t : Tmp} (ht : Names ops o t) : vAt ops fs vs S t = (fs i).eval (.tmp t) := by
 unfold vAt
 rw [lastW_above (i := i) (Nat.le_of_lt R.size),<- T.all t i (Nat.le_of_lt R.size)]
 ·apply lastW_eq
  intro j hj hd
  obtain ⟨x,hx,hxd⟩ := at_dst hd
  exact R.below T.ok c hx hj (.inl (touch_l hxd ht))
 ·intro j h1 h2 hd
  obtain ⟨x,hx,hxd⟩ := at_dst hd
  by_cases hij : i = j
  ·subst hij; exact R.un
  ·exact R.above T.ok c hx (by omega) (.inl (touch_r hxd ht))
theorem Trc.slot_step (T : Trc P call n ops base bl fs hp vs) {S S' : Nat -> Bool} {i : Nat} {o : Oper} (c : Cl ops S) (R : Rdy ops S i o) (hS : ∀ j,S' j = if j = i then true else S j) (t : Tmp) :
  vAt ops fs vs S' t = if o.dst = some t then vs i else vAt ops fs vs S t := by
 unfold vAt
 split
 ·rename_i hd
  have hlt := R.size
  rw [lastW_above (i := i + 1) (by omega)]
  ·simp [lastW,hS,R.at_,hd]
  ·intro j h1 h2 hdj
   obtain ⟨x,hx,hxd⟩ := at_dst hdj
   rw [hS,if_neg (by omega)]
   exact R.above T.ok c hx (by omega) (.inl (touch_r hxd (names_dst hd)))
 ·rename_i hd
  apply lastW_eq
  intro j _ hdj
  rw [hS,if_neg]
  rintro rfl
  obtain ⟨x,hx,hxd⟩ := at_dst hdj
  rw [R.at_] at hx; cases hx
  exact hd hxd
/-! counting -/
theorem cnt_zip (p : Oper -> Bool) : ∀ (l : List Oper) (s q : Nat),(l.zipIdx s).countP (fun x => p x.1 && decide (x.2 < s + q)) = (l.take q).countP p
 | [],_,_ => by simp
 | o :: l,s,0 => by
  simp only [List.take_zero,List.countP_nil,Nat.add_zero]
  rw [List.countP_eq_zero]
  intro x hx
  have := List.le_snd_of_mem_zipIdx hx
  simp; omega
 | o :: l,s,q + 1 => by
  rw [List.zipIdx_cons,List.countP_cons,List.take_succ_cons,List.countP_cons]
  have := cnt_zip p l (s + 1) q
  rw [show s + (q + 1) = s + 1 + q by omega,this]
  simp [show s < s + 1 + q by omega]
theorem cntX_zip (q : Nat) : cntX P ops.toList q = (ops.toList.zipIdx).countP (fun x => isF (cls P x.1) && decide (x.2 < q)) := by
 have := cnt_zip (fun o => isF (cls P o)) ops.toList 0 q
 simp only [Nat.zero_add] at this
 exact this.symm
theorem loL_zip (i : Nat) : loL P ops i = (ops.toList.zipIdx).countP (fun x => isF (cls P x.1) && ((masks ops).getD i 0).testBit x.2) := by
 rw [List.countP_eq_length_filter]; rfl
theorem hiL_zip (i : Nat) : hiL P ops i = (ops.toList.zipIdx).countP (fun x => isF (cls P x.1) && !((masks ops).getD x.2 0).testBit i) := by
 rw [List.countP_eq_length_filter]; rfl
theorem of_zip {x : Oper × Nat} (h : x ∈ ops.toList.zipIdx) : ops[x.2]? = some x.1 := by
 have := List.mem_zipIdx_iff_getElem?.1 h
 simpa using this
structure Pend (base : Nat) (w₀ : World) (h : Heap) (ρ : Ren) (w : World) (i : Nat) (b : Blk) (l : Loc) : Prop where
 at_ : ρ (base + i) = some l
 rel : BlkRel ρ w l b
 fresh : w₀.heap.size <= l.blk
 far : ¬ Seen ρ h l.blk
def Late (P : Program) (ops : Array Oper) (k i : Nat) : Prop := ∀ j x,ops[j]? = some x -> isF (cls P x) = true -> j < k -> ((masks ops).getD j 0).testBit i = false
structure Inv (P : Program) (ops : Array Oper) (n base : Nat) (bl : Nat -> Option Blk) (fs : Nat -> Fr) (hp : Nat -> Heap) (vs : Nat -> AV) (ds : List Deferred) (ρ₀ : Ren) (h₀ : Heap) (w₀ : World) (S : Nat -> Bool) (k : Nat) (ρ : Ren) (a : Act) (w : World) : Prop where
 cl : Cl ops S
 fr : ∀ t,(vAt ops fs vs S t).den ρ = some (a.tmps.getD t undef)
 size : a.tmps.size = n
 ds : a.defers = ds
 cut : ∀ j o,ops[j]? = some o -> isF (cls P o) = true -> (S j = true ↔ j < k)
 kle : k <= ops.size
 stp : Stp ρ₀ h₀ w₀ ρ (hp k) w
 un : ∀ i o,ops[i]? = some o -> isN (cls P o) = true -> S i = false -> ρ (base + i) = none
 pend : ∀ i o,ops[i]? = some o -> isN (cls P o) = true -> S i = true -> Late P ops k i -> ∀ b,bl i = some b -> ∃ l,Pend base w₀ (hp k) ρ w i b l
 inj : ∀ i i' o o' l l',ops[i]? = some o -> ops[i']? = some o' -> isN (cls P o) = true -> isN (cls P o') = true -> S i = true -> S i' = true -> Late P ops k i -> Late P ops k i' -> bl i ≠ none -> bl i' ≠ none -> ρ (base + i) = some l -> ρ (base + i') = some l' -> i ≠ i' -> l.blk ≠ l'.blk
theorem Trc.level (T : Trc P call n ops base bl fs hp vs) : ∀ (d i : Nat),i + d <= ops.size -> (∀ j o,ops[j]? = some o -> i <= j -> j < i + d -> isF (cls P o) = false) -> hp (i + d) = hp i
 | 0,_,_,_ => rfl
 | d + 1,i,h,hh => by
  have ho : ops[i + d]? = some (ops[i + d]'(by omega)) := Array.getElem?_eq_getElem _
  rw [show i + (d + 1) = (i + d) + 1 by omega,T.flat _ _ ho (hh _ _ ho (by omega) (by omega)),T.level d i (by omega) fun j o h1 h2 h3 => hh j o h1 h2 (by omega)]
theorem Trc.level2 (T : Trc P call n ops base bl fs hp vs) {i k : Nat} (hi : i <= ops.size) (hk : k <= ops.size) (hh : ∀ j o,ops[j]? = some o -> isF (cls P o) = true -> (j < i ↔ j < k)) : hp k = hp i := by
 rcases Nat.le_total i k with h | h
 ·have := T.level (k - i) i (by omega) fun j o h1 h2 h3 => by
   cases hc : isF (cls P o) with
   | false => rfl
   | true => have := hh j o h1 hc; omega
  rwa [show i + (k - i) = k by omega] at this
 ·have := T.level (i - k) k (by omega) fun j o h1 h2 h3 => by
   cases hc : isF (cls P o) with
   | false => rfl
   | true => have := hh j o h1 hc; omega
  rw [show k + (i - k) = i by omega] at this
  exact this.symm
end Go.Ai.L
namespace Go.Ai.L
open Go
set_option linter.unusedSimpArgs false
variable {P : Program} {β : Type}
variable {call : CallK} {n : Nat} {ops : Array Oper} {base : Nat} {bl : Nat -> Option Blk} {fs : Nat -> Fr} {hp : Nat -> Heap} {vs : Nat -> AV} {ds : List Deferred} {ρ₀ : Ren} {h₀ : Heap} {w₀ : World}
theorem frames (T : Trc P call n ops base bl fs hp vs) {S S' : Nat -> Bool} {ρ : Ren} {a : Act} (cl : Cl ops S) (fr : ∀ t,(vAt ops fs vs S t).den ρ = some (a.tmps.getD t undef)) (size : a.tmps.size = n) (hds : a.defers = ds) {i : Nat} {o : Oper} (R : Rdy ops S i o)
  (hS : ∀ j,S' j = if j = i then true else S j) {ρ' : Ren} {z : Value} (he : Ext ρ ρ') (hz : (vs i).den ρ' = some z) :
  Cl ops S' /\ (∀ t,(vAt ops fs vs S' t).den ρ' = some ((a.put o.dst z).tmps.getD t undef)) /\ (a.put o.dst z).tmps.size = n /\ (a.put o.dst z).defers = ds := by
 refine ⟨?_, ?_, ?_, ?_⟩
 ·intro j x hx hj e hee hb
  rw [hS]
  split
  ·rfl
  ·rw [hS] at hj
   split at hj
   ·rename_i hji; subst hji
    rw [R.at_] at hx; cases hx
    exact R.edge e hee hb
   ·exact cl j x hx hj e hee hb
 ·intro t
  rw [T.slot_step cl R hS t]
  split
  ·rename_i hd
   rw [hz,hd,getD_put_same (by rw [size]; exact (T.st i o R.at_).lt t hd)]
  ·rename_i hd
   rw [getD_put_ne hd]
   exact den_mono he _ _ (fr t)
 ·rw [<- size]; cases o.dst <;> simp [Act.put]
 ·rw [<- hds]; cases o.dst <;> rfl
theorem Late.le {k k' i : Nat} (h : Late P ops k' i) (hk : k <= k') : Late P ops k i := fun j x hx hf hj => h j x hx hf (Nat.lt_of_lt_of_le hj hk)
theorem lay_all {ρ : Ren} {w : World} (loc : Nat -> Loc) : ∀ (l : List Nat) {h : Heap},Stp ρ₀ h₀ w₀ ρ h w -> l.Nodup -> (∀ q ∈ l,∀ b,bl q = some b -> Pend base w₀ h ρ w q b (loc q)) -> (∀ q ∈ l,∀ q' ∈ l,bl q ≠ none -> bl q' ≠ none -> q ≠ q' -> (loc q).blk ≠ (loc q').blk) ->
  Stp ρ₀ h₀ w₀ ρ (layH base bl l h) w /\ ∀ c,Seen ρ (layH base bl l h) c -> Seen ρ h c \/ ∃ q ∈ l,bl q ≠ none /\ c = (loc q).blk
 | [],h,s,_,_,_ => ⟨s,fun c hc => .inl hc⟩
 | q :: l,h,s,hn,hp,hd => by
  obtain ⟨hq,hn⟩ := List.nodup_cons.1 hn
  rw [layH]
  cases hb : bl q with
  | none =>
   simp only
   obtain ⟨g1,g2⟩ := lay_all loc l s hn (fun q hq => hp q (by simp [hq])) (fun q hq q' hq' => hd q (by simp [hq]) q' (by simp [hq']))
   exact ⟨g1,fun c hc => (g2 c hc).imp id fun ⟨q,a1,a2,a3⟩ => ⟨q,by simp [a1],a2,a3⟩⟩
  | some b =>
   simp only
   have p := hp q (by simp) b hb
   have s' := s.lay p.at_ p.rel p.fresh p.far
   obtain ⟨g1,g2⟩ := lay_all loc l s' hn (fun q' hq' b' hb' => by
    have p' := hp q' (by simp [hq']) b' hb'
    refine ⟨p'.at_,p'.rel,p'.fresh,fun hs => ?_⟩
    rcases seen_lay p.at_ hs with e | e
    ·exact hd q (by simp) q' (by simp [hq']) (by simp [hb]) (by simp [hb']) (fun z => hq (z ▸ hq')) e.symm
    ·exact p'.far e) (fun q hq q' hq' => hd q (by simp [hq]) q' (by simp [hq']))
   refine ⟨g1,fun c hc => ?_⟩
   rcases g2 c hc with e | ⟨q',a1,a2,a3⟩
   ·rcases seen_lay p.at_ e with e | e
    ·exact .inr ⟨q,by simp,by simp [hb],e⟩
    ·exact .inl e
   ·exact .inr ⟨q',by simp [a1],a2,a3⟩
theorem zip_nodup (p : Oper × Nat -> Bool) : ((ops.toList.zipIdx.filter p).map (·.2)).Nodup := by
 refine List.Nodup.sublist (List.Sublist.map _ List.filter_sublist) ?_
 have : ops.toList.zipIdx.map (·.2) = List.range' 0 ops.toList.length := by
  rw [List.zipIdx_map_snd]
 rw [this]
 exact List.nodup_range'
theorem mem_filter_zip {p : Oper × Nat -> Bool} {i : Nat} : i ∈ (ops.toList.zipIdx.filter p).map (·.2) ↔ ∃ o,ops[i]? = some o /\ p (o,i) = true := by
 simp only [List.mem_map,List.mem_filter]
 constructor
 ·rintro ⟨⟨o,j⟩,⟨h1,h2⟩,rfl⟩
  exact ⟨o,of_zip h1,h2⟩
 ·rintro ⟨o,h1,h2⟩
  exact ⟨(o,i),⟨mem_zipIdx h1,h2⟩,rfl⟩
theorem seenL_false {j i : Nat} (_hj : j <= ops.size) : seenL P ops j i = false ↔ Late P ops j i := by
 unfold seenL Late
 rw [List.any_eq_false]
 constructor
 ·intro h k x hx hf hk
  have : (x,k) ∈ ops.toList.zipIdx.take j := by
   rw [List.mem_iff_getElem?]
   refine ⟨k, ?_⟩
   rw [List.getElem?_take,if_pos hk]
   simp [hx]
  have := h _ this
  simpa [hf] using this
 ·rintro h ⟨x,k⟩ hm
  rw [List.mem_iff_getElem?] at hm
  obtain ⟨q,hq⟩ := hm
  rw [List.getElem?_take] at hq
  split at hq
  ·rename_i hlt
   have hz := of_zip (List.mem_of_getElem? hq)
   simp only at hz
   have : k = q := by
    rw [List.getElem?_zipIdx] at hq
    cases ho : ops.toList[q]? with
    | none => rw [ho] at hq; cases hq
    | some y => rw [ho] at hq; simp at hq; omega
   subst this
   simp only [Bool.and_eq_true,not_and,Bool.not_eq_true]
   exact fun hf => h k x hz hf hlt
  ·cases hq
theorem mem_places {j i : Nat} (hj : j <= ops.size) : i ∈ placesL P ops j ↔ ∃ o,ops[i]? = some o /\ isN (cls P o) = true /\ ((masks ops).getD j 0).testBit i = true /\ Late P ops j i := by
 unfold placesL
 rw [mem_filter_zip]
 simp only [Bool.and_eq_true,Bool.not_eq_true',seenL_false hj]
theorem mem_rest {i : Nat} : i ∈ restL P ops ↔ ∃ o,ops[i]? = some o /\ isN (cls P o) = true /\ Late P ops ops.size i := by
 unfold restL
 rw [mem_filter_zip]
 simp only [Bool.and_eq_true,Bool.not_eq_true',seenL_false (Nat.le_refl _)]
theorem pls_at {j : Nat} (hj : j < ops.size) : ((placesAll P ops)[j]?).getD [] = placesL P ops j := by
 unfold placesAll
 rw [List.getElem?_map,List.getElem?_zipIdx]
 have : ops.toList[j]? = some ops[j] := by simp [hj]
 rw [this]; simp
theorem Trc.step (hb0 : h₀.next <= base) (hcall : CallOk P call) (T : Trc P call n ops base bl fs hp vs) {S S' : Nat -> Bool} {k : Nat} {ρ : Ren} {a : Act} {w : World} (I : Inv P ops n base bl fs hp vs ds ρ₀ h₀ w₀ S k ρ a w) (room : base + ops.size <= (hp k).next) {i : Nat} {o : Oper} (R : Rdy ops S i o)
  (hS : ∀ j,S' j = if j = i then true else S j) {Q : Exit -> Act -> World -> Prop} {K : Act -> World -> Prop} (hK : ∀ k' ρ' a' w',Inv P ops n base bl fs hp vs ds ρ₀ h₀ w₀ S' k' ρ' a' w' -> base + ops.size <= (hp k').next -> K a' w') : wpOp P ops Q i K a w := by
 classical
 have st := T.st i o R.at_
 have hw : wantA ops (fs i) o = Region.wanted o (yielded ops a.tmps) := wantA_at (ρ := ρ) fun t ht => by
  rw [<- T.slot I.cl R (names_guard ht)]; exact I.fr t
 have D := T.ok
 have hlt := R.size
 have Sne : ∀ {j},j ≠ i -> S' j = S j := fun hj => by rw [hS,if_neg hj]
 let e' : Operand -> AV := fun x => if x ∈ o.op.operands then (fs i).eval x else .bad
 have hcg : ∀ x ∈ o.op.operands,(fs i).eval x = e' x := fun x hx => by simp only [e',if_pos hx]
 have ho : ORel ρ e' a.eval := by
  intro x
  by_cases hm : x ∈ o.op.operands
  ·have hex : e' x = (fs i).eval x := (hcg x hm).symm
   rw [hex]
   cases x with
   | tmp t =>
    rw [<- T.slot I.cl R (names_op hm)]
    exact .inr (I.fr t)
   | const v =>
    by_cases hb : ofV v = .bad
    ·exact .inl hb
    ·exact .inr (ofV_den ρ hb)
   | global g => exact .inl rfl
   | func f => exact .inr (by simp [Fr.eval,AV.den,denL_nil,Act.eval])
  ·exact .inl (by simp only [e',if_neg hm])
 -- nothing of memory turns: the state with one more
 have same : isF (cls P o) = false -> (isN (cls P o) = true -> bl i = none) -> ∀ z,(vs i).den ρ = some z -> K (a.put o.dst z) w := by
  intro hx hbn z hz
  obtain ⟨c1,c2,c3,c4⟩ := frames T I.cl I.fr I.size I.ds R hS (Ext.refl _) hz
  have nei : ∀ {j x},ops[j]? = some x -> isF (cls P x) = true -> j ≠ i := by
   rintro j x hj hxx rfl
   rw [R.at_] at hj; cases hj
   rw [hx] at hxx; cases hxx
  have nb : ∀ {j x},ops[j]? = some x -> isN (cls P x) = true -> bl j ≠ none -> j ≠ i := by
   rintro j x hj hxx hb rfl
   rw [R.at_] at hj; cases hj
   exact hb (hbn hxx)
  refine hK k ρ _ _ ⟨c1,c2,c3,c4, ?_,I.kle,I.stp, ?_, ?_, ?_⟩ room
  ·intro j x hj hxx
   rw [Sne (nei hj hxx)]
   exact I.cut j x hj hxx
  ·intro j x hj hxx hsj
   by_cases e : j = i
   ·rw [hS,if_pos e] at hsj; cases hsj
   ·rw [Sne e] at hsj
    exact I.un j x hj hxx hsj
  ·intro j x hj hxx hsj hl b hb
   rw [Sne (nb hj hxx (by simp [hb]))] at hsj
   exact I.pend j x hj hxx hsj hl b hb
  ·intro j j' x x' l l' hj hj' hx hx' hs hs' hl hl' hb hb' e1 e2 hne
   rw [Sne (nb hj hx hb)] at hs
   rw [Sne (nb hj' hx' hb')] at hs'
   exact I.inj j j' x x' l l' hj hj' hx hx' hs hs' hl hl' hb hb' e1 e2 hne
 simp only [wpOp,R.at_]
 cases hcl : cls P o with
 | p =>
  obtain ⟨_,s2,s3⟩ := st.pl (.inl hcl)
  cases hwt : Region.wanted o (yielded ops a.tmps) with
  | false =>
   simp only [Bool.false_eq_true,if_false]
   exact same (by rw [hcl]; rfl) (fun c => by rw [hcl] at c; cases c) _ (by rw [s3 (by rw [hw,hwt])]; exact undef_den _)
  | true =>
   simp only [if_true]
   refine .inl ?_
   obtain ⟨h',hop⟩ := s2 (by rw [hw,hwt])
   unfold opK at hop
   simp only [hcl] at hop
   rw [pureK_congr hcg] at hop
   obtain ⟨v,z,h1,h2,h3⟩ := pureK_sound ho hop
   cases h1
   unfold Oper.wp
   rw [h3 w]
   exact same (by rw [hcl]; rfl) (fun c => by rw [hcl] at c; cases c) z h2
 | r =>
  obtain ⟨_,s2,s3⟩ := st.pl (.inr hcl)
  cases hwt : Region.wanted o (yielded ops a.tmps) with
  | false =>
   simp only [Bool.false_eq_true,if_false]
   exact same (by rw [hcl]; rfl) (fun c => by rw [hcl] at c; cases c) _ (by rw [s3 (by rw [hw,hwt])]; exact undef_den _)
  | true =>
   simp only [if_true]
   refine .inl ?_
   obtain ⟨h',hop⟩ := s2 (by rw [hw,hwt])
   unfold opK at hop
   simp only [hcl] at hop
   have hR : isR (cls P o) = true := by rw [hcl]; rfl
   have hlo : loL P ops i <= cntX P ops.toList k := by
    rw [loL_zip,cntX_zip]
    refine List.countP_mono_left fun x hxm hp => ?_
    simp only [Bool.and_eq_true,decide_eq_true_eq] at hp ⊢
    refine ⟨hp.1, ?_⟩
    exact (I.cut _ _ (of_zip hxm) hp.1).1 (D.closed I.cl i o R.at_ R.edge _ hp.2)
   have hhi : cntX P ops.toList k <= hiL P ops i := by
    rw [hiL_zip,cntX_zip]
    refine List.countP_mono_left fun x hxm hp => ?_
    simp only [Bool.and_eq_true,decide_eq_true_eq,Bool.not_eq_true'] at hp ⊢
    refine ⟨hp.1, ?_⟩
    cases hb : ((masks ops).getD x.2 0).testBit i with
    | false => rfl
    | true =>
     have hs := (I.cut _ _ (of_zip hxm) hp.1).2 hp.2
     have := D.closed I.cl _ _ (of_zip hxm) (I.cl _ _ (of_zip hxm) hs) i hb
     rw [R.un] at this; cases this
   have fin : ∀ z,(vs i).den ρ = some z -> (execOp a.eval o).run P w = .ok (.value z) w -> o.wp P a w K Q := by
    intro z hz hex
    unfold Oper.wp
    rw [hex]
    exact same (by rw [hcl]; rfl) (fun c => by rw [hcl] at c; cases c) z hz
   rcases T.read i o R.at_ hR (by rw [hw,hwt]) k I.kle hlo hhi with h1 | h1
   ·rw [readK_congr hcg,<- h1] at hop
    obtain ⟨v,z,h1,h2,h3⟩ := readK_sound ho I.stp.rel hop
    cases h1
    exact fin z h2 h3
   ·obtain ⟨v0,h0,h1,hsm⟩ := h1
    rw [readK_congr hcg] at h1
    obtain ⟨v,z,h1,h2,h3⟩ := readK_sound ho I.stp.rel h1
    cases h1
    exact fin z (by rw [same_eq hsm]; exact h2) h3
 | a =>
  obtain ⟨_,s2,s3⟩ := st.al hcl
  have hF : isF (cls P o) = false := by rw [hcl]; rfl
  have hN : isN (cls P o) = true := by rw [hcl]; rfl
  cases hwt : Region.wanted o (yielded ops a.tmps) with
  | false =>
   simp only [Bool.false_eq_true,if_false]
   obtain ⟨e1,e2⟩ := s3 (by rw [hw,hwt])
   exact same hF (fun _ => e2) _ (by rw [e1]; exact undef_den _)
  | true =>
   simp only [if_true]
   refine .inl ?_
   obtain ⟨b,hbl,hal⟩ := s2 (by rw [hw,hwt])
   rw [allocK_congr hcg] at hal
   obtain ⟨b',mk,obj,X,h1,h2,h3,h4⟩ := allocK_sound ho hal
   rw [fN_eq] at h1
   obtain ⟨h5,h6⟩ := fK_some h1
   simp only [Option.some.injEq,Prod.mk.injEq] at h6
   obtain ⟨rfl,hv⟩ := h6
   unfold Oper.wp
   rw [h4 w]
   simp only [Oper.upon]
   have hun : ρ (base + i) = none := I.un i o R.at_ hN R.un
   have he : Ext ρ (ρ.add (base + i) ⟨w.heap.size,0,0⟩) := Ren.ext_add _ hun
   have stp' : Stp ρ₀ h₀ w₀ (ρ.add (base + i) ⟨w.heap.size,0,0⟩) (hp k) { w with heap := w.heap.push obj } := I.stp.far (o := obj) (w' := { w with heap := w.heap.push obj }) (by omega) (by omega) hun rfl rfl rfl rfl
   have hz : (vs i).den (ρ.add (base + i) ⟨w.heap.size,0,0⟩) = some (X w.heap.size) := by
    rw [<- hv]; exact (h3 _ _ _ 0 (Ren.add_same _ _ _)).2
   obtain ⟨c1,c2,c3,c4⟩ := frames T I.cl I.fr I.size I.ds R hS he hz
   have hold : ∀ j,j < w.heap.size -> (w.heap.push obj)[j]? = w.heap[j]? := fun j hj => by
    rw [Array.getElem?_push,if_neg (by omega)]
   have seen' : ∀ {c},Seen (ρ.add (base + i) ⟨w.heap.size,0,0⟩) (hp k) c -> Seen ρ (hp k) c /\ c < w.heap.size := by
    rintro c ⟨q,d,m,g,e,rfl⟩
    obtain ⟨m',e1,e2⟩ := I.stp.rel.blk q d g
    rw [he _ _ e1] at e; cases e
    exact ⟨⟨q,d,_,g,e1,rfl⟩,e2.lt⟩
   have at' : ∀ {j x},ops[j]? = some x -> isN (cls P x) = true -> S' j = true -> Late P ops k j -> bl j ≠ none -> (j = i /\ (ρ.add (base + i) ⟨w.heap.size,0,0⟩) (base + j) = some ⟨w.heap.size,0,0⟩) \/ (j ≠ i /\ S j = true /\ ∃ l b,bl j = some b /\ Pend base w₀ (hp k) ρ w j b l /\ (ρ.add (base + i) ⟨w.heap.size,0,0⟩) (base + j) = some l) := by
    intro j x hj hxx hsj hl hb
    by_cases e : j = i
    ·subst e; exact .inl ⟨rfl,Ren.add_same _ _ _⟩
    ·rw [Sne e] at hsj
     obtain ⟨b,hb⟩ := Option.ne_none_iff_exists'.1 hb
     obtain ⟨l,hp⟩ := I.pend j x hj hxx hsj hl b hb
     exact .inr ⟨e,hsj,l,b,hb,hp,he _ _ hp.at_⟩
   refine hK k _ _ _ ⟨c1,c2,c3,c4, ?_,I.kle,stp', ?_, ?_, ?_⟩ room
   ·intro j x hj hxx
    have hne : j ≠ i := by
     rintro rfl
     rw [R.at_] at hj; cases hj
     rw [hF] at hxx; cases hxx
    rw [Sne hne]
    exact I.cut j x hj hxx
   ·intro j x hj hxx hsj
    by_cases e : j = i
    ·rw [hS,if_pos e] at hsj; cases hsj
    ·rw [Sne e] at hsj
     rw [Ren.add_ne _ _ (by omega)]
     exact I.un j x hj hxx hsj
   ·intro j x hj hxx hsj hl c hc
    rcases at' hj hxx hsj hl (by simp [hc]) with ⟨rfl,e⟩ | ⟨hne,hs,l,d,hd,hp',e⟩
    ·rw [hbl] at hc; cases hc
     exact ⟨_,e,h2.blk he (by simp),I.stp.size,fun hs => by have := (seen' hs).2; simp at this⟩
    ·rw [hc] at hd; cases hd
     exact ⟨l,e,hp'.rel.mono he (hold _ hp'.rel.lt),hp'.fresh,fun hs => hp'.far (seen' hs).1⟩
   ·intro j j' x x' l l' hj hj' hx hx' hs hs' hl hl' hb hb' e1 e2 hne
    rcases at' hj hx hs hl hb with ⟨rfl,e⟩ | ⟨n1,s1,m,d,hd,p1,e⟩
    ·rcases at' hj' hx' hs' hl' hb' with ⟨rfl,e'⟩ | ⟨n2,s2,m',d',hd',p2,e'⟩
     ·exact absurd rfl hne
     ·rw [e] at e1; cases e1
      rw [e'] at e2; cases e2
      have := p2.rel.lt
      simp; omega
    ·rcases at' hj' hx' hs' hl' hb' with ⟨rfl,e'⟩ | ⟨n2,s2,m',d',hd',p2,e'⟩
     ·rw [e] at e1; cases e1
      rw [e'] at e2; cases e2
      have := p1.rel.lt
      simp; omega
     ·rw [e] at e1; cases e1
      rw [e'] at e2; cases e2
      exact I.inj j j' x x' _ _ hj hj' hx hx' s1 s2 hl hl' hb hb' p1.at_ p2.at_ hne
 | e =>
  have hX : isF (cls P o) = true := by rw [hcl]; rfl
  obtain ⟨s1,s2⟩ := st.ef hcl
  rw [pls_at hlt] at s1 s2
  have key : ∀ j x,ops[j]? = some x -> isF (cls P x) = true -> (S j = true ↔ j < i) := by
   intro j x hj hxx
   rcases Nat.lt_trichotomy j i with h | h | h
   ·have := R.below D I.cl hj h (.inr ⟨hxx,hX⟩)
    simp [this,h]
   ·subst h; simp [R.un]
   ·have := R.above D I.cl hj h (.inr ⟨hX,hxx⟩)
    simp [this]; omega
  have hki : hp k = hp i := T.level2 (by omega) I.kle fun j x hj hxx => by rw [<- key j x hj hxx,I.cut j x hj hxx]
  have cut' : ∀ j x,ops[j]? = some x -> isF (cls P x) = true -> (S' j = true ↔ j < i + 1) := by
   intro j x hj hxx
   rw [hS]
   split
   ·rename_i e; subst e; simp
   ·rename_i e
    rw [key j x hj hxx]; omega
  have lateki : ∀ {q},Late P ops i q -> Late P ops k q := fun h j x hj hf hjk => h j x hj hf ((key j x hj hf).1 ((I.cut j x hj hf).2 hjk))
  have lateS : ∀ {q},Late P ops (i + 1) q -> Late P ops k q /\ ((masks ops).getD i 0).testBit q = false := fun h => ⟨lateki (h.le (by omega)),h i o R.at_ hX (by omega)⟩
  -- those that are laid now
  have plS : ∀ q ∈ placesL P ops i,∃ x,ops[q]? = some x /\ isN (cls P x) = true /\ S q = true /\ Late P ops k q := by
   intro q hq
   obtain ⟨x,h1,h2,h3,h4⟩ := (mem_places (by omega)).1 hq
   exact ⟨x,h1,h2,D.closed I.cl i o R.at_ R.edge q h3,lateki h4⟩
  let loc : Nat -> Loc := fun q => (ρ (base + q)).getD ⟨0,0,0⟩
  have locE : ∀ {q l},ρ (base + q) = some l -> loc q = l := fun e => by simp only [loc,e,Option.getD_some]
  obtain ⟨g1,g2⟩ := lay_all (bl := bl) (base := base) loc (placesL P ops i) I.stp (zip_nodup _) (fun q hq b hb => by
   obtain ⟨x,h1,h2,h3,h4⟩ := plS q hq
   obtain ⟨l,hp'⟩ := I.pend q x h1 h2 h3 h4 b hb
   rw [locE hp'.at_]; exact hp') (fun q hq q' hq' hb hb' hne => by
   obtain ⟨x,h1,h2,h3,h4⟩ := plS q hq
   obtain ⟨x',h1',h2',h3',h4'⟩ := plS q' hq'
   obtain ⟨b,hb1⟩ := Option.ne_none_iff_exists'.1 hb
   obtain ⟨b',hb1'⟩ := Option.ne_none_iff_exists'.1 hb'
   obtain ⟨l,hp1⟩ := I.pend q x h1 h2 h3 h4 b hb1
   obtain ⟨l',hp1'⟩ := I.pend q' x' h1' h2' h3' h4' b' hb1'
   rw [locE hp1.at_,locE hp1'.at_]
   exact I.inj q q' x x' l l' h1 h1' h2 h2' h3 h3' h4 h4' hb hb' hp1.at_ hp1'.at_ hne)
  have far1 : ∀ {j x b l},ops[j]? = some x -> isN (cls P x) = true -> S j = true -> Late P ops (i + 1) j -> bl j = some b -> Pend base w₀ (hp k) ρ w j b l -> ¬ Seen ρ (layH base bl (placesL P ops i) (hp k)) l.blk := by
   intro j x b l hj hx hs hl hb hp' hsn
   obtain ⟨l1,l2⟩ := lateS hl
   rcases g2 _ hsn with e | ⟨q,hq,hbq,e⟩
   ·exact hp'.far e
   ·obtain ⟨x',h1',h2',h3',h4'⟩ := plS q hq
    obtain ⟨_,_,_,h5,_⟩ := (mem_places (by omega)).1 hq
    obtain ⟨b',hb'⟩ := Option.ne_none_iff_exists'.1 hbq
    obtain ⟨l',hp1'⟩ := I.pend q x' h1' h2' h3' h4' b' hb'
    rw [locE hp1'.at_] at e
    refine I.inj j q x x' l l' hj h1' hx h2' hs h3' l1 h4' (by simp [hb]) hbq hp'.at_ hp1'.at_ ?_ e
    rintro rfl
    rw [l2] at h5; cases h5
  have fin : ∀ (ρ' : Ren) (z : Value) (w' : World),Stp ρ (layH base bl (placesL P ops i) (hp k)) w ρ' (hp (i + 1)) w' -> (vs i).den ρ' = some z -> K (a.put o.dst z) w' := by
   intro ρ' z w' hst hz
   obtain ⟨c1,c2,c3,c4⟩ := frames T I.cl I.fr I.size I.ds R hS hst.ext hz
   have hnx : (layH base bl (placesL P ops i) (hp k)).next = (hp k).next := layH_next _ _
   have nb : ∀ {j x},ops[j]? = some x -> isN (cls P x) = true -> j ≠ i := by
    rintro j x hj hxx rfl
    rw [R.at_] at hj; cases hj
    rw [hcl] at hxx; cases hxx
   have room' : base + ops.size <= (hp (i + 1)).next := by
    have := hst.nxt
    omega
   have pd : ∀ {j x b},ops[j]? = some x -> isN (cls P x) = true -> S' j = true -> Late P ops (i + 1) j -> bl j = some b -> S j = true /\ Late P ops k j /\ ∃ l,Pend base w₀ (hp k) ρ w j b l /\ Pend base w₀ (hp (i + 1)) ρ' w' j b l := by
    intro j x b hj hxx hsj hl hb
    rw [Sne (nb hj hxx)] at hsj
    obtain ⟨l1,l2⟩ := lateS hl
    obtain ⟨l,hp'⟩ := I.pend j x hj hxx hsj l1 b hb
    have hf := far1 hj hxx hsj hl hb hp'
    refine ⟨hsj,l1,l,hp',hst.ext _ _ hp'.at_,hp'.rel.mono hst.ext (hst.frm _ hp'.rel.lt fun ⟨q,d,m,a1,_,a2,a3⟩ => hf ⟨q,d,m,a1,a2,a3⟩),hp'.fresh,fun ⟨q,d,m,a1,a2,a3⟩ => hf ?_⟩
    rw [<- a3]
    exact hst.old q d m a1 a2 (by rw [a3]; exact hp'.rel.lt)
   refine hK (i + 1) ρ' _ _ ⟨c1,c2,c3,c4,cut',by omega,g1.trans hst, ?_, ?_, ?_⟩ room'
   ·intro j x hj hxx hsj
    have hne := nb hj hxx
    rw [Sne hne] at hsj
    have hjs : j < ops.size := (Array.getElem?_eq_some_iff.1 hj).1
    rw [hst.low _ (by omega)]
    exact I.un j x hj hxx hsj
   ·intro j x hj hxx hsj hl b hb
    obtain ⟨_,_,l,_,h⟩ := pd hj hxx hsj hl hb
    exact ⟨l,h⟩
   ·intro j j' x x' l l' hj hj' hx hx' hs hs' hl hl' hb hb' e1 e2 hne
    obtain ⟨b,hb1⟩ := Option.ne_none_iff_exists'.1 hb
    obtain ⟨b',hb1'⟩ := Option.ne_none_iff_exists'.1 hb'
    obtain ⟨a1,a2,m,a3,a4⟩ := pd hj hx hs hl hb1
    obtain ⟨b1,b2,m',b3,b4⟩ := pd hj' hx' hs' hl' hb1'
    rw [a4.at_] at e1; cases e1
    rw [b4.at_] at e2; cases e2
    exact I.inj j j' x x' _ _ hj hj' hx hx' a1 b1 a2 b2 hb hb' a3.at_ b3.at_ hne
  cases hwt : Region.wanted o (yielded ops a.tmps) with
  | false =>
   simp only [Bool.false_eq_true,if_false]
   obtain ⟨e1,e2⟩ := s2 (by rw [hw,hwt])
   refine fin ρ _ _ ?_ (by rw [e1]; exact undef_den _)
   rw [e2,<- hki]
   exact Stp.refl g1.rel
  | true =>
   simp only [if_true]
   refine .inl ?_
   have hop := s1 (by rw [hw,hwt])
   rw [opK_congr hcg,<- hki] at hop
   obtain ⟨v,h'',he,hstep⟩ := opK_sound hcall ho g1.rel hop
   simp only [Option.some.injEq,Prod.mk.injEq] at he
   obtain ⟨rfl,rfl⟩ := he
   exact hstep _ _ fun ρ' z w' hst hz => fin ρ' z w' hst hz
end Go.Ai.L
namespace Go.Ai.L
open Go
set_option linter.unusedSimpArgs false
variable {P : Program} {β : Type}
variable {call : CallK} {n : Nat} {ops : Array Oper} {base : Nat} {bl : Nat -> Option Blk} {fs : Nat -> Fr} {hp : Nat -> Heap} {vs : Nat -> AV} {ds : List Deferred} {ρ₀ : Ren} {h₀ : Heap} {w₀ : World}
theorem Trc.any (hb0 : h₀.next <= base) (hcall : CallOk P call) (T : Trc P call n ops base bl fs hp vs) {Q : Exit -> Act -> World -> Prop}
  (hQ : ∀ ρ a w,FRel ρ n (fs ops.size) a -> a.defers = ds -> Stp ρ₀ h₀ w₀ ρ (layH base bl (restL P ops) (hp ops.size)) w -> Q .normal a w) :
  ∀ (fuel : Nat) (listed : Array Bool) (k : Nat) (ρ : Ren) (a : Act) (w : World),listed.size = ops.size -> listed.toList.count false = fuel ->
   Inv P ops n base bl fs hp vs ds ρ₀ h₀ w₀ (fun i => listed.getD i false) k ρ a w -> base + ops.size <= (hp k).next -> wpAny P .any ops Q fuel listed a w := by
 have done : ∀ (listed : Array Bool) (k : Nat) (ρ : Ren) (a : Act) (w : World),listed.size = ops.size -> Region.ready .any ops listed = [] ->
   Inv P ops n base bl fs hp vs ds ρ₀ h₀ w₀ (fun i => listed.getD i false) k ρ a w -> Q .normal a w := by
  intro listed k ρ a w hsz hr I
  have all : ∀ i,i < ops.size -> listed.getD i false = true := by
   intro i
   induction i using Nat.strongRecOn with
   | ind i ih =>
    intro hi
    cases hc : listed.getD i false with
    | true => rfl
    | false =>
     exfalso
     have hoi : ops[i]? = some ops[i] := Array.getElem?_eq_getElem hi
     have : i ∈ Region.ready .any ops listed := by
      rw [mem_ready]
      refine ⟨?_,ops[i],hoi,fun e he hb => ?_⟩
      ·rw [Array.getD_eq_getD_getElem?,Array.getElem?_eq_getElem (by omega)] at hc ⊢
       simpa using hc
      ·have := T.ok.edge i _ hoi e he hb
       exact ih _ this (by omega)
     rw [hr] at this; cases this
  have hk : hp ops.size = hp k := by
   refine T.level2 I.kle (Nat.le_refl _) fun j o ho hx => ?_
   have hj : j < ops.size := (Array.getElem?_eq_some_iff.1 ho).1
   have := (I.cut j o ho hx).1 (all j hj)
   exact ⟨fun _ => hj,fun _ => this⟩
  have stp' : Stp ρ₀ h₀ w₀ ρ (hp ops.size) w := by rw [hk]; exact I.stp
  have kall : ∀ {q},Late P ops ops.size q -> Late P ops k q := fun h => h.le I.kle
  have Sall : ∀ {q x},ops[q]? = some x -> listed.getD q false = true := fun hx => all _ (Array.getElem?_eq_some_iff.1 hx).1
  let loc : Nat -> Loc := fun q => (ρ (base + q)).getD ⟨0,0,0⟩
  have locE : ∀ {q l},ρ (base + q) = some l -> loc q = l := fun e => by simp only [loc,e,Option.getD_some]
  obtain ⟨g1,_⟩ := lay_all (bl := bl) (base := base) loc (restL P ops) stp' (zip_nodup _) (fun q hq b hb => by
   obtain ⟨x,h1,h2,h4⟩ := mem_rest.1 hq
   obtain ⟨l,hp'⟩ := I.pend q x h1 h2 (Sall h1) (kall h4) b hb
   rw [locE hp'.at_,hk]; exact hp') (fun q hq q' hq' hb hb' hne => by
   obtain ⟨x,h1,h2,h4⟩ := mem_rest.1 hq
   obtain ⟨x',h1',h2',h4'⟩ := mem_rest.1 hq'
   obtain ⟨b,hb1⟩ := Option.ne_none_iff_exists'.1 hb
   obtain ⟨b',hb1'⟩ := Option.ne_none_iff_exists'.1 hb'
   obtain ⟨l,hp1⟩ := I.pend q x h1 h2 (Sall h1) (kall h4) b hb1
   obtain ⟨l',hp1'⟩ := I.pend q' x' h1' h2' (Sall h1') (kall h4') b' hb1'
   rw [locE hp1.at_,locE hp1'.at_]
   exact I.inj q q' x x' l l' h1 h1' h2 h2' (Sall h1) (Sall h1') (kall h4) (kall h4') hb hb' hp1.at_ hp1'.at_ hne)
  refine hQ ρ a w ⟨I.size,fun t => ?_⟩ I.ds g1
  rw [<- I.fr t,<- T.all t ops.size (Nat.le_refl _)]
  unfold vAt
  rw [lastW_eq]
  intro j hj _
  exact (all j hj).symm
 intro fuel
 induction fuel with
 | zero =>
  intro listed k ρ a w hsz hc I rm
  have hr : Region.ready .any ops listed = [] := by
   rw [List.eq_nil_iff_forall_not_mem]
   intro i hi
   obtain ⟨h1,o,ho,_⟩ := mem_ready.1 hi
   have hlt : i < listed.size := by rw [hsz]; exact (Array.getElem?_eq_some_iff.1 ho).1
   rw [List.count_eq_zero] at hc
   apply hc
   rw [Array.getD_eq_getD_getElem?,Array.getElem?_eq_getElem hlt] at h1
   simp only [Option.getD_some] at h1
   rw [<- h1]
   exact Array.mem_toList_iff.2 (Array.getElem_mem hlt)
  exact ⟨hr,done listed k ρ a w hsz hr I⟩
 | succ fuel ih =>
  intro listed k ρ a w hsz hc I rm
  refine ⟨fun hr => done listed k ρ a w hsz hr I,fun i hi => ?_⟩
  obtain ⟨h1,o,ho,hedge⟩ := mem_ready.1 hi
  have hlt : i < listed.size := by rw [hsz]; exact (Array.getElem?_eq_some_iff.1 ho).1
  have hun : listed[i] = false := by
   rw [Array.getD_eq_getD_getElem?,Array.getElem?_eq_getElem hlt] at h1
   simpa using h1
  have R : Rdy ops (fun i => listed.getD i false) i o := ⟨ho,by simp [Array.getD_eq_getD_getElem?,Array.getElem?_eq_getElem hlt,hun],hedge⟩
  refine T.step hb0 hcall I rm R (S' := fun j => (listed.setIfInBounds i true).getD j false) (fun j => ?_) (fun k' ρ' a' w' I' rm' => ih _ k' ρ' a' w' (by simpa using hsz) ?_ I' rm')
  ·split
   ·rename_i e; subst e
    simp [Array.getD_eq_getD_getElem?,Array.getElem?_setIfInBounds,hlt]
   ·rename_i e
    exact getD_set_ne false (fun h => e h.symm)
  ·rw [Array.toList_setIfInBounds,List.count_set (by simpa using hlt)]
   simp [hun,hc]
theorem regionOk2 (hm : P.follows .mixedOrders = true) {β : Type} {call : CallK} (hcall : CallOk P call) {n : Nat} {ops : Array Oper} {id : Nat} {Q : Exit -> Act -> World -> Prop} {r : β} {K : Fr -> Heap -> Option β} {ρ : Ren} {fr : Fr} {h : Heap} {a : Act} {w : World}
  (hf : FRel ρ n fr a) (hr : HRel ρ h w) (hk : regionLK P call n ops fr h K = some r)
  (hq : ∀ ρ' fr' h' a' w',FRel ρ' n fr' a' -> a'.defers = a.defers -> Stp ρ h w ρ' h' w' -> K fr' h' = some r -> Q .normal a' w') : (Code.region id ops true).wp P Q a w := by
 unfold regionLK at hk
 split at hk
 ·cases hk
 rename_i hd
 rw [keepK_eq] at hk
 have D := drawOk_spec hd
 have hpl : ∀ (j q : Nat),q ∈ ((placesAll P ops)[j]?).getD [] -> q < j := by
  intro j q hq
  by_cases hj : j < ops.size
  ·rw [pls_at hj] at hq
   obtain ⟨x,h1,h2,h3,h4⟩ := (mem_places (by omega)).1 hq
   exact D.mask_lt j ops[j] (Array.getElem?_eq_getElem hj) q h3
  ·rw [List.getElem?_eq_none (by simp [placesAll]; omega)] at hq
   simp at hq
 obtain ⟨fs,hp,vs,pd,lg',ex,f0,p0,_,st,hK,⟨ll,hl⟩,hqs⟩ := opsLK_trace hpl ops.toList (fun q _ => rfl) hk
 simp only [List.append_nil] at hK
 obtain ⟨hfin,hfl⟩ := chkFl_some hK
 rw [layK_eq (bl := findP pd) _ _ _ (fun _ _ => rfl)] at hfin
 have hsz : ops.toList.length = ops.size := by simp
 simp only [Nat.zero_add] at st hl hfin hqs
 have st' : ∀ j o,ops[j]? = some o -> StepAt P call n ops h.next (placesAll P ops) (findP pd) fs hp vs j o := fun j o ho => st j o (by simpa using ho)
 simp only [List.length_nil,Nat.zero_add,hsz] at hqs
 have T : Trc P call n ops h.next (findP pd) fs hp vs := by
  refine ⟨D,st', ?_⟩
  intro i o ho hR hw k hk hlo hhi
  have hi : i < ops.size := (Array.getElem?_eq_some_iff.1 ho).1
  have b1 : loL P ops i <= cntX P ops.toList i := by
   rw [loL_zip,cntX_zip]
   refine List.countP_mono_left fun x hxm hp => ?_
   simp only [Bool.and_eq_true,decide_eq_true_eq] at hp ⊢
   exact ⟨hp.1,D.mask_lt i o ho _ hp.2⟩
  have b2 : cntX P ops.toList i <= hiL P ops i := by
   rw [hiL_zip,cntX_zip]
   refine List.countP_mono_left fun x hxm hp => ?_
   simp only [Bool.and_eq_true,decide_eq_true_eq,Bool.not_eq_true'] at hp ⊢
   refine ⟨hp.1, ?_⟩
   cases hb : ((masks ops).getD x.2 0).testBit i with
   | false => rfl
   | true => have := D.mask_lt _ _ (of_zip hxm) i hb; omega
  by_cases hlt : loL P ops i < hiL P ops i
  ·right
   have hm : (i,loL P ops i,hiL P ops i) ∈ floatsL P ops := by
    unfold floatsL
    rw [List.mem_filterMap]
    refine ⟨(o,i), ?_,by simp [hlt]⟩
    rw [List.mem_filter]
    exact ⟨mem_zipIdx ho,hR⟩
   have hlg : lg'.reverse[i]? = some (some ⟨o,fs i,vs i⟩) := by
    rw [hl i o (by simpa using ho)]
    simp [logOf,hw,hR]
   exact hfl i _ _ _ hm hlg _ _ hlo hhi (hqs k hk)
  ·left
   have h1 := hqs k hk
   have h2 := hqs i (by omega)
   rw [show cntX P ops.toList k = cntX P ops.toList i by omega,h2] at h1
   exact (Option.some.inj h1).symm
 refine wp_region_any hm (T.any (Nat.le_refl _) hcall (ρ₀ := ρ) (h₀ := h) (w₀ := w) (ds := a.defers) (fun ρ' a' w' hf' hd' hs' => ?_) ops.size _ 0 ρ a _ (by simp) (by simp) ?_ ?_)
 ·rw [hsz] at hfin
  exact hq ρ' _ _ a' w' hf' hd' hs' hfin
 ·have hS : ∀ j,(Array.replicate ops.size false).getD j false = false := fun j => by
   rw [Array.getD_eq_getD_getElem?,Array.getElem?_replicate]
   split <;> rfl
  refine ⟨fun j o _ hj => (by have h := hS j; rw [hj] at h; cases h),fun t => ?_,hf.size,rfl,fun j o _ _ => by simp [hS],by omega, ?_, ?_, ?_, ?_⟩
  ·have : vAt ops fs vs (fun i => (Array.replicate ops.size false).getD i false) t = fr.eval (.tmp t) := by
    unfold vAt
    rw [lastW_above (i := 0) (by omega) (fun j _ _ _ => hS j)]
    simp [lastW,f0]
   rw [this]
   exact hf.den t
  ·rw [p0]
   exact (Stp.draw _ hr).trans (Stp.keep (Stp.draw _ hr).rel _)
  ·intro i o _ _ _
   exact hr.new _ (by omega)
  ·intro i o _ _ hs
   rw [hS] at hs; cases hs
  ·intro i i' o o' l l' _ _ _ _ hs
   rw [hS] at hs; cases hs
 ·rw [p0]; exact Nat.le_refl _
end Go.Ai.L
namespace Go.Ai
theorem regionOk {P : Program} (hm : P.follows .mixedOrders = true) : RegionOk P := by
 intro β call hcall n ops id Q r K ρ fr h a w hf hr hk hq
 cases hd : drawOk P ops with
 | true => exact regionOk1 hm hcall hf hr hd hk hq
 | false =>
  simp only [regionK,hd] at hk
  exact L.regionOk2 hm hcall hf hr hk hq
end Go.Ai
namespace Go.Ai
open Go Go.RowKit
set_option linter.unusedSimpArgs false
theorem hrel_nil (w : World) : HRel (fun _ => none) ⟨0, .leaf⟩ w := by
 refine ⟨fun k b h => ?_,fun _ _ => rfl,fun k j b c l m h => ?_⟩
 ·simp [Heap.get,get_leaf] at h
 ·simp [Heap.get,get_leaf] at h
theorem own_nil {b : Nat} : ¬ Own (fun _ => none) ⟨0, .leaf⟩ b := by
 rintro ⟨k,blk,l,h,_⟩
 simp [Heap.get,get_leaf] at h
theorem calls_run {E : Env} (ok : E.Ok) {d : Nat} {f : FuncId} {fn : Func} {c : Code} (ho : E.ora f = none) (hf : E.P.funcs.toList[f]? = some fn) (hb : fn.body = some c) {v : AV} {h' : Heap}
  (hk : run E (d + 1) f = some (v,h')) (w : World) : Calls E.P f #[] w fun e w' => ∃ ρ' z,e = .returned z /\ v.den ρ' = some z /\ HRel ρ' h' w' /\ Below w.heap.size w w' := by
 have := callD_body ok (callD_ok ok d) ho hf hb [] ⟨0, .leaf⟩ v h' hk (fun _ => none) w [] (denL_nil _) (hrel_nil w)
 refine this.mono ?_
 rintro e w' ⟨ρ',z,he,hz,hs⟩
 exact ⟨ρ',z,he,hz,hs.rel,hs.os,hs.tape,hs.output,hs.size,fun k hk => hs.frm k hk own_nil⟩
theorem names_ok {P : Program} (h : (P.funcs.toList.all fun fn => !(fn.name == "runtime.NumGoroutine")) = true) : ∀ fn ∈ P.funcs.toList, fn.name ≠ "runtime.NumGoroutine" := by
 intro fn hf
 have := List.all_eq_true.1 h fn hf
 simpa using this
theorem lookN1 : Extern.allNextRows.lookup "maps.clone" = none := by kernel_rfl
theorem lookN0 : Extern.allNextRows.lookup "" = none := by kernel_rfl
theorem lookG1 : Extern.allGenericRows.lookup "maps.clone" = none := by kernel_rfl
theorem lookT1 : Extern.allTypedRows.lookup "maps.clone" = none := by kernel_rfl
theorem lookR1 : Extern.allRows.lookup "maps.clone" = some Extern.MapsClone.clone := by kernel_rfl
theorem clone_ok {P : Program} (h : (P.funcs.toList.all fun fn => !(fn.name == "maps.clone") || fn.origin == "") = true) : ∀ fn ∈ P.funcs.toList, fn.name = "maps.clone" -> fn.body = none -> Extern.findNext fn = none /\ Extern.find fn = some Extern.MapsClone.clone := by
 intro fn hf hn _
 have := List.all_eq_true.1 h fn hf
 have ho : fn.origin = "" := by simpa [hn] using this
 unfold Extern.findNext Extern.find
 simp only [hn,ho,lookN1,lookN0,lookG1,lookT1,lookR1]
 exact ⟨rfl,rfl⟩
noncomputable def Env.of (P : Program) (L : Nat) : Env := { P := P,ora := fun _ => none,L := L }
theorem Env.of_ok {P : Program} {L : Nat} (hm : P.follows .mixedOrders = true) (h1 : (P.funcs.toList.all fun fn => !(fn.name == "runtime.NumGoroutine")) = true)
  (h2 : (P.funcs.toList.all fun fn => !(fn.name == "maps.clone") || fn.origin == "") = true) : (Env.of P L).Ok :=
 ⟨regionOk hm,names_ok h1,clone_ok h2,fun f g h => by cases h⟩
def isTrue : Option (AV × Heap) -> Bool
 | some (.bool true,_) => true
 | _ => false
theorem calls_true {E : Env} (ok : E.Ok) {d : Nat} {f : FuncId} {fn : Func} (ho : E.ora f = none) (hf : E.P.funcs[f]? = some fn) (hb : fn.body.isSome = true)
  (hk : isTrue (run E (d + 1) f) = true) (w : World) : Calls E.P f #[] w fun e w' => e = .returned (.bool true) /\ Below w.heap.size w w' := by
 unfold isTrue at hk
 obtain ⟨c,hb⟩ := Option.isSome_iff_exists.1 hb
 have hf : E.P.funcs.toList[f]? = some fn := by simpa using hf
 split at hk
 ·rename_i h' he
  refine (calls_run ok ho hf hb he w).mono ?_
  rintro e w' ⟨ρ',z,rfl,hz,_,hs⟩
  simp only [AV.den,Option.some.injEq] at hz
  subst hz
  exact ⟨rfl,hs⟩
 ·cases hk
end Go.Ai
namespace Go.RowKit
theorem post_of_below {P : Program} {H : Type} {enc : TypeId × Value -> H} {f : Func} {s : ChangeSpec} {apart fresh handsOn again : Bool} {W W' : World} {args : Array Value} {v : Value} {ds gs : List (DataW H)} {before pa pv : List MemPlace}
  (hW : DataW.Whole enc P f.params.toList s.vars apart W args.toList ds gs before)
  (hres : ∀ (b : Nat) (sp : Nat -> Bool) (hd : Bool),DataW.TrodAll enc P W' b sp hd f.resultTypes.toList (v.resultList f.resultTypes.size) (s.fn H (ds ++ gs)).results [])
  (hargs : ∀ sp : Nat -> Bool,(∀ p ∈ before,sp p.block = true) -> DataW.TrodAll enc P W' 0 sp true f.params.toList args.toList (s.fn H (ds ++ gs)).args pa)
  (hvars : ∀ sp : Nat -> Bool,(∀ p ∈ before,sp p.block = true) -> DataW.TrodVars enc P W' sp s.vars (s.fn H (ds ++ gs)).vars pv)
  (hps : before = pa ++ pv) (hB : Below W.heap.size W W')
  (hok : ∀ (j : Nat) (t : TypeId) (r : Value),f.resultTypes[j]? = some t -> (v.resultList f.resultTypes.size)[j]? = some r -> Value.okWide P W' .any 0 t r) :
  s.post enc P f apart fresh handsOn again W args v W' := by
 have hold : ∀ p ∈ before,(fun b => decide (b < W.heap.size)) p.block = true := fun p hp => by simpa using hW.lt p hp
 have hlt := hW.lt
 refine ⟨ds,gs,before,[],pa,pv,hW,hres _ _ _,hargs _ hold,hvars _ hold,World.keptBut_mono (fun p hp => ⟨hp, ?_⟩) (hB.frame (· ∈ before)),fun _ => ?_⟩
 ·rw [hps,List.mem_append] at hp
  exact Or.inr hp
 ·obtain ⟨_,_,_,_,_,hz,hn⟩ := hW
  refine ⟨hok,_,_,([] ++ pa) ++ pv,⟨[] ++ pa,pv,ChangeShapes.trodAll_append (hargs _ (fun _ _ => rfl)) (hres _ _ _),hvars _ (fun _ _ => rfl),rfl, ?_, ?_⟩, ?_⟩
  ·intro b off hp
   have hp' : MemPlace.cell b off ∈ before := by rw [hps]; simpa using hp
   rw [hB.frozen (hlt _ hp')]
   exact hz b off hp'
  ·intro ha
   have := hn ha
   rw [hps] at this
   simpa using this
  ·intro p hp _
   rw [hps]
   simpa using hp
end Go.RowKit
