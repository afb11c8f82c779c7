/- Of this program, for all inputs: contracts. No condition but those in the theorems. -/
import Derived.Test.YtfjcfjfgamajkaaPA
import Derived.Test.YtfjcfjfgamajkaaRA
namespace Go.Proofs.Ytfjcfjfgamajkaa
open Go Go.Ai Go.Aw Go.Proofs
open Nat renaming reduceBEq -> uB,reduceEqDiff -> uE,reduceLT -> uL,reduceAdd -> uA,reduceMul -> uM,reduceSub -> uS,reduceAnd -> uN,reduceXor -> uX,reduceOr -> uO
open Int renaming reduceMod -> vR,reduceDiv -> vD,reduceLT -> vL,reduceLE -> vK,reduceEq -> vE,reduceAdd -> vA,reduceMul -> vM,reduceToNat -> vT,reduceSub -> vS
set_option linter.unusedSimpArgs false
set_option linter.unusedVariables false
set_option maxRecDepth 10000
theorem MkI.ex' {h h' : Heap} {c c' : Col} {k : Nat} {v : AV} {ex ex' : List Nat} {l : List Img} (x : MkI h c k v ex l) (n : h.next <= h'.next) (g : ∀ j,j < h.next -> c j = k -> (∀ e ∈ ex,j ≠ e) -> (∀ q,h.get j ≠ some (.cells q 65 false)) -> h'.get j = h.get j) (e : ∀ j,j < h.next -> c j = k -> c' j = k) (hx : ∀ e ∈ ex',e ∈ ex \/ h.next <= e) : MkI h' c' k v ex' l := by
 have fx : ∀ j,j < h.next -> (∀ e ∈ ex,j ≠ e) -> ∀ e ∈ ex',j ≠ e := fun j hj x4 e he => by
  rcases hx e he with q | q
  ·exact x4 e q
  ·omega
 rcases x with x | ⟨K,ps,x0,x1,x2,x3,x4,x5,x6,x7⟩
 ·exact .inl x
 ·refine .inr ⟨K,ps,x0,x1,Nat.lt_of_lt_of_le x2 n,e _ x2 x3,fx K x2 x4,(g K x2 x3 x4 (fun q hq => by rw [x5] at hq; cases hq)).trans x5,x6,fun i p l hp hl => ?_⟩
  obtain ⟨q1,q2,q3,q4⟩ := x7 i p l hp hl
  exact ⟨Nat.lt_of_lt_of_le q1 n,e _ q1 q2,fx p q1 q3,(g p q1 q2 q3 (fun q hq => by rw [q4] at hq; cases hq)).trans q4⟩
theorem m_fail (d : Nat) (h : Heap) (c : Col) (k m : Nat) (S : MS) (I : MemI h c k m S) (w : S.wf) (on : Bool) :
  G (callD env (d + 3) 127 [.ptr m 0, .bool on] h) fun v h' => v = .int .i64 0 /\ MemI h' (pnt c h.next k) k m (S.fail on) /\ Fr (· = k) c h h' := by
 obtain ⟨a,b,lgv,mk,l1,l2,l3,c1,c2,c3,n1,n2,n3,hm,ha,hb,hlg,mks⟩ := I
 refine G.gen fun Q hX => ?_
 unfold memG at hm
 have e1 : decide (0 < (S.n : Int)) = true := decide_eq_true (by have := w.n0; omega)
 have fin : ∀ H : Heap,H.next = h.next -> H.get m = some (.cells (memG S.n a b lgv mk on (S.hurt || on)) 0 false) -> (∀ j,j < h.next -> j ≠ m -> H.get j = h.get j) -> G (some (.int .i64 0,H)) Q := by
  intro H hn hg hf
  subst hX
  refine G.ok ⟨rfl,⟨a,b,lgv,mk,by omega,by omega,by omega,pnt_e _ l1 c1,pnt_e _ l2 c2,pnt_e _ l3 c3,n1,n2,n3,hg,(hf a l2 (Ne.symm n1)).trans ha,(hf b l3 (Ne.symm n2)).trans hb,hlg.keep' (by omega) (fun j hj _ je => hf j hj (je m (by simp))) pnt_e,mks.keep (by omega) (fun j hj _ je _ => hf j hj (je m (by simp))) pnt_e⟩,⟨by omega,fun j hj hc => hf j hj fun e => hc (e ▸ c1)⟩⟩
 cases hh : S.hurt with
 | true =>
  rw [hh] at hm fin
  rw [callD_run (E := env) [] (by kernel_rfl) Try.func127 rfl (by rw [Try.ntmps127]; simp) (by kernel_rfl)]; simp (disch := first | omega | (simp only [SD.down,uA,uL] <;> omega) | fail) only [Try.ntmps127,Try.results127,env_P,env_L,hm,in59,Try.f59,e1,TQ.down,resE,oneV, ↓reduceIte,reduceCtorEq,uB,uE,uL,uA,uM,uS,vL,vK,vE,vA,vS]
  refine fin _ (by simp (disch := omega) only [TH.down,uA,uB]) (by simp (disch := omega) only [memG,Bool.true_or,TH.down,uA,uB]) fun j hj jm => by simp (disch := omega) only [TH.down,uA,uB]
 | false =>
  rw [hh] at hm fin
  rw [callD_run (E := env) [] (by kernel_rfl) Try.func127 rfl (by rw [Try.ntmps127]; simp) (by kernel_rfl)]; simp (disch := first | omega | (simp only [SD.down,uA,uL] <;> omega) | fail) only [Try.ntmps127,Try.results127,env_P,env_L,hm,in59,Try.f59,e1,TQ.down,resE,oneV, ↓reduceIte,reduceCtorEq,uB,uE,uL,uA,uM,uS,vL,vK,vE,vA,vS]
  refine fin _ (by simp (disch := omega) only [TH.down,uA,uB]) (by simp (disch := omega) only [memG,Bool.false_or,TH.down,uA,uB]) fun j hj jm => by simp (disch := omega) only [TH.down,uA,uB]
theorem mfin {h H : Heap} {c : Col} {k m a b a' b' : Nat} {S S' : MS} {mk lgv' mk' : AV} (l1 : m < h.next) (c1 : c m = k) (hmk : MkI h c k mk [m,a,b] S.marks) (hn : h.next <= H.next) (e1 : S'.marks = S.marks) (em : mk' = mk)
  (ha' : a' = a \/ h.next <= a') (hb' : b' = b \/ h.next <= b') (la : a' < H.next) (lb : b' < H.next) (ca : pnt c h.next k a' = k) (cb : pnt c h.next k b' = k) (n1 : m ≠ a') (n2 : m ≠ b') (n3 : a' ≠ b')
  (gm : H.get m = some (.cells (memG S'.n a' b' lgv' mk' S'.fails S'.hurt) 0 false)) (ga : H.get a' = some (.map (mapC S'.seen) false)) (gb : H.get b' = some (.map (mapC S'.dur) false)) (hlg : LogJ H (pnt c h.next k) k lgv' [m,a',b'] S'.lg)
  (gf : ∀ j,j < h.next -> c j = k -> j ≠ m -> j ≠ a -> j ≠ b -> (∀ q,h.get j ≠ some (.cells q 65 false)) -> H.get j = h.get j) (gF : ∀ j,j < h.next -> c j ≠ k -> H.get j = h.get j) : MemI H (pnt c h.next k) k m S' /\ Fr (· = k) c h H := by
 subst em
 refine ⟨⟨a',b',lgv',mk',by omega,la,lb,pnt_e _ l1 c1,ca,cb,n1,n2,n3,gm,ga,gb,hlg, ?_⟩,⟨hn,gF⟩⟩
 rw [e1]
 refine hmk.ex' hn (fun j hj hc je jq => gf j hj hc (je m (by simp)) (je a (by simp)) (je b (by simp)) jq) pnt_e fun e he => ?_
 simp only [List.mem_cons,List.not_mem_nil,or_false] at he ⊢
 rcases he with rfl | rfl | rfl
 ·exact .inl (.inl rfl)
 ·rcases ha' with q | q
  ·exact .inl (.inr (.inl q))
  ·exact .inr q
 ·rcases hb' with q | q
  ·exact .inl (.inr (.inr q))
  ·exact .inr q
theorem m_back (d : Nat) (h : Heap) (c : Col) (k m : Nat) (S : MS) (I : MemI h c k m S) (w : S.wf) (n : Int) :
  G (callD env (d + 4) 125 [.ptr m 0, .int .i64 n] h) fun v h' => (∃ e,v = .int .i64 e) /\ MemI h' (pnt c h.next k) k m (S.back n) /\ Fr (· = k) c h h' := by
 have I0 := I
 obtain ⟨a,b,lgv,mk,l1,l2,l3,c1,c2,c3,n1,n2,n3,hm,ha,hb,hlg,mks⟩ := I
 have hmk := mks
 refine G.gen fun Q hX => ?_
 unfold memG at hm
 have e1 : decide (0 < (S.n : Int)) = true := decide_eq_true (by have := w.n0; omega)
 have hl := mks.len
 have hok := mks.ok
 have hsm := mks.same
 have same : S.back n = S -> G (some (.int .i64 2,h)) Q := fun e => by
  subst hX
  rw [e]
  exact G.ok ⟨⟨_,rfl⟩,I0.keep (Nat.le_refl _) (fun _ _ _ => rfl) pnt_e, .refl _ _ _⟩
 by_cases h0 : n < 0
 ·have d0 : decide (n < 0) = true := decide_eq_true h0
  rw [callD_run (E := env) [(5, .fl [(14,0,1),(17,0,1)])] (by kernel_rfl) Try.func125 rfl (by rw [Try.ntmps125]; simp) (by kernel_rfl)]; simp (disch := first | omega | (simp only [SD.down,uA,uL] <;> omega) | fail) only [Try.ntmps125,Try.results125,env_P,env_L,hm,in59,Try.f59,e1,d0,hl,hok,hsm,TQ.down,resE,oneV, ↓reduceIte,reduceCtorEq,uB,uE,uL,uA,uM,uS,vL,vK,vE,vA,vS]
  exact same (if_pos h0)
 have d0 : decide (n < 0) = false := decide_eq_false h0
 obtain ⟨i,rfl⟩ : ∃ i : Nat,n = (i : Int) := ⟨n.toNat,by omega⟩
 by_cases h1 : S.marks.length <= i
 ·have d1 : decide ((S.marks.length : Int) <= (i : Int)) = true := decide_eq_true (by omega)
  rw [callD_run (E := env) [(5, .fl [(14,0,1),(17,0,1)])] (by kernel_rfl) Try.func125 rfl (by rw [Try.ntmps125]; simp) (by kernel_rfl)]; simp (disch := first | omega | (simp only [SD.down,uA,uL] <;> omega) | fail) only [Try.ntmps125,Try.results125,env_P,env_L,hm,in59,Try.f59,e1,d0,d1,hl,hok,hsm,TQ.down,resE,oneV, ↓reduceIte,reduceCtorEq,uB,uE,uL,uA,uM,uS,vL,vK,vE,vA,vS]
  refine same ?_
  unfold MS.back
  rw [if_neg h0,Int.toNat_natCast,List.getElem?_eq_none h1]
 have d1 : decide ((S.marks.length : Int) <= (i : Int)) = false := decide_eq_false (by omega)
 rcases mks with ⟨x0,_⟩ | ⟨K,ps,x0,rfl,x2,x3,x4,x5,x6,x7⟩
 ·rw [x0] at h1; simp at h1
 obtain ⟨l,hl'⟩ : ∃ l,S.marks[i]? = some l := ⟨_,List.getElem?_eq_getElem (by omega)⟩
 obtain ⟨p,hp⟩ : ∃ p,ps[i]? = some p := ⟨_,List.getElem?_eq_getElem (by omega)⟩
 obtain ⟨q1,q2,q3,q4⟩ := x7 i p l hp hl'
 have e : S.back i = { S with seen := l,dur := l,lg := [],hurt := true } := by
  unfold MS.back
  rw [if_neg h0,Int.toNat_natCast,hl']
 rw [e] at hX
 have hi : i < S.marks.length := by omega
 have h64 := w.mkl
 have hpm : (ps.map AV.map)[i]? = some (.map p) := by rw [List.getElem?_map,hp]; rfl
 rw [callD_run (E := env) [(5, .fl [(14,0,1),(17,0,1)])] (by kernel_rfl) Try.func125 rfl (by rw [Try.ntmps125]; simp) (by kernel_rfl)]; simp (disch := first | omega | (simp only [SD.down,uA,uL] <;> omega) | fail) only [Try.ntmps125,Try.results125,env_P,env_L,hm,in59,Try.f59,e1,d0,d1,hl,hok,hsm,x5,hpm,hi,TQ.down,resE,oneV, ↓reduceIte,reduceCtorEq,uB,uE,uL,uA,uM,uS,vL,vK,vE,vA,vS]
 refine G.callC (clone_ok d h p l q1 q4) ?_
 rintro v h1 ⟨rfl,rfl⟩
 simp (disch := omega) only [hm,x5,hpm,hi,hok,TQ.down,resE,oneV, ↓reduceIte,reduceCtorEq,uB,uE,uL,uA,uM,vE]
 refine G.callC (clone_ok d _ p l (by simp (disch := omega) only [TH.down,uA,uB]; omega) (by simp (disch := omega) only [q4,TH.down,uA,uB])) ?_
 rintro v h1 ⟨rfl,rfl⟩
 simp (disch := first | omega | (simp only [SD.down,uA,uL] <;> omega) | fail) only [hm,x5,hpm,hi,hok,TQ.down,resE,oneV, ↓reduceIte,reduceCtorEq,uB,uE,uL,uA,uM,uS,vL,vK,vE,vA,vS]
 subst hX
 exact G.ok ⟨⟨_,rfl⟩,mfin (a := a) (b := b) (a' := h.next) (b' := h.next + 1) (lgv' := .nilslice) l1 c1 hmk (by simp (maxSteps := 2000000) (implicitDefEqProofs := false) (disch := first | omega | (simp only [SD.down,uA,uL] <;> omega) | fail) only [TQ.down,resE,oneV, ↓reduceIte,reduceCtorEq,uB,uE,uL,uA,uM,uS,uN,uX,uO,vR,vD,vL,vK,vE,vA,vM,vT,vS]; omega) rfl rfl (.inr (Nat.le_refl _)) (.inr (by omega)) (by simp (maxSteps := 2000000) (implicitDefEqProofs := false) (disch := first | omega | (simp only [SD.down,uA,uL] <;> omega) | fail) only [TQ.down,resE,oneV, ↓reduceIte,reduceCtorEq,uB,uE,uL,uA,uM,uS,uN,uX,uO,vR,vD,vL,vK,vE,vA,vM,vT,vS]; omega) (by simp (maxSteps := 2000000) (implicitDefEqProofs := false) (disch := first | omega | (simp only [SD.down,uA,uL] <;> omega) | fail) only [TQ.down,resE,oneV, ↓reduceIte,reduceCtorEq,uB,uE,uL,uA,uM,uS,uN,uX,uO,vR,vD,vL,vK,vE,vA,vM,vT,vS]; omega) (pnt_ge (Nat.le_refl _)) (pnt_ge (by omega)) (by omega) (by omega) (by omega) (by simp (maxSteps := 2000000) (implicitDefEqProofs := false) (disch := first | omega | (simp only [SD.down,uA,uL] <;> omega) | fail) only [memG,TQ.down,resE,oneV, ↓reduceIte,reduceCtorEq,uB,uE,uL,uA,uM,uS,uN,uX,uO,vR,vD,vL,vK,vE,vA,vM,vT,vS]) (by simp (maxSteps := 2000000) (implicitDefEqProofs := false) (disch := first | omega | (simp only [SD.down,uA,uL] <;> omega) | fail) only [TQ.down,resE,oneV, ↓reduceIte,reduceCtorEq,uB,uE,uL,uA,uM,uS,uN,uX,uO,vR,vD,vL,vK,vE,vA,vM,vT,vS]) (by simp (maxSteps := 2000000) (implicitDefEqProofs := false) (disch := first | omega | (simp only [SD.down,uA,uL] <;> omega) | fail) only [TQ.down,resE,oneV, ↓reduceIte,reduceCtorEq,uB,uE,uL,uA,uM,uS,uN,uX,uO,vR,vD,vL,vK,vE,vA,vM,vT,vS]) (.inl ⟨rfl, .inl rfl⟩) (fun j hj hc jm ja jb jq => by simp (maxSteps := 2000000) (implicitDefEqProofs := false) (disch := first | omega | (simp only [SD.down,uA,uL] <;> omega) | fail) only [TQ.down,resE,oneV, ↓reduceIte,reduceCtorEq,uB,uE,uL,uA,uM,uS,uN,uX,uO,vR,vD,vL,vK,vE,vA,vM,vT,vS]) (fun j hj hc => by
  have : j ≠ m := fun e => hc (e ▸ c1)
  simp (disch := first | omega | (simp only [SD.down,uA,uL] <;> omega) | fail) only [TQ.down,resE,oneV, ↓reduceIte,reduceCtorEq,uB,uE,uL,uA,uM,uS,vL,vK,vE,vA,vS])⟩
theorem el127 : Elem Try.prog 127 125 0 ((Try.prog.info? 125).getD default) ((((Try.prog.info? 125).getD default).zero).getD default) := ⟨Try.underlying127,by kernel_rfl,by kernel_rfl,by kernel_rfl,by kernel_rfl,by decide +kernel⟩
theorem bs127 (r : Nat) (h : Heap) : bsE Try.prog 127 1 [(0, .map r)] h = some (.slice h.next 0 1 1,h.new (.cells [.map r] 0 false)) := bsE_of (fun K => by kernel_rfl) h
theorem ap127 (call : CallK) (ρ : Operand -> AV) (dd : Option Tmp) (t : TypeId) (p : String) (a : Array Edge) (g : Option (Nat × Bool)) (h : Heap) (s x : Operand) : opE Try.prog call ρ ⟨dd, .call ⟨.builtin .append,#[s,x],#[127,127]⟩,t,p,a,g⟩ h = th (okv (ρ s)) fun u => th (okv (ρ x)) fun v => appE Try.prog 127 u v h := opE_append Try.underlying127 s x
theorem m_mark (d : Nat) (h : Heap) (c : Col) (k m : Nat) (S : MS) (I : MemI h c k m S) (w : S.wf) :
  G (callD env (d + 4) 123 [.ptr m 0] h) fun v h' => (∃ e f,v = .tup [.int .i64 e, .int .i64 f]) /\ MemI h' (pnt c h.next k) k m S.mark /\ Fr (· = k) c h h' := by
 have I0 := I
 obtain ⟨a,b,lgv,mk,l1,l2,l3,c1,c2,c3,n1,n2,n3,hm,ha,hb,hlg,mks⟩ := I
 have hmk := mks
 refine G.gen fun Q hX => ?_
 unfold memG at hm
 have e1 : decide (0 < (S.n : Int)) = true := decide_eq_true (by have := w.n0; omega)
 have hl := mks.len
 have hok := mks.ok
 have hsm := mks.same
 by_cases h0 : S.marks.length = 64
 ·have d0 : decide ((S.marks.length : Int) = 64) = true := decide_eq_true (by omega)
  rw [callD_run (E := env) [(5, .fl [(4,0,2)])] (by kernel_rfl) Try.func123 rfl (by rw [Try.ntmps123]; simp) (by kernel_rfl)]; simp (disch := first | omega | (simp only [SD.down,uA,uL] <;> omega) | fail) only [Try.ntmps123,Try.results123,env_P,env_L,hm,in59,Try.f59,e1,d0,hl,hok,hsm,TQ.down,resE,oneV, ↓reduceIte,reduceCtorEq,uB,uE,uL,uA,uM,uS,vL,vK,vE,vA,vS]
  subst hX
  have e : S.mark = S := if_pos h0
  rw [e]
  exact G.ok ⟨⟨_,_,rfl⟩,I0.keep (Nat.le_refl _) (fun _ _ _ => rfl) pnt_e, .refl _ _ _⟩
 have d0 : decide ((S.marks.length : Int) = 64) = false := decide_eq_false (by omega)
 have h64 := w.mkl
 have e : S.mark = { S with marks := S.marks ++ [S.seen] } := if_neg h0
 rw [e] at hX
 have fin : ∀ (H : Heap) (ps : List Nat),ps.length = S.marks.length -> (∀ (i p : Nat) (l : Img),ps[i]? = some p -> S.marks[i]? = some l -> p < h.next /\ c p = k /\ (∀ e ∈ [m,a,b],p ≠ e) /\ h.get p = some (.map (mapC l) false)) -> H.next = h.next + 3 ->
   H.get m = some (.cells (memG S.n a b lgv (.eslice (h.next + 2) 0 0 (S.marks.length + 1)) S.fails S.hurt) 0 false) -> H.get (h.next + 2) = some (.cells (ps.map AV.map ++ [.map h.next]) 1 false) -> H.get h.next = some (.map (mapC S.seen) false) ->
   (∀ j,j < h.next -> j ≠ m -> (∀ q,h.get j ≠ some (.cells q 1 false)) -> H.get j = h.get j) -> (∀ j,j < h.next -> c j ≠ k -> H.get j = h.get j) -> ∀ e f,G (some (.tup [.int .i64 e, .int .i64 f],H)) Q := by
  intro H ps p1 p2 hn gm gK gs gf gF e f
  subst hX
  have ga := (gf a l2 (Ne.symm n1) (fun q hq => by rw [ha] at hq; cases hq)).trans ha
  have gb := (gf b l3 (Ne.symm n2) (fun q hq => by rw [hb] at hq; cases hq)).trans hb
  refine G.ok ⟨⟨e,f,rfl⟩,⟨a,b,lgv,_,by omega,by omega,by omega,pnt_e _ l1 c1,pnt_e _ l2 c2,pnt_e _ l3 c3,n1,n2,n3,gm,ga,gb, ?_, .inr ⟨h.next + 2,ps ++ [h.next],by simp,by simp,by omega,pnt_ge (by omega),fun e he => ?_,by rw [gK]; simp,by simp [p1],fun i p l hp hl => ?_⟩⟩,⟨by omega,gF⟩⟩
  ·rcases hlg with x | ⟨L,junk,rfl,q1,q2,q3,q4⟩
   ·exact .inl x
   ·exact .inr ⟨L,junk,rfl,by omega,pnt_e _ q1 q2,q3,(gf L q1 (q3 m (by simp)) (fun q hq => by rw [q4] at hq; cases hq)).trans q4⟩
  ·simp only [List.mem_cons,List.not_mem_nil,or_false] at he
   rcases he with rfl | rfl | rfl <;> omega
  ·by_cases hi : i < ps.length
   ·rw [List.getElem?_append_left hi] at hp
    rw [List.getElem?_append_left (by omega)] at hl
    obtain ⟨r1,r2,r3,r4⟩ := p2 i p l hp hl
    exact ⟨by omega,pnt_e _ r1 r2,r3,(gf p r1 (r3 m (by simp)) (fun q hq => by rw [r4] at hq; cases hq)).trans r4⟩
   ·rw [List.getElem?_append_right (by omega)] at hp
    rw [List.getElem?_append_right (by omega)] at hl
    rw [p1] at hp
    have : i - S.marks.length = 0 := by
     have := (List.getElem?_eq_some_iff.1 hp).1
     simp at this; omega
    rw [this] at hp hl
    simp at hp hl
    subst hp; subst hl
    refine ⟨by omega,pnt_ge (Nat.le_refl _),fun e he => ?_,gs⟩
    simp only [List.mem_cons,List.not_mem_nil,or_false] at he
    rcases he with rfl | rfl | rfl <;> omega
 rw [callD_run (E := env) [(5, .fl [(4,0,2)])] (by kernel_rfl) Try.func123 rfl (by rw [Try.ntmps123]; simp) (by kernel_rfl)]; simp (disch := first | omega | (simp only [SD.down,uA,uL] <;> omega) | fail) only [Try.ntmps123,Try.results123,env_P,env_L,hm,in59,Try.f59,e1,d0,hl,hok,hsm,TQ.down,resE,oneV, ↓reduceIte,reduceCtorEq,uB,uE,uL,uA,uM,uS,vL,vK,vE,vA,vS]
 refine G.callC (clone_ok d h a S.seen l2 ha) ?_
 rintro v h1 ⟨rfl,rfl⟩
 simp (disch := omega) only [hm,hl,hok,hsm,cls_append,bs127,ap127,TQ.down,resE,oneV, ↓reduceIte,reduceCtorEq,uB,uE,uL,uA,uM,vE]
 rcases mks with ⟨x0,rfl⟩ | ⟨K,ps,x0,rfl,x2,x3,x4,x5,x6,x7⟩
 ·rw [app_nil el127 (kx := h.next + 1) (ex := 0) (ro := false) (cs := [.map h.next]) (nw := [.map h.next]) (by simp (disch := first | omega | (simp only [SD.down,uA,uL] <;> omega) | fail) only [TQ.down,resE,oneV, ↓reduceIte,reduceCtorEq,uB,uE,uL,uA,uM,uS,vL,vK,vE,vA,vS]) rfl rfl rfl]
  simp (disch := first | omega | (simp only [SD.down,uA,uL] <;> omega) | fail) only [hm,cls_append,bs127,ap127,TQ.down,resE,oneV, ↓reduceIte,reduceCtorEq,uB,uE,uL,uA,uM,uS,vL,vK,vE,vA,vS]
  have ml : S.marks.length = 0 := by rw [x0]; rfl
  exact fin _ [] (by rw [x0]; rfl) (fun i p l hp => by simp at hp) (by simp (maxSteps := 2000000) (implicitDefEqProofs := false) (disch := first | omega | (simp only [SD.down,uA,uL] <;> omega) | fail) only [TQ.down,resE,oneV, ↓reduceIte,reduceCtorEq,uB,uE,uL,uA,uM,uS,uN,uX,uO,vR,vD,vL,vK,vE,vA,vM,vT,vS]) (by simp (maxSteps := 2000000) (implicitDefEqProofs := false) (disch := first | omega | (simp only [SD.down,uA,uL] <;> omega) | fail) only [memG,ml,TQ.down,resE,oneV, ↓reduceIte,reduceCtorEq,uB,uE,uL,uA,uM,uS,uN,uX,uO,vR,vD,vL,vK,vE,vA,vM,vT,vS]) (by simp (maxSteps := 2000000) (implicitDefEqProofs := false) (disch := first | omega | (simp only [SD.down,uA,uL] <;> omega) | fail) only [TQ.down,resE,oneV, ↓reduceIte,reduceCtorEq,uB,uE,uL,uA,uM,uS,uN,uX,uO,vR,vD,vL,vK,vE,vA,vM,vT,vS]) (by simp (maxSteps := 2000000) (implicitDefEqProofs := false) (disch := first | omega | (simp only [SD.down,uA,uL] <;> omega) | fail) only [TQ.down,resE,oneV, ↓reduceIte,reduceCtorEq,uB,uE,uL,uA,uM,uS,uN,uX,uO,vR,vD,vL,vK,vE,vA,vM,vT,vS]) (fun j hj jm jq => by simp (maxSteps := 2000000) (implicitDefEqProofs := false) (disch := first | omega | (simp only [SD.down,uA,uL] <;> omega) | fail) only [TQ.down,resE,oneV, ↓reduceIte,reduceCtorEq,uB,uE,uL,uA,uM,uS,uN,uX,uO,vR,vD,vL,vK,vE,vA,vM,vT,vS]) (fun j hj hc => by
   have : j ≠ m := fun e => hc (e ▸ c1)
   simp (maxSteps := 2000000) (implicitDefEqProofs := false) (disch := first | omega | (simp only [SD.down,uA,uL] <;> omega) | fail) only [TQ.down,resE,oneV, ↓reduceIte,reduceCtorEq,uB,uE,uL,uA,uM,uS,uN,uX,uO,vR,vD,vL,vK,vE,vA,vM,vT,vS]) _ _
 ·have kk := x4 m (by simp)
  have hll : (ps.map AV.map).length = S.marks.length * (0 + 1) := by simp [x6]
  rw [app_ej el127 (old := ps.map AV.map) (junk := []) (kx := h.next + 1) (ex := 0) (ro := false) (cs := [.map h.next]) (nw := [.map h.next]) (by simp (maxSteps := 2000000) (implicitDefEqProofs := false) (disch := first | omega | (simp only [SD.down,uA,uL] <;> omega) | fail) only [TQ.down,resE,oneV, ↓reduceIte,reduceCtorEq,uB,uE,uL,uA,uM,uS,uN,uX,uO,vR,vD,vL,vK,vE,vA,vM,vT,vS]; exact x5) hll (by omega) (by simp (disch := first | omega | (simp only [SD.down,uA,uL] <;> omega) | fail) only [TQ.down,resE,oneV, ↓reduceIte,reduceCtorEq,uB,uE,uL,uA,uM,uS,vL,vK,vE,vA,vS]) rfl rfl rfl]
  simp (disch := first | omega | (simp only [SD.down,uA,uL] <;> omega) | fail) only [hm,cls_append,bs127,ap127,TQ.down,resE,oneV, ↓reduceIte,reduceCtorEq,uB,uE,uL,uA,uM,uS,vL,vK,vE,vA,vS]
  exact fin _ ps x6 x7 (by simp (maxSteps := 2000000) (implicitDefEqProofs := false) (disch := first | omega | (simp only [SD.down,uA,uL] <;> omega) | fail) only [TQ.down,resE,oneV, ↓reduceIte,reduceCtorEq,uB,uE,uL,uA,uM,uS,uN,uX,uO,vR,vD,vL,vK,vE,vA,vM,vT,vS]) (by simp (maxSteps := 2000000) (implicitDefEqProofs := false) (disch := first | omega | (simp only [SD.down,uA,uL] <;> omega) | fail) only [memG,TQ.down,resE,oneV, ↓reduceIte,reduceCtorEq,uB,uE,uL,uA,uM,uS,uN,uX,uO,vR,vD,vL,vK,vE,vA,vM,vT,vS]) (by simp (maxSteps := 2000000) (implicitDefEqProofs := false) (disch := first | omega | (simp only [SD.down,uA,uL] <;> omega) | fail) only [TQ.down,resE,oneV, ↓reduceIte,reduceCtorEq,uB,uE,uL,uA,uM,uS,uN,uX,uO,vR,vD,vL,vK,vE,vA,vM,vT,vS]) (by simp (maxSteps := 2000000) (implicitDefEqProofs := false) (disch := first | omega | (simp only [SD.down,uA,uL] <;> omega) | fail) only [TQ.down,resE,oneV, ↓reduceIte,reduceCtorEq,uB,uE,uL,uA,uM,uS,uN,uX,uO,vR,vD,vL,vK,vE,vA,vM,vT,vS]) (fun j hj jm jq => by
   have : j ≠ K := fun e => jq _ (e ▸ x5)
   simp (maxSteps := 2000000) (implicitDefEqProofs := false) (disch := first | omega | (simp only [SD.down,uA,uL] <;> omega) | fail) only [TQ.down,resE,oneV, ↓reduceIte,reduceCtorEq,uB,uE,uL,uA,uM,uS,uN,uX,uO,vR,vD,vL,vK,vE,vA,vM,vT,vS]) (fun j hj hc => by
   have j1 : j ≠ m := fun e => hc (e ▸ c1)
   have j2 : j ≠ K := fun e => hc (e ▸ x3)
   simp (maxSteps := 2000000) (implicitDefEqProofs := false) (disch := first | omega | (simp only [SD.down,uA,uL] <;> omega) | fail) only [TQ.down,resE,oneV, ↓reduceIte,reduceCtorEq,uB,uE,uL,uA,uM,uS,uN,uX,uO,vR,vD,vL,vK,vE,vA,vM,vT,vS]) _ _
theorem set1_ok (d : Nat) (H : Heap) (p : Nat) (i : Int) (x : Int × List Nat) (hx : x.2.length = 64) (hp : H.get p = some (.cells [.int .i64 i] 0 false)) (pl : p < H.next) :
  G (callD env (d + 1) 146 [.agg (wrC x.1 x.2), .ptr p 0] H) fun v h' => v = .bool (decide (x.1 = i)) /\ Keeps H h' := by
 refine G.gen fun Q hX => ?_
 have hwl := wrC_len x.1 x.2 hx
 rw [callD_run (E := env) [] (by kernel_rfl) Try.func146 rfl (by rw [Try.ntmps146]; simp) (by kernel_rfl)]; simp (disch := first | omega | (simp only [SD.down,uA,uL] <;> omega) | fail) only [Try.ntmps146,Try.results146,env_P,env_L,hp,hwl,wrZ_fold,wr_over0 x.1 0 x.2 zz hx zz_len,wrC_0,wrC_d x.1 x.2 hx,wrC_cut x.1 x.2 hx,TQ.down,resE,oneV, ↓reduceIte,reduceCtorEq,uB,uE,uL,uA,uM,uS,vL,vK,vE,vA,vS]
 subst hX
 exact G.ok ⟨rfl,⟨by simp (disch := omega) only [TH.down,uA,uB]; omega,fun j hj => by simp (disch := omega) only [TH.down,uA,uB]⟩⟩
theorem idx_ok (d : Nat) (h : Heap) (L p : Nat) (i : Int) (l : Img) (junk : List AV) (hl : Img.ok l) (hn : l.length < 4000) (hL : h.get L = some (.cells (logC l ++ junk) 65 false)) (Ll : L < h.next) (hp : h.get p = some (.cells [.int .i64 i] 0 false)) (pl : p < h.next) :
  G (callD env (d + 3) 152 [.eslice L 0 0 l.length, .func (.func 146) [] [.ptr p 0]] h) fun v h' => Keeps h h' /\ ((v = .int .i64 (-1) /\ ∀ x ∈ l,x.1 ≠ i) \/ ∃ q x,v = .int .i64 ((q : Nat) : Int) /\ l[q]? = some x /\ x.1 = i /\ ∀ y ∈ l.take q,y.1 ≠ i) := by
 refine G.gen fun Q hX => ?_
 rw [callD_run (E := env) [] (by kernel_rfl) Try.func152 rfl (by rw [Try.ntmps152]; simp) (by kernel_rfl)]; simp (disch := first | omega | (simp only [SD.down,uA,uL] <;> omega) | fail) only [Try.ntmps152,Try.results152,env_P,env_L,TQ.down,resE,oneV, ↓reduceIte,reduceCtorEq,uB,uE,uL,uA,uM,uS,vL,vK,vE,vA,vS]
 rw [run_loop]
 refine loop_ind (fun j σ hh => ∃ q,q + j = l.length /\ σ 0 = .eslice L 0 0 l.length /\ σ 1 = .func (.func 146) [] [.ptr p 0] /\ σ 6 = .eslice L 0 0 l.length /\ σ 7 = .int .i64 (l.length : Int) /\ σ 8 = .int .i64 (q : Int) /\ Keeps h hh /\ ∀ y ∈ l.take q,y.1 ≠ i) ?_ ?_ l.length _ _ _ (by simp; omega) ?_
 ·rintro mm σ hh ⟨q,hq,s0,s1,s6,s7,s8,kp,hno⟩
  obtain rfl : q = l.length := by omega
  rw [List.take_of_length_le (Nat.le_refl _)] at hno
  simp (disch := first | omega | (simp only [SD.down,uA,uL] <;> omega) | fail) only [run_it,s0,s1,s6,s7,s8,env_P,env_L,TQ.down,resE,oneV, ↓reduceIte,reduceCtorEq,uB,uE,uL,uA,uM,uS,vL,vK,vE,vA,vS]
  subst hX
  exact G.ok ⟨kp, .inl ⟨rfl,hno⟩⟩
 ·rintro j mm σ hh ⟨q,hq,s0,s1,s6,s7,s8,kp,hno⟩ ih
  have hql : q < l.length := by omega
  obtain ⟨x,hx⟩ : ∃ x,l[q]? = some x := ⟨_,List.getElem?_eq_getElem hql⟩
  have hcut := logC_cutj hl junk hx
  have hxl := hl x (List.mem_of_getElem? hx)
  have hwl := wrC_len x.1 x.2 hxl
  have gL := (kp.2 L Ll).trans hL
  have kpn := kp.1
  simp (disch := first | omega | (simp only [SD.down,uA,uL] <;> omega) | fail) only [run_it,s0,s1,s6,s7,s8,gL,hcut,hwl,wrZ_fold,wr_over0 x.1 0 x.2 zz hxl zz_len,wrC_0,wrC_d x.1 x.2 hxl,wrC_cut x.1 x.2 hxl,env_P,env_L,TQ.down,resE,oneV, ↓reduceIte,reduceCtorEq,uB,uE,uL,uA,uM,uS,vL,vK,vE,vA,vS]
  refine G.call (set1_ok (d + 1) hh p i x hxl ((kp.2 p pl).trans hp) (by omega)) ?_
  rintro v h1 ⟨rfl,kp1⟩
  by_cases he : x.1 = i
  ·have de : decide (x.1 = i) = true := decide_eq_true he
   simp (disch := first | omega | (simp only [SD.down,uA,uL] <;> omega) | fail) only [run_it,de,s0,s1,s6,s7,s8,env_P,env_L,TQ.down,resE,oneV, ↓reduceIte,reduceCtorEq,uB,uE,uL,uA,uM,uS,vL,vK,vE,vA,vS]
   subst hX
   exact G.ok ⟨kp.trans kp1, .inr ⟨q,x,rfl,hx,he,hno⟩⟩
  ·have de : decide (x.1 = i) = false := decide_eq_false he
   simp (disch := first | omega | (simp only [SD.down,uA,uL] <;> omega) | fail) only [run_it,de,s0,s1,s6,s7,s8,env_P,env_L,TQ.down,resE,oneV, ↓reduceIte,reduceCtorEq,uB,uE,uL,uA,uM,uS,vL,vK,vE,vA,vS]
   refine ih _ _ ⟨q + 1,by omega,by simp (disch := omega) only [s0,TH.down,uA,uB],by simp (disch := omega) only [s1,TH.down,uA,uB],by simp (disch := omega) only [s6,TH.down,uA,uB],by simp (disch := omega) only [s7,TH.down,uA,uB],by simp (disch := omega) only [TH.down,uA,uB],kp.trans kp1,fun y hy => ?_⟩
   rw [List.take_add_one,hx] at hy
   rcases List.mem_append.1 hy with hy | hy
   ·exact hno y hy
   ·simp at hy; subst hy; exact he
 ·exact ⟨0,by omega,by simp (disch := omega) only [TQ.down,resE,oneV, ↓reduceIte,reduceCtorEq,uB,uE,uL,uA,uM,vE],by simp (disch := omega) only [TQ.down,resE,oneV, ↓reduceIte,reduceCtorEq,uB,uE,uL,uA,uM,vE],by simp (disch := omega) only [TQ.down,resE,oneV, ↓reduceIte,reduceCtorEq,uB,uE,uL,uA,uM,vE],by simp (disch := omega) only [TQ.down,resE,oneV, ↓reduceIte,reduceCtorEq,uB,uE,uL,uA,uM,vE],by simp (disch := omega) only [TQ.down,resE,oneV, ↓reduceIte,reduceCtorEq,uB,uE,uL,uA,uM,vE], .refl _,by simp⟩
end Go.Proofs.Ytfjcfjfgamajkaa
namespace Go.Aw
open Go Go.Ai
set_option linter.unusedSimpArgs false
set_option linter.unusedVariables false
section
variable {P : Program} {β : Type} {call : CallK} {ρ : Operand -> AV} {h : Heap} {dd : Option Tmp} {t : TypeId} {p : String} {a : Array Edge} {g : Option (Nat × Bool)}
theorem cls_clear (xs : Array Operand) (ts : Array TypeId) : cls P ⟨dd, .call ⟨.builtin .clear,xs,ts⟩,t,p,a,g⟩ = .e := rfl
theorem opE_clear (T : TypeId) (x : Operand) : opE P call ρ ⟨dd, .call ⟨.builtin .clear,#[x],#[T]⟩,t,p,a,g⟩ h = th (okv (ρ x)) fun u => th (clearE P h T u) fun h => some (undefA,h) := by
 unfold opE opK
 rw [cls_clear]
 simp only [effK,List.getElem?_toArray,List.getElem?_cons_zero,okK_E,clearK_E]
 rfl
theorem clear_es {T e : TypeId} (hu : P.underlying T = some (.slice e)) {z : AV} (hz : zeroE P e = some z) {k off i n ext : Nat} {cs cs' : List AV} (hg : h.get k = some (.cells cs ext false)) (ho : overE off (repL (n + 1) z.cells) cs = some cs') (hne : repL (n + 1) z.cells ≠ []) :
  clearE P h T (.eslice k off i (n + 1)) = some (h.put k (some (.cells cs' ext false))) := by
 unfold clearE clearK
 simp only [unK_E,hu,th_some,zeroK_E,hz,cellsK_eq,repK_eq,storeCK_E]
 cases hr : repL (n + 1) z.cells with
 | nil => exact absurd hr hne
 | cons v vs =>
  rw [hr] at ho
  simp only [storeCE,hg,ho,th_some]
end
theorem over_mid {o : Nat} {a b b' c : List AV} (ho : o = a.length) (hb : b'.length = b.length) (hs : allSc b' = true) : overE o b' (a ++ (b ++ c)) = some (a ++ (b' ++ c)) := by
 subst ho
 unfold overE
 rw [if_pos ⟨by simp [hb],hs⟩]
 congr 1
 rw [List.take_left,hb,<- List.drop_drop,List.drop_left,List.drop_left,List.append_assoc]
theorem cut_mid {o n : Nat} {a b c : List AV} (ho : o = a.length) (hn : n = b.length) : cutE o n (a ++ (b ++ c)) = some b := by
 subst ho; subst hn
 rw [cutE_of (by simp),List.drop_left,List.take_left]
end Go.Aw
namespace Go.Proofs.Ytfjcfjfgamajkaa
open Go Go.Ai Go.Aw Go.Proofs
open Nat renaming reduceBEq -> uB,reduceEqDiff -> uE,reduceLT -> uL,reduceAdd -> uA,reduceMul -> uM,reduceSub -> uS,reduceAnd -> uN,reduceXor -> uX,reduceOr -> uO
open Int renaming reduceMod -> vR,reduceDiv -> vD,reduceLT -> vL,reduceLE -> vK,reduceEq -> vE,reduceAdd -> vA,reduceMul -> vM,reduceToNat -> vT,reduceSub -> vS
set_option linter.unusedSimpArgs false
set_option linter.unusedVariables false
set_option maxRecDepth 10000
theorem filt_all {i : Int} {l : Img} (h : ∀ x ∈ l,x.1 ≠ i) : l.filter (fun x => decide (x.1 ≠ i)) = l := List.filter_eq_self.2 fun x hx => by simpa using h x hx
theorem filt_ok {i : Int} {l : Img} (h : Img.ok l) : Img.ok (l.filter fun x => decide (x.1 ≠ i)) := fun x hx => h x (List.mem_filter.1 hx).1
theorem logC_app (a b : Img) : logC (a ++ b) = logC a ++ logC b := by simp [logC]
theorem logC_one (x : Int × List Nat) : logC [x] = wrC x.1 x.2 := by simp [logC]
theorem drop_get {α : Type} {l : List α} {t : Nat} {y : α} (h : l[t]? = some y) : l.drop t = y :: l.drop (t + 1) := by
 obtain ⟨h1,h2⟩ := List.getElem?_eq_some_iff.1 h
 rw [List.drop_eq_getElem_cons h1,h2]
theorem filt_snoc {i : Int} {l : Img} {t : Nat} {y : Int × List Nat} (h : l[t]? = some y) : (l.take (t + 1)).filter (fun x => decide (x.1 ≠ i)) = (l.take t).filter (fun x => decide (x.1 ≠ i)) ++ if y.1 = i then [] else [y] := by
 rw [List.take_add_one,h,List.filter_append]
 congr 1
 by_cases e : y.1 = i <;> simp [e]
theorem z133 : ∃ z,zeroE Try.prog 133 = some z /\ z.cells.length = 65 /\ allSc z.cells = true := ⟨(zeroE Try.prog 133).getD .nilptr,by kernel_rfl,by kernel_rfl,by kernel_rfl⟩
theorem repL_len (n : Nat) (l : List AV) : (repL n l).length = n * l.length := by
 induction n with
 | zero => simp [repL]
 | succ n ih => rw [repL,List.length_append,ih,Nat.succ_mul,Nat.add_comm]
theorem repL_sc (n : Nat) {l : List AV} (h : allSc l = true) : allSc (repL n l) = true := by
 induction n with
 | zero => rfl
 | succ n ih => rw [repL]; simp only [allSc,List.all_append] at h ih ⊢; rw [h,ih]; rfl
theorem del_ok (d : Nat) (h : Heap) (L p : Nat) (i : Int) (l : Img) (junk : List AV) (hl : Img.ok l) (hn : l.length < 4000) (hL : h.get L = some (.cells (logC l ++ junk) 65 false)) (Ll : L < h.next) (hp : h.get p = some (.cells [.int .i64 i] 0 false)) (pl : p < h.next) (hpL : p ≠ L) :
  G (callD env (d + 4) 145 [.eslice L 0 0 l.length, .func (.func 146) [] [.ptr p 0]] h) fun v h' => v = .eslice L 0 0 (l.filter fun x => decide (x.1 ≠ i)).length /\ (∃ junk',h'.get L = some (.cells (logC (l.filter fun x => decide (x.1 ≠ i)) ++ junk') 65 false)) /\ h.next <= h'.next /\ ∀ j,j < h.next -> j ≠ L -> h'.get j = h.get j := by
 refine G.gen fun Q hX => ?_
 rw [callD_run (E := env) [] (by kernel_rfl) Try.func145 rfl (by rw [Try.ntmps145]; simp) (by kernel_rfl)]; simp (disch := first | omega | (simp only [SD.down,uA,uL] <;> omega) | fail) only [Try.ntmps145,Try.results145,env_P,env_L,TQ.down,resE,oneV, ↓reduceIte,reduceCtorEq,uB,uE,uL,uA,uM,uS,vL,vK,vE,vA,vS]
 refine G.call (idx_ok d h L p i l junk hl hn hL Ll hp pl) ?_
 rintro v h1 ⟨kp,⟨rfl,hno⟩ | ⟨q,x,rfl,hx,he,hno⟩⟩
 ·simp (disch := omega) only [TQ.down,resE,oneV, ↓reduceIte,reduceCtorEq,uB,uE,uL,uA,uM,vE]
  rw [filt_all hno] at hX
  subst hX
  exact G.ok ⟨rfl,⟨junk,(kp.2 L Ll).trans hL⟩,kp.1,fun j hj _ => kp.2 j hj⟩
 have kpn := kp.1
 have dq : decide (((q : Nat) : Int) = -1) = false := decide_eq_false (by omega)
 have hql := (List.getElem?_eq_some_iff.1 hx).1
 simp (disch := omega) only [dq,TQ.down,resE,oneV, ↓reduceIte,reduceCtorEq,uB,uE,uL,uA,uM,vE]
 rw [run_loop]
 refine loop_ind (fun j σ hh => ∃ t f mid C,t + j = l.length /\ f = (l.take t).filter (fun x => decide (x.1 ≠ i)) /\ f.length < t /\ σ 0 = .eslice L 0 0 l.length /\ σ 1 = .func (.func 146) [] [.ptr p 0] /\ σ 5 = .int .i64 (f.length : Int) /\ σ 6 = .int .i64 (t : Int) /\ hh.get L = some (.cells C 65 false) /\ C = logC f ++ (mid ++ (logC (l.drop t) ++ junk)) /\ mid.length = (t - f.length) * 65 /\ h.next <= hh.next /\ ∀ j,j < h.next -> j ≠ L -> hh.get j = h.get j) ?_ ?_ (l.length - (q + 1)) _ _ _ (by simp; omega) ?_
 ·rintro mm σ hh ⟨t,f,mid,C,ht,hf,hft,s0,s1,s5,s6,gL,hC,hmid,gn,gf⟩
  obtain rfl : t = l.length := by omega
  rw [List.take_of_length_le (Nat.le_refl _)] at hf
  obtain ⟨z,hz,hzl,hzs⟩ := z133
  obtain ⟨n,hn1⟩ : ∃ n,l.length - f.length = n + 1 := ⟨l.length - f.length - 1,by omega⟩
  have fok : Img.ok f := hf ▸ filt_ok hl
  have fll := logC_len fok
  have hd0 : logC (l.drop l.length) = [] := by rw [List.drop_length]; rfl
  rw [hd0,List.nil_append] at hC
  have hsz : szE Try.prog 133 = some 65 := by kernel_rfl
  have hsl := sl_es_lo (P := Try.prog) Try.underlying126 hsz L 0 0 l.length (q := .i64) f.length hft
  rw [Nat.zero_add,Nat.zero_add,hn1] at hsl
  have hsh := sl_es_hi (P := Try.prog) Try.underlying126 hsz L 0 0 l.length (q := .i64) f.length (by omega)
  have hrl : (repL (n + 1) z.cells).length = (n + 1) * 65 := by rw [repL_len,hzl]
  have hcl := clear_es (h := hh) (i := f.length) Try.underlying126 hz gL (by rw [hC]; exact over_mid fll.symm (by rw [hrl,hmid,hn1]) (repL_sc _ hzs)) (fun e => by rw [e] at hrl; simp at hrl)
  simp (disch := first | omega | (simp only [SD.down,uA,uL] <;> omega) | fail) only [run_it,s0,s1,s5,s6,cls_clear,opE_clear,hsl,hsh,hcl,env_P,env_L,TQ.down,resE,oneV, ↓reduceIte,reduceCtorEq,uB,uE,uL,uA,uM,uS,vL,vK,vE,vA,vS]
  subst hX
  rw [hf]
  exact G.ok ⟨rfl,⟨repL (n + 1) z.cells ++ junk,by simp (disch := omega) only [TH.down,uA,uB]⟩,by simp (disch := omega) only [TH.down,uA,uB]; omega,fun j hj jL => by simp (disch := omega) only [TH.down,uA,uB]; exact gf j hj jL⟩
 ·rintro j mm σ hh ⟨t,f,mid,C,ht,hf,hft,s0,s1,s5,s6,gL,hC,hmid,gn,gf⟩ ih
  have htl : t < l.length := by omega
  obtain ⟨y,hy⟩ : ∃ y,l[t]? = some y := ⟨_,List.getElem?_eq_getElem htl⟩
  have hyl := hl y (List.mem_of_getElem? hy)
  have hwl := wrC_len y.1 y.2 hyl
  have fok : Img.ok f := hf ▸ filt_ok fun z hz => hl z (List.mem_of_mem_take hz)
  have fll := logC_len fok
  have hdr : logC (l.drop t) = wrC y.1 y.2 ++ logC (l.drop (t + 1)) := by
   rw [drop_get hy,<- List.singleton_append,logC_app,logC_one]
  have hcut : cutE (t * 65) 65 C = some (wrC y.1 y.2) := by
   rw [hC,hdr,<- List.append_assoc,List.append_assoc (wrC y.1 y.2)]
   refine cut_mid ?_ hwl.symm
   rw [List.length_append,fll,hmid,<- Nat.add_mul]
   congr 1; omega
  simp (disch := first | omega | (simp only [SD.down,uA,uL] <;> omega) | fail) only [run_it,s0,s1,s5,s6,gL,hcut,hwl,wrZ_fold,wr_over0 y.1 0 y.2 zz hyl zz_len,wrC_0,wrC_d y.1 y.2 hyl,wrC_cut y.1 y.2 hyl,env_P,env_L,TQ.down,resE,oneV, ↓reduceIte,reduceCtorEq,uB,uE,uL,uA,uM,uS,vL,vK,vE,vA,vS]
  refine G.call (set1_ok (d + 2) _ p i y hyl (by simp (disch := omega) only [TH.down,uA,uB]; exact (gf p pl hpL).trans hp) (by simp (disch := omega) only [TH.down,uA,uB]; omega)) ?_
  rintro v h2 ⟨rfl,kp2⟩
  have kn2 := kp2.1
  simp (disch := omega) only [TH.down,uA,uB] at kn2
  have gL2 : h2.get L = some (.cells C 65 false) := (kp2.2 L (by simp (disch := omega) only [TH.down,uA,uB]; omega)).trans (by simp (disch := omega) only [TH.down,uA,uB]; exact gL)
  have gv2 : h2.get hh.next = some (.cells (wrC y.1 y.2) 0 false) := (kp2.2 hh.next (by simp (disch := omega) only [TH.down,uA,uB]; omega)).trans (by simp (disch := omega) only [TH.down,uA,uB])
  have gf2 : ∀ j,j < h.next -> j ≠ L -> h2.get j = h.get j := fun j hj jL => (kp2.2 j (by simp (disch := omega) only [TH.down,uA,uB]; omega)).trans (by simp (disch := omega) only [TH.down,uA,uB]; exact gf j hj jL)
  have efs := filt_snoc (i := i) hy
  rw [<- hf] at efs
  by_cases he2 : y.1 = i
  ·have de : decide (y.1 = i) = true := decide_eq_true he2
   rw [if_pos he2,List.append_nil] at efs
   simp (disch := first | omega | (simp only [SD.down,uA,uL] <;> omega) | fail) only [run_it,de,s0,s1,s5,s6,gv2,gL2,hwl,wrC_cut y.1 y.2 hyl,env_P,env_L,TQ.down,resE,oneV, ↓reduceIte,reduceCtorEq,uB,uE,uL,uA,uM,uS,vL,vK,vE,vA,vS]
   refine ih _ _ ⟨t + 1,f,mid ++ wrC y.1 y.2,C,by omega,efs.symm,by omega,by simp (disch := omega) only [s0,TH.down,uA,uB],by simp (disch := omega) only [s1,TH.down,uA,uB],by simp (disch := omega) only [s5,TH.down,uA,uB],by simp (disch := omega) only [TH.down,uA,uB],gL2,by rw [hC,hdr]; simp only [List.append_assoc],by rw [List.length_append,hmid,hwl,<- Nat.succ_mul]; congr 1; omega,by omega,gf2⟩
  ·have de : decide (y.1 = i) = false := decide_eq_false he2
   rw [if_neg he2] at efs
   have hms : mid = mid.take 65 ++ mid.drop 65 := (List.take_append_drop 65 mid).symm
   have hover : overE (f.length * 65) (wrC y.1 y.2) C = some (logC f ++ (wrC y.1 y.2 ++ (mid.drop 65 ++ (logC (l.drop t) ++ junk)))) := by
    rw [hC]
    conv => lhs; rw [hms,List.append_assoc]
    refine over_mid fll.symm ?_ (wrC_sc y.1 y.2)
    rw [hwl,List.length_take,hmid]; omega
   simp (disch := first | omega | (simp only [SD.down,uA,uL] <;> omega) | fail) only [run_it,de,s0,s1,s5,s6,gv2,gL2,hover,hwl,wrC_cut y.1 y.2 hyl,env_P,env_L,TQ.down,resE,oneV, ↓reduceIte,reduceCtorEq,uB,uE,uL,uA,uM,uS,vL,vK,vE,vA,vS]
   refine ih _ _ ⟨t + 1,f ++ [y],mid.drop 65 ++ wrC y.1 y.2,logC f ++ (wrC y.1 y.2 ++ (mid.drop 65 ++ (logC (l.drop t) ++ junk))),by omega,efs.symm,by simp; omega,by simp (disch := omega) only [s0,TH.down,uA,uB],by simp (disch := omega) only [s1,TH.down,uA,uB],by simp (disch := omega) only [TH.down,uA,uB]; simp,by simp (disch := omega) only [TH.down,uA,uB],by simp (disch := omega) only [TH.down,uA,uB],by rw [hdr,logC_app,logC_one]; simp only [List.append_assoc],by rw [List.length_append,List.length_drop,hmid,hwl]; simp; omega,by simp (disch := omega) only [TH.down,uA,uB]; omega,fun j hj jL => by simp (disch := omega) only [TH.down,uA,uB]; exact gf2 j hj jL⟩
 ·have e1 : (l.take (q + 1)).filter (fun x => decide (x.1 ≠ i)) = l.take q := by
   rw [filt_snoc hx,if_pos he,List.append_nil,filt_all hno]
  refine ⟨q + 1,l.take q,wrC x.1 x.2,logC l ++ junk,by omega,e1.symm,by rw [List.length_take]; omega,by simp (disch := omega) only [TQ.down,resE,oneV, ↓reduceIte,reduceCtorEq,uB,uE,uL,uA,uM,vE],by simp (disch := omega) only [TQ.down,resE,oneV, ↓reduceIte,reduceCtorEq,uB,uE,uL,uA,uM,vE],by simp (disch := omega) only [TQ.down,resE,oneV, ↓reduceIte,reduceCtorEq,uB,uE,uL,uA,uM,vE]; rw [List.length_take,Nat.min_eq_left (by omega)],by simp (disch := omega) only [TQ.down,resE,oneV, ↓reduceIte,reduceCtorEq,uB,uE,uL,uA,uM,vE],(kp.2 L Ll).trans hL, ?_, ?_,kpn,fun j hj _ => kp.2 j hj⟩
  ·have hxl := hl x (List.mem_of_getElem? hx)
   have e2 : l = l.take q ++ (x :: l.drop (q + 1)) := by rw [<- drop_get hx,List.take_append_drop]
   have e3 : logC l = logC (l.take q) ++ (wrC x.1 x.2 ++ logC (l.drop (q + 1))) := by
    conv => lhs; rw [e2]
    rw [logC_app,<- List.singleton_append,logC_app,logC_one]
   rw [e3]; simp only [List.append_assoc]
  ·rw [wrC_len x.1 x.2 (hl x (List.mem_of_getElem? hx)),List.length_take,Nat.min_eq_left (by omega)]; omega
theorem LogJ.cells {h : Heap} {c : Col} {k : Nat} {v : AV} {ex : List Nat} {l : Img} (x : LogJ h c k v ex l) : v.cells = [v] /\ isSc v = true := by
 rcases x with ⟨_,rfl | ⟨q,o,rfl⟩⟩ | ⟨L,junk,rfl,_⟩ <;> exact ⟨rfl,rfl⟩
theorem over3 (x0 x1 x2 x3 x4 x5 x6 v : AV) (hv : isSc v = true) : overE 3 [v] [x0,x1,x2,x3,x4,x5,x6] = some [x0,x1,x2,v,x4,x5,x6] := by
 unfold overE
 rw [if_pos ⟨by simp,by simp [allSc,hv]⟩]
 rfl
theorem del_0 (d : Nat) (h : Heap) (p q o : Nat) : callD env (d + 2) 145 [.slice q o 0 0, .func (.func 146) [] [.ptr p 0]] h = some (.slice q o 0 0,h) := by
 rw [callD_run (E := env) [] (by kernel_rfl) Try.func145 rfl (by rw [Try.ntmps145]; simp) (by kernel_rfl)]; simp (maxSteps := 2000000) (implicitDefEqProofs := false) (disch := first | omega | (simp only [SD.down,uA,uL] <;> omega) | fail) only [Try.ntmps145,Try.results145,env_P,env_L,in152,Try.f152,TA.down,TL.down,same_nilslice,resE,oneV, ↓reduceIte,reduceCtorEq,uB,uE,uL,uA,uM,uS,uN,uX,uO,vR,vD,vL,vK,vE,vA,vM,vT,vS,run_loop,run_it]
theorem del_J (d : Nat) (H : Heap) (c : Col) (k p : Nat) (i : Int) (lgv : AV) (ex : List Nat) (l : Img) (x : LogJ H c k lgv ex l) (hl : Img.ok l) (hn : l.length < 4000) (hp : H.get p = some (.cells [.int .i64 i] 0 false)) (pl : p < H.next) (hpc : c p ≠ k) :
  G (callD env (d + 4) 145 [lgv, .func (.func 146) [] [.ptr p 0]] H) fun v h' => LogJ h' c k v ex (l.filter fun x => decide (x.1 ≠ i)) /\ H.next <= h'.next /\ ∀ j,j < H.next -> (c j ≠ k \/ j ∈ ex \/ (∀ q,H.get j ≠ some (.cells q 65 false))) -> h'.get j = H.get j := by
 rcases x with ⟨rfl,rfl | ⟨q,o,rfl⟩⟩ | ⟨L,junk,rfl,h1,h2,h3,h4⟩
 ·rw [del_nil (d + 2) H p]
  exact G.ok ⟨.inl ⟨rfl, .inl rfl⟩,Nat.le_refl _,fun _ _ _ => rfl⟩
 ·rw [del_0 (d + 2) H p q o]
  exact G.ok ⟨.inl ⟨rfl, .inr ⟨q,o,rfl⟩⟩,Nat.le_refl _,fun _ _ _ => rfl⟩
 ·refine (del_ok d H L p i l junk hl hn h4 h1 hp pl (fun e => hpc (e ▸ h2))).mono ?_
  rintro v h' ⟨rfl,⟨junk',g1⟩,g2,g3⟩
  refine ⟨.inr ⟨L,junk',rfl,by omega,h2,h3,g1⟩,g2,fun j hj hq => g3 j hj ?_⟩
  rintro rfl
  rcases hq with q | q | q
  ·exact q h2
  ·exact h3 _ q rfl
  ·exact q _ h4
theorem m_set (d : Nat) (h : Heap) (c : Col) (k m : Nat) (S : MS) (I : MemI h c k m S) (w : S.wf) (i : Int) (s : List Nat) (hs : s.length = 64) :
  G (callD env (d + 5) 121 [.ptr m 0, .int .i64 i, .agg (B s)] h) fun v h' => (∃ e,v = .int .i64 e) /\ MemI h' (pnt c h.next k) k m (S.set i s) /\ Fr (· = k) c h h' := by
 have I0 := I
 obtain ⟨a,b,lgv,mk,l1,l2,l3,c1,c2,c3,n1,n2,n3,hm,ha,hb,hlg,mks⟩ := I
 refine G.gen fun Q hX => ?_
 unfold memG at hm
 have e1 : decide (0 < (S.n : Int)) = true := decide_eq_true (by have := w.n0; omega)
 have hz := zz_len
 have same : S.set i s = S -> ∀ H : Heap,Keeps h H -> G (some (.int .i64 2,H)) Q := fun e H kH => by
  subst hX
  rw [e]
  exact G.ok ⟨⟨_,rfl⟩,I0.keeps kH pnt_e, .of kH⟩
 have kH : Keeps h ((h.new (Blk.cells [AV.int IntKind.i64 i] 0 false)).new (Blk.cells (B s) 0 false)) := ⟨by simp (disch := first | omega | (simp only [SD.down,uA,uL] <;> omega) | fail) only [TQ.down,resE,oneV, ↓reduceIte,reduceCtorEq,uB,uE,uL,uA,uM,uS,vL,vK,vE,vA,vS]; omega,fun j hj => by simp (disch := first | omega | (simp only [SD.down,uA,uL] <;> omega) | fail) only [TQ.down,resE,oneV, ↓reduceIte,reduceCtorEq,uB,uE,uL,uA,uM,uS,vL,vK,vE,vA,vS]⟩
 by_cases h0 : i < 0
 ·have d0 : decide (i < 0) = true := decide_eq_true h0
  rw [callD_run (E := env) [] (by kernel_rfl) Try.func121 rfl (by rw [Try.ntmps121]; simp) (by kernel_rfl)]; simp (disch := first | omega | (simp only [SD.down,uA,uL] <;> omega) | fail) only [Try.ntmps121,Try.results121,env_P,env_L,hm,in69,Try.f69,in59,Try.f59,e1,d0,hz,hs,zz_fold,cutB_all,over_B,TQ.down,resE,oneV, ↓reduceIte,reduceCtorEq,uB,uE,uL,uA,uM,uS,vL,vK,vE,vA,vS]
  exact same (if_neg (by unfold MS.may mIO; rw [if_pos (.inl h0)]; decide)) _ kH
 have d0 : decide (i < 0) = false := decide_eq_false h0
 by_cases h1 : (S.n : Int) <= i
 ·have d1 : decide ((S.n : Int) <= i) = true := decide_eq_true h1
  rw [callD_run (E := env) [] (by kernel_rfl) Try.func121 rfl (by rw [Try.ntmps121]; simp) (by kernel_rfl)]; simp (disch := first | omega | (simp only [SD.down,uA,uL] <;> omega) | fail) only [Try.ntmps121,Try.results121,env_P,env_L,hm,in69,Try.f69,in59,Try.f59,e1,d0,d1,hz,hs,zz_fold,cutB_all,over_B,TQ.down,resE,oneV, ↓reduceIte,reduceCtorEq,uB,uE,uL,uA,uM,uS,vL,vK,vE,vA,vS]
  exact same (if_neg (by unfold MS.may mIO; rw [if_pos (.inr h1)]; decide)) _ kH
 have d1 : decide ((S.n : Int) <= i) = false := decide_eq_false h1
 have e : S.set i s = { S with lg := S.lg.filter fun x => decide (x.1 ≠ i),seen := mPut S.seen i s,dur := mPut S.dur i s,hurt := true } := if_pos (by unfold MS.may mIO; rw [if_neg (by omega)]; rfl)
 rw [e] at hX
 rw [callD_run (E := env) [] (by kernel_rfl) Try.func121 rfl (by rw [Try.ntmps121]; simp) (by kernel_rfl)]; simp (disch := first | omega | (simp only [SD.down,uA,uL] <;> omega) | fail) only [Try.ntmps121,Try.results121,env_P,env_L,hm,in69,Try.f69,in59,Try.f59,e1,d0,d1,hz,hs,zz_fold,cutB_all,over_B,hlg.ok,hlg.same,TQ.down,resE,oneV, ↓reduceIte,reduceCtorEq,uB,uE,uL,uA,uM,uS,vL,vK,vE,vA,vS]
 have hn0 : ((h.new (Blk.cells [AV.int IntKind.i64 i] 0 false)).new (Blk.cells (B s) 0 false)).next = h.next + 2 := by simp (disch := omega) only [TH.down,uA,uB]
 have gp : ((h.new (Blk.cells [AV.int IntKind.i64 i] 0 false)).new (Blk.cells (B s) 0 false)).get h.next = some (.cells [.int .i64 i] 0 false) := by simp (disch := first | omega | (simp only [SD.down,uA,uL] <;> omega) | fail) only [TQ.down,resE,oneV, ↓reduceIte,reduceCtorEq,uB,uE,uL,uA,uM,uS,vL,vK,vE,vA,vS]
 have gs : ((h.new (Blk.cells [AV.int IntKind.i64 i] 0 false)).new (Blk.cells (B s) 0 false)).get (h.next + 1) = some (.cells (B s) 0 false) := by simp (disch := first | omega | (simp only [SD.down,uA,uL] <;> omega) | fail) only [TQ.down,resE,oneV, ↓reduceIte,reduceCtorEq,uB,uE,uL,uA,uM,uS,vL,vK,vE,vA,vS]
 generalize ((h.new (Blk.cells [AV.int IntKind.i64 i] 0 false)).new (Blk.cells (B s) 0 false)) = H at kH hn0 gp gs ⊢
 have lgH : LogJ H (pnt c h.next (k + 1)) k lgv [m,a,b] S.lg := hlg.keep' kH.1 (fun j hj _ _ => kH.2 j hj) (fun j hj hc => (pnt_lt hj).trans hc)
 refine G.call (del_J d H (pnt c h.next (k + 1)) k h.next i lgv [m,a,b] S.lg lgH w.lg w.lgl gp (by omega) (by rw [pnt_ge (Nat.le_refl _)]; omega)) ?_
 rintro v h2 ⟨J,le2,fr2⟩
 have f2 : ∀ j,j < h.next -> (j ∈ [m,a,b] \/ c j ≠ k \/ (∀ q,h.get j ≠ some (.cells q 65 false))) -> h2.get j = h.get j := fun j hj hq => by
  rw [fr2 j (by omega) ?_,kH.2 j hj]
  rcases hq with q | q | q
  ·exact .inr (.inl q)
  ·exact .inl (by rw [pnt_lt hj]; exact q)
  ·exact .inr (.inr (by rw [kH.2 j hj]; exact q))
 have gp2 := (fr2 h.next (by omega) (.inl (by rw [pnt_ge (Nat.le_refl _)]; omega))).trans gp
 have gs2 := (fr2 (h.next + 1) (by omega) (.inl (by rw [pnt_ge (by omega)]; omega))).trans gs
 have gm2 := (f2 m l1 (.inl (by simp))).trans hm
 have ga2 := (f2 a l2 (.inl (by simp))).trans ha
 have gb2 := (f2 b l3 (.inl (by simp))).trans hb
 have okJ := J.ok
 have smJ := J.same
 have clJ := J.cells.1
 have ov := fun x0 x1 x2 x3 x4 x5 x6 => over3 x0 x1 x2 x3 x4 x5 x6 v J.cells.2
 simp (disch := omega) only [gm2,gp2,gs2,okJ,smJ,clJ,ov,cutB_all,hs,TQ.down,resE,oneV, ↓reduceIte,reduceCtorEq,uB,uE,uL,uA,uM,vE]
 refine G.call (put_ok (d + 3) _ a i s S.seen hs (by simp (disch := omega) only [TH.down,uA,uB]; omega) (by simp (disch := omega) only [ga2,TH.down,uA,uB])) ?_
 rintro u h3 ⟨rfl,g1,g2,g3⟩
 simp (disch := omega) only [TH.down,uA,uB] at g2 g3
 have gm3 : h3.get m = some (.cells [AV.int IntKind.i64 ↑S.n,AV.map a,AV.map b,v,mk,AV.bool S.fails,AV.bool S.hurt] 0 false) := by rw [g3 m (by omega) n1]; simp (disch := omega) only [TH.down,uA,uB]
 have gp3 : h3.get h.next = some (.cells [.int .i64 i] 0 false) := by rw [g3 _ (by omega) (by omega)]; simp (disch := omega) only [TH.down,uA,uB]; exact gp2
 have gs3 : h3.get (h.next + 1) = some (.cells (B s) 0 false) := by rw [g3 _ (by omega) (by omega)]; simp (disch := omega) only [TH.down,uA,uB]; exact gs2
 have gb3 : h3.get b = some (.map (mapC S.dur) false) := by rw [g3 b (by omega) (Ne.symm n3)]; simp (disch := omega) only [TH.down,uA,uB]; exact gb2
 simp (disch := omega) only [gm3,gp3,gs3,okJ,smJ,clJ,ov,cutB_all,hs,TQ.down,resE,oneV, ↓reduceIte,reduceCtorEq,uB,uE,uL,uA,uM,vE]
 refine G.call (put_ok (d + 3) _ b i s S.dur hs (by first | omega | (simp (disch := omega) only [TH.down,uA,uB]; omega)) (by first | exact gb3 | simp (disch := omega) only [gb3,TH.down,uA,uB])) ?_
 rintro u h4 ⟨rfl,k1,k2,k3⟩
 have gm4 := (k3 m (by omega) n2).trans gm3
 have ga4 := (k3 a (by omega) n3).trans g1
 simp (disch := omega) only [gm4,okJ,smJ,clJ,ov,cutB_all,hs,TQ.down,resE,oneV, ↓reduceIte,reduceCtorEq,uB,uE,uL,uA,uM,vE]
 subst hX
 have f4 : ∀ j,j < h2.next -> j ≠ m -> j ≠ a -> j ≠ b -> (h4.put m (some (Blk.cells [AV.int IntKind.i64 ↑S.n,AV.map a,AV.map b,v,mk,AV.bool S.fails,AV.bool true] 0 false))).get j = h2.get j := fun j hj jm ja jb => by
  simp (disch := omega) only [TH.down,uA,uB]
  rw [k3 j (by omega) jb,g3 j (by omega) ja]
  simp (disch := omega) only [TH.down,uA,uB]
 exact G.ok ⟨⟨_,rfl⟩,mfin (a := a) (b := b) (a' := a) (b' := b) (lgv' := v) l1 c1 mks (by simp (disch := omega) only [TQ.down,resE,oneV, ↓reduceIte,reduceCtorEq,uB,uE,uL,uA,uM,vE]; omega) rfl rfl (.inl rfl) (.inl rfl) (by simp (disch := omega) only [TQ.down,resE,oneV, ↓reduceIte,reduceCtorEq,uB,uE,uL,uA,uM,vE]; omega) (by simp (disch := omega) only [TQ.down,resE,oneV, ↓reduceIte,reduceCtorEq,uB,uE,uL,uA,uM,vE]; omega) (pnt_e _ l2 c2) (pnt_e _ l3 c3) n1 n2 n3 (by simp (disch := omega) only [memG,TQ.down,resE,oneV, ↓reduceIte,reduceCtorEq,uB,uE,uL,uA,uM,vE]) (by simp (disch := omega) only [TQ.down,resE,oneV, ↓reduceIte,reduceCtorEq,uB,uE,uL,uA,uM,vE]; exact ga4) (by simp (disch := omega) only [TQ.down,resE,oneV, ↓reduceIte,reduceCtorEq,uB,uE,uL,uA,uM,vE]; exact k1)
  (J.keep' (by simp (disch := omega) only [TH.down,uA,uB]; omega) (fun j hj hc je => f4 j hj (je m (by simp)) (je a (by simp)) (je b (by simp))) (fun j hj hc => by
   by_cases hjn : j < h.next
   ·rw [pnt_lt hjn] at hc ⊢; exact hc
   ·rw [pnt_ge (by omega)] at hc; omega))
  (fun j hj hc jm ja jb jq => (f4 j (by omega) jm ja jb).trans (f2 j hj (.inr (.inr jq))))
  (fun j hj hc => (f4 j (by omega) (fun e => hc (e ▸ c1)) (fun e => hc (e ▸ c2)) (fun e => hc (e ▸ c3))).trans (f2 j hj (.inr (.inl hc))))⟩
end Go.Proofs.Ytfjcfjfgamajkaa
