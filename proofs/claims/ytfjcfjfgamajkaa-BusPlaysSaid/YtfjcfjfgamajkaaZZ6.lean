/- Of this program, for all inputs: contracts. No condition but those in the theorems. -/
import Derived.Test.YtfjcfjfgamajkaaZZ5
import Derived.Test.YtfjcfjfgamajkaaVV
namespace Go.Proofs.Ytfjcfjfgamajkaa
open Go Go.Ai Go.Aw Go.Proofs
open Nat renaming reduceBEq -> uB,reduceEqDiff -> uE,reduceLT -> uL,reduceAdd -> uA,reduceMul -> uM,reduceSub -> uS,reduceAnd -> uN,reduceXor -> uX,reduceOr -> uO
open Int renaming reduceMod -> vR,reduceDiv -> vD,reduceLT -> vL,reduceLE -> vK,reduceEq -> vE,reduceAdd -> vA,reduceMul -> vM,reduceToNat -> vT,reduceSub -> vS
set_option linter.unusedSimpArgs false
set_option linter.unusedVariables false
set_option maxRecDepth 10000
theorem cut_get {o n k : Nat} {L v : List AV} (h : cutE o n L = some v) (hk : k < n) : L[o + k]? = v[k]? := by
 have hle := cutE_len h
 rw [cutE_of hle] at h
 rw [<- Option.some.inj h,List.getElem?_take_of_lt hk,List.getElem?_drop]
theorem PickA.len {h : Heap} {u : AV} {l : List Nat} (x : PickA h u l) : lenE Try.prog 40 u = some (.int .i64 (l.length : Int)) := by
 rcases x with ⟨rfl,rfl | ⟨q,o,n,rfl⟩ | ⟨a,rfl⟩⟩ | ⟨L,o,n,C,ext,ro,h0,rfl,_⟩
 ·exact lnn40
 ·exact lns40 ..
 ·kernel_rfl
 ·exact lns40 ..
theorem large_ok (d : Nat) (h : Heap) (sec : AV) (sl : List Int) (n : Nat) (t : List Nat) (sv : AV) (l : List Stp) (av : AV) (acts : List Act) (hs : SecI h sec sl) (ht : t.length = 32) (hst : StA h sv l) (hsd : ∀ s ∈ l,s.data.length = 64) (ha : ActsI h av acts) :
  G (callD env (d + 2) 42 [.agg (caseC sec n t sv),av] h) fun v h' => Keeps h h' /\ (v = .bool true \/ v = .bool false /\ sl.length <= 70 /\ l.length <= 60 /\ acts.length <= 80) := by
 refine G.gen fun Q hX => ?_
 have cl : (caseC sec n t sv).length = 35 := by simp [caseC,cC,B_len,ht]
 have cc : cutE 0 35 (caseC sec n t sv) = some (caseC sec n t sv) := cut_all (by simp [cl])
 have sok := hst.okv
 have slen := hst.len'
 obtain ⟨us,ul,ui⟩ := hst.us
 have c34 : (caseC sec n t sv)[34]? = some sv := by simp [caseC,cC,B_len,ht]
 have c0 : (caseC sec n t sv)[0]? = some sec := rfl
 obtain ⟨eok,esm,esc⟩ := hs.ok
 have elen := hs.len
 rw [callD_run (E := env) [] (by kernel_rfl) Try.func42 rfl (by rw [Try.ntmps42]; simp) (by kernel_rfl)]; simp (disch := first | omega | (simp only [SD.down,uA,uL] <;> omega) | fail) only [Try.ntmps42,Try.results42,env_P,env_L,cl,cc,TQ.down,resE,oneV, ↓reduceIte,reduceCtorEq,uB,uE,uL,uA,uM,uS,vL,vK,vE,vA,vS]
 have kp : Keeps h (h.new (Blk.cells (caseC sec n t sv) 0 false)) := ⟨by simp (disch := omega) only [TH.down,uA,uB]; omega,fun j hj => by simp (disch := omega) only [TH.down,uA,uB]⟩
 have gc : (h.new (Blk.cells (caseC sec n t sv) 0 false)).get h.next = some (Blk.cells (caseC sec n t sv) 0 false) := by simp (disch := omega) only [TH.down,uA,uB]
 generalize (h.new (Blk.cells (caseC sec n t sv) 0 false)) = H at kp gc ⊢
 rw [run_loop]
 have aok := ha.okv
 have alen := ha.len
 refine loop_ind (fun j σ hh => ∃ i,i + j = 60 /\ σ 1 = av /\ σ 2 = .ptr h.next 0 /\ σ 5 = .int .i64 (i : Int) /\ Keeps H hh /\ hh.get h.next = some (Blk.cells (caseC sec n t sv) 0 false)) ?_ ?_ 60 _ _ _ (by simp) ?_
 ·rintro mm σ hh ⟨i,hi,s1,s2,s5,kh,gc2⟩
  obtain rfl : i = 60 := by omega
  have s0 : True := trivial
  by_cases q0 : (60 : Int) < (l.length : Int)
  ·have dl : decide ((60 : Int) < (l.length : Int)) = true := decide_eq_true q0
   by_cases q1 : 70 < sl.length
   ·have d1 : decide ((70 : Int) < (sl.length : Int)) = true := decide_eq_true (by omega)
    simp (disch := first | omega | (simp only [SD.down,uA,uL] <;> omega) | fail) only [run_it,s0,s1,s2,s5,gc2,c0,c34,sok,slen,eok,elen,lncI,lnoI,lncA,lnoA,aok,alen,dl,d1,env_P,env_L,TQ.down,resE,oneV, ↓reduceIte,reduceCtorEq,uB,uE,uL,uA,uM,uS,vL,vK,vE,vA,vS]
    subst hX
    exact G.ok ⟨kp.trans kh, .inl rfl⟩
   have d1 : decide ((70 : Int) < (sl.length : Int)) = false := decide_eq_false (by omega)
   have q2 : 60 < l.length := by omega
   have d2 : decide ((60 : Int) < (l.length : Int)) = true := decide_eq_true (by omega)
   simp (disch := first | omega | (simp only [SD.down,uA,uL] <;> omega) | fail) only [run_it,s0,s1,s2,s5,gc2,c0,c34,sok,slen,eok,elen,lncI,lnoI,lncA,lnoA,aok,alen,dl,d1,env_P,env_L,TQ.down,resE,oneV, ↓reduceIte,reduceCtorEq,uB,uE,uL,uA,uM,uS,vL,vK,vE,vA,vS]
   subst hX
   exact G.ok ⟨kp.trans kh, .inl rfl⟩
  ·have dl : decide ((60 : Int) < (l.length : Int)) = false := decide_eq_false q0
   by_cases q1 : 70 < sl.length
   ·have d1 : decide ((70 : Int) < (sl.length : Int)) = true := decide_eq_true (by omega)
    simp (disch := first | omega | (simp only [SD.down,uA,uL] <;> omega) | fail) only [run_it,s0,s1,s2,s5,gc2,c0,c34,sok,slen,eok,elen,lncI,lnoI,lncA,lnoA,aok,alen,dl,d1,env_P,env_L,TQ.down,resE,oneV, ↓reduceIte,reduceCtorEq,uB,uE,uL,uA,uM,uS,vL,vK,vE,vA,vS]
    subst hX
    exact G.ok ⟨kp.trans kh, .inl rfl⟩
   have d1 : decide ((70 : Int) < (sl.length : Int)) = false := decide_eq_false (by omega)
   have d2 : decide ((60 : Int) < (l.length : Int)) = false := decide_eq_false (by omega)
   by_cases q3 : 80 < acts.length
   ·have d3 : decide ((80 : Int) < (acts.length : Int)) = true := decide_eq_true (by omega)
    simp (disch := first | omega | (simp only [SD.down,uA,uL] <;> omega) | fail) only [run_it,s0,s1,s2,s5,gc2,c0,c34,sok,slen,eok,elen,lncI,lnoI,lncA,lnoA,aok,alen,dl,d1,d2,d3,env_P,env_L,TQ.down,resE,oneV, ↓reduceIte,reduceCtorEq,uB,uE,uL,uA,uM,uS,vL,vK,vE,vA,vS]
    subst hX
    exact G.ok ⟨kp.trans kh, .inl rfl⟩
   have d3 : decide ((80 : Int) < (acts.length : Int)) = false := decide_eq_false (by omega)
   simp (disch := first | omega | (simp only [SD.down,uA,uL] <;> omega) | fail) only [run_it,s0,s1,s2,s5,gc2,c0,c34,sok,slen,eok,elen,lncI,lnoI,lncA,lnoA,aok,alen,dl,d1,d2,d3,env_P,env_L,TQ.down,resE,oneV, ↓reduceIte,reduceCtorEq,uB,uE,uL,uA,uM,uS,vL,vK,vE,vA,vS]
   subst hX
   exact G.ok ⟨kp.trans kh, .inr ⟨rfl,by omega,by omega,by omega⟩⟩
 ·rintro j mm σ hh ⟨i,hi,s1,s2,s5,kh,gc2⟩ ih
  have s0 : True := trivial
  have d6 : decide ((i : Int) < 60) = true := decide_eq_true (by omega)
  by_cases q0 : l.length <= i
  ·have dl : decide ((i : Int) < (l.length : Int)) = false := decide_eq_false (by omega)
   by_cases q1 : 70 < sl.length
   ·have d1 : decide ((70 : Int) < (sl.length : Int)) = true := decide_eq_true (by omega)
    simp (disch := first | omega | (simp only [SD.down,uA,uL] <;> omega) | fail) only [run_it,s0,s1,s2,s5,gc2,c0,c34,sok,slen,eok,elen,lncI,lnoI,lncA,lnoA,aok,alen,dl,d6,d1,env_P,env_L,TQ.down,resE,oneV, ↓reduceIte,reduceCtorEq,uB,uE,uL,uA,uM,uS,vL,vK,vE,vA,vS]
    subst hX
    exact G.ok ⟨kp.trans kh, .inl rfl⟩
   have d1 : decide ((70 : Int) < (sl.length : Int)) = false := decide_eq_false (by omega)
   have d2 : decide ((60 : Int) < (l.length : Int)) = false := decide_eq_false (by omega)
   by_cases q3 : 80 < acts.length
   ·have d3 : decide ((80 : Int) < (acts.length : Int)) = true := decide_eq_true (by omega)
    simp (disch := first | omega | (simp only [SD.down,uA,uL] <;> omega) | fail) only [run_it,s0,s1,s2,s5,gc2,c0,c34,sok,slen,eok,elen,lncI,lnoI,lncA,lnoA,aok,alen,dl,d6,d1,d2,d3,env_P,env_L,TQ.down,resE,oneV, ↓reduceIte,reduceCtorEq,uB,uE,uL,uA,uM,uS,vL,vK,vE,vA,vS]
    subst hX
    exact G.ok ⟨kp.trans kh, .inl rfl⟩
   have d3 : decide ((80 : Int) < (acts.length : Int)) = false := decide_eq_false (by omega)
   simp (disch := first | omega | (simp only [SD.down,uA,uL] <;> omega) | fail) only [run_it,s0,s1,s2,s5,gc2,c0,c34,sok,slen,eok,elen,lncI,lnoI,lncA,lnoA,aok,alen,dl,d6,d1,d2,d3,env_P,env_L,TQ.down,resE,oneV, ↓reduceIte,reduceCtorEq,uB,uE,uL,uA,uM,uS,vL,vK,vE,vA,vS]
   subst hX
   exact G.ok ⟨kp.trans kh, .inr ⟨rfl,by omega,by omega,by omega⟩⟩
  have dl : decide ((i : Int) < (l.length : Int)) = true := decide_eq_true (by omega)
  obtain ⟨s,hsi⟩ : ∃ s,l[i]? = some s := ⟨_,List.getElem?_eq_getElem (by omega)⟩
  obtain ⟨K,junk,ext,ro,u,hK1,hu,hK2,hK3,hpu⟩ := ui i s hsi
  have hsl := hsd s (List.mem_of_getElem? hsi)
  have hcut := stps_cut (junk := junk) hsd ul hsi hu
  have h69 : (stpsC (l.zip us) ++ junk)[i * 70 + 69]? = some u := by
   rw [cut_get hcut (by omega)]
   show (B s.data ++ [u])[64]? = _
   rw [List.getElem?_append_right (by simp [B_len,hsl])]
   simp [B_len,hsl]
  obtain ⟨uok,usc,usm⟩ := hpu.ok
  have ulen := hpu.len
  have gK := (kh.2 K (by have := kp.1; omega)).trans ((kp.2 K hK1).trans hK2)
  by_cases q2 : 200 < s.picks.length
  ·have d2 : decide ((200 : Int) < (s.picks.length : Int)) = true := decide_eq_true (by omega)
   simp (disch := first | omega | (simp only [SD.down,uA,uL] <;> omega) | fail) only [run_it,s1,s2,s5,gc2,c34,sok,slen,dl,d6,hK3,gK,h69,uok,ulen,d2,env_P,env_L,TQ.down,resE,oneV, ↓reduceIte,reduceCtorEq,uB,uE,uL,uA,uM,uS,vL,vK,vE,vA,vS]
   subst hX
   exact G.ok ⟨kp.trans kh, .inl rfl⟩
  have d2 : decide ((200 : Int) < (s.picks.length : Int)) = false := decide_eq_false (by omega)
  simp (disch := first | omega | (simp only [SD.down,uA,uL] <;> omega) | fail) only [run_it,s1,s2,s5,gc2,c34,sok,slen,dl,d6,hK3,gK,h69,uok,ulen,d2,env_P,env_L,TQ.down,resE,oneV, ↓reduceIte,reduceCtorEq,uB,uE,uL,uA,uM,uS,vL,vK,vE,vA,vS]
  exact ih _ _ ⟨i + 1,by omega,by simp (disch := omega) only [s1,TH.down,uA,uB],by simp (disch := omega) only [s2,TH.down,uA,uB],by simp (disch := omega) only [TH.down,uA,uB],kh,gc2⟩
 ·exact ⟨0,by omega,by simp (disch := omega) only [TQ.down,resE,oneV, ↓reduceIte,reduceCtorEq,uB,uE,uL,uA,uM,vE],by simp (disch := omega) only [TQ.down,resE,oneV, ↓reduceIte,reduceCtorEq,uB,uE,uL,uA,uM,vE],by simp (disch := omega) only [TQ.down,resE,oneV, ↓reduceIte,reduceCtorEq,uB,uE,uL,uA,uM,vE], .refl _,gc⟩
theorem SecI.keep {h h' : Heap} {v : AV} {l : List Int} (x : SecI h v l) (k : Keeps h h') : SecI h' v l := by
 rcases x with x | ⟨q,n,ro,rfl,h1,h2⟩
 ·exact .inl x
 ·exact .inr ⟨q,n,ro,rfl,Nat.lt_of_lt_of_le h1 k.1,(k.2 _ h1).trans h2⟩
theorem same_ints : ∀ l : List AV,(∀ v ∈ l,∃ k n,v = AV.int k n) -> scsSame l l = true
 | [],_ => rfl
 | v :: l,h => by
  obtain ⟨k,n,rfl⟩ := h v (by simp)
  have h1 : scSame (AV.int k n) (AV.int k n) = true := by
   show (k == k && ieq n n) = true
   simp [ieq_eq]
  show (match scSame (AV.int k n) (AV.int k n) with | true => scsSame l l | false => false) = true
  rw [h1]
  exact same_ints l fun v hv => h v (List.mem_cons_of_mem _ hv)
theorem same_entG (t : Ent) : AV.same (.agg (entG t)) (.agg (entG t)) = true := by
 show scsSame (entG t) (entG t) = true
 refine same_ints _ fun v hv => ?_
 simp only [entG,List.mem_cons,List.mem_append,List.not_mem_nil,or_false] at hv
 rcases hv with rfl | rfl | rfl | hv | rfl
 ·exact ⟨_,_,rfl⟩
 ·exact ⟨_,_,rfl⟩
 ·exact ⟨_,_,rfl⟩
 ·rw [B,List.mem_map] at hv
  obtain ⟨n,_,rfl⟩ := hv
  exact ⟨_,_,rfl⟩
 ·exact ⟨_,_,rfl⟩
theorem entG_0 (t : Ent) : (entG t)[0]? = some (.int .i64 t.kind) := rfl
theorem over_keep {o p n : Nat} {v l l' : List AV} (h : overE o v l = some l') (hp : o + v.length <= p) : cutE p n l' = cutE p n l := by
 unfold overE at h
 split at h
 ·rename_i hc
  cases h
  have e1 : (l.take o ++ v ++ l.drop (o + v.length)).length = l.length := by simp; omega
  have e2 : (l.take o ++ v ++ l.drop (o + v.length)).drop p = l.drop p := by
   rw [List.drop_append,List.drop_of_length_le (by simp; omega),List.nil_append,List.drop_drop]
   congr 1
   simp
   omega
  unfold cutE
  rw [e1,e2]
 ·cases h
def avK : AV -> Nat
 | .eslice k _ _ _ => k
 | _ => 0
theorem gat (n : Nat) (b : Blk) : ((Heap.at_ n).new b).get n = some b := new_same (Heap.at_ n) b
theorem Two.kp {h h' : Heap} {c : Col} {kb β cp : Nat} {ps : List Nat} {b : BS} {kr ρ : Nat} {qs : List Nat} {r : RB} (T : Two h c kb β cp ps b kr ρ qs r) (k : Keeps h h') : Two h' c kb β cp ps b kr ρ qs r :=
 ⟨T.I.keeps T.w.msl k (fun _ _ => rfl),T.J.fr (K := fun _ => False) T.wr.msl (.of k) id (fun _ _ => id) (fun _ _ => rfl),T.R,T.w,T.wr,T.cl,T.pk,T.n60⟩
set_option maxHeartbeats 1000000 in
theorem busPlays_ok (d : Nat) (h : Heap) (sec : AV) (sl : List Int) (n : Nat) (t : List Nat) (sv : AV) (l : List Stp) (av : AV) (acts : List Act) (hs : SecI h sec sl) (ht : t.length = 32) (hst : StA h sv l) (hsd : ∀ s ∈ l,s.data.length = 64) (hpk : ∀ s ∈ l,s.picks.length <= 140737488351232) (ha : ActsI h av acts) (hao : ∀ a ∈ acts,a.ok) :
  G (callD env (d + 13) 9 [.agg (caseC sec n t sv),av] h) fun v h' => v = .bool true := by
 refine G.gen fun Q hX => ?_
 have cl : (caseC sec n t sv).length = 35 := by simp [caseC,cC,B_len,ht]
 have cc : cutE 0 35 (caseC sec n t sv) = some (caseC sec n t sv) := cut_all (by simp [cl])
 have sok := hst.okv
 have c0 : (caseC sec n t sv)[0]? = some sec := rfl
 obtain ⟨eok,esm,esc⟩ := hs.ok
 have elen := hs.len
 have aok := ha.okv
 have asm := ha.same
 have alen := ha.len
 rw [callD_run (E := env) [(21, .late [[],[],[],[],[],[],[],[],[],[],[],[],[],[11,12],[]] [] [(7,0,1),(10,0,1)] 15)] (by kernel_rfl) Try.func9 rfl (by rw [Try.ntmps9]; simp) (by kernel_rfl)]; simp (disch := first | omega | (simp only [SD.down,uA,uL] <;> omega) | fail) only [Try.ntmps9,Try.results9,env_P,env_L,cl,cc,TQ.down,resE,oneV, ↓reduceIte,reduceCtorEq,uB,uE,uL,uA,uM,uS,vL,vK,vE,vA,vS]
 have kp : Keeps h (h.new (Blk.cells (caseC sec n t sv) 0 false)) := ⟨by simp (disch := omega) only [TH.down,uA,uB]; omega,fun j hj => by simp (disch := omega) only [TH.down,uA,uB]⟩
 have gc : (h.new (Blk.cells (caseC sec n t sv) 0 false)).get h.next = some (Blk.cells (caseC sec n t sv) 0 false) := by simp (disch := omega) only [TH.down,uA,uB]
 have nH : h.next < (h.new (Blk.cells (caseC sec n t sv) 0 false)).next := by simp (disch := omega) only [TH.down,uA,uB]; omega
 generalize (h.new (Blk.cells (caseC sec n t sv) 0 false)) = H at kp gc nH ⊢
 simp (disch := omega) only [gc,cc,cl,aok,asm,TQ.down,resE,oneV, ↓reduceIte,reduceCtorEq,uB,uE,uL,uA,uM,vE]
 refine G.call (large_ok (d + 10) H sec sl n t sv l av acts (hs.keep kp) ht (hst.keep kp) hsd (ha.keep kp)) ?_
 rintro v H1 ⟨k1,hv⟩
 rcases hv with rfl | ⟨rfl,h70,h60,h80⟩
 ·simp (disch := omega) only [awake_eq,TQ.down,resE,oneV, ↓reduceIte,reduceCtorEq,uB,uE,uL,uA,uM,vE]
  subst hX
  exact G.ok rfl
 have hHn : h.next < H.next := nH
 have gc1 := (k1.2 h.next hHn).trans gc
 simp (disch := omega) only [gc1,cc,cl,aok,asm,TQ.down,resE,oneV, ↓reduceIte,reduceCtorEq,uB,uE,uL,uA,uM,vE]
 have kh1 := kp.trans k1
 have hmade : G (callD env (d + 12) 43 [.agg (caseC sec n t sv)] H1) fun v h' => (∃ e : Int,v = .tup [.nilptr, .nilslice, .nilptr, .nilptr, .int .i64 e]) \/ ((sl.length < 1 \/ 64 < sl.length) /\ ∃ lv cp ρ,v = .tup [.nilptr,lv, .ptr cp 0, .ptr ρ 0, .int .i64 2] /\ okv lv = some lv /\ Keeps H1 h') \/ (1 <= sl.length /\ sl.length <= 64 /\ ∃ β cp ρ Lb ps qs C b r,v = .tup [.ptr β 0, .eslice Lb 0 0 ps.length, .ptr cp 0, .ptr ρ 0, .int .i64 0] /\ Two h' C 10 β cp ps b 200 ρ qs r /\ Lb < h'.next /\ C Lb = 0 /\ h'.get Lb = some (.cells (ps.map (AV.ptr · 0)) 1 false) /\ ps.length = sl.length /\ r.log = [] /\ Keeps H1 h' /\ ∀ j,j < H1.next -> C j = 0) :=
  made_ok (d + 3) H1 (fun _ => 0) 10 200 sec sl n t sv l (hs.keep kh1) ht (hst.keep kh1) hsd h60 hpk h70 (by omega) (by omega) (fun _ _ => rfl) _
   (fun _ e h' => .inl ⟨e,rfl⟩) (fun _ hb lv cp ρ h' hlv hkk => .inr (.inl ⟨hb,lv,cp,ρ,rfl,hlv,hkk⟩)) (fun _ h0 h1 β cp ρ Lb ps qs C b r h' T h2 h3 h4 h5 h6 h7 h8 => .inr (.inr ⟨h0,h1,β,cp,ρ,Lb,ps,qs,C,b,r,rfl,T,h2,h3,h4,h5,h6,h7,h8⟩))
 refine G.call (hmade) ?_
 rintro v H2 (⟨e,rfl⟩ | ⟨hbad,lv,cp,ρ,rfl,lvok,k2⟩ | ⟨h0,h1,β,cp,ρ,Lb,ps,qs,C,b,r,rfl,T,lb1,lb2,lb3,lb4,rl,k2,hC⟩)
 ·simp (disch := omega) only [awake_eq,TQ.down,resE,oneV, ↓reduceIte,reduceCtorEq,uB,uE,uL,uA,uM,vE]
  subst hX
  exact G.ok rfl
 ·have gc2 := (k2.2 h.next (by have := k1.1; omega)).trans gc1
  by_cases hb0 : sl.length < 1
  ·have b0 : decide ((sl.length : Int) < 1) = true := decide_eq_true (by omega)
   simp (disch := omega) only [lvok,gc2,c0,eok,elen,lncI,lnoI,b0,awake_eq,TQ.down,resE,oneV, ↓reduceIte,reduceCtorEq,uB,uE,uL,uA,uM,vE]
   subst hX
   exact G.ok rfl
  ·have b0 : decide ((sl.length : Int) < 1) = false := decide_eq_false (by omega)
   have b1 : decide ((64 : Int) < (sl.length : Int)) = true := decide_eq_true (by omega)
   simp (disch := omega) only [lvok,gc2,c0,eok,elen,lncI,lnoI,b0,b1,awake_eq,TQ.down,resE,oneV, ↓reduceIte,reduceCtorEq,uB,uE,uL,uA,uM,vE]
   subst hX
   exact G.ok rfl
 have gc2 := (k2.2 h.next (by have := k1.1; omega)).trans gc1
 have b0 : decide ((sl.length : Int) < 1) = false := decide_eq_false (by omega)
 have b1 : decide ((64 : Int) < (sl.length : Int)) = false := decide_eq_false (by omega)
 simp (disch := omega) only [gc2,c0,eok,elen,lncI,lnoI,b0,b1,awake_eq,TQ.down,resE,oneV, ↓reduceIte,reduceCtorEq,uB,uE,uL,uA,uM,vE]
 rw [run_loop]
 have nk : ¬ allK 10 200 0 := fun x => by
  rcases x with x | x
  ·unfold busK at x; omega
  ·unfold refK at x; omega
 have kh2 := kh1.trans k2
 have haC : ∀ j,j < h.next -> C j = 0 := fun j hj => hC j (by have := kh1.1; omega)
 refine loop_ind (fun j σ hh => ∃ (i : Nat) (C' : Col) (b : BS) (r : RB),i + j = acts.length /\ σ 1 = av /\ σ 5 = .ptr β 0 /\ σ 6 = .eslice Lb 0 0 ps.length /\ σ 7 = .ptr cp 0 /\ σ 8 = .ptr ρ 0 /\ σ 10 = .int .i64 (i : Int) /\ Two hh C' 10 β cp ps b 200 ρ qs r /\ r.log.length <= i /\ Fr (allK 10 200) C H2 hh /\ ∀ j,j < H2.next -> C' j = C j) ?_ ?_ acts.length _ _ _ (by simp; omega) ?_
 ·rintro mm σ hh ⟨i,C',b,r,hi,s1,s5,s6,s7,s8,s10,T,hrl,fr,hC'⟩
  obtain rfl : i = acts.length := by omega
  have di : decide ((acts.length : Int) < (acts.length : Int)) = false := decide_eq_false (by omega)
  simp (disch := first | omega | (simp only [SD.down,uA,uL] <;> omega) | fail) only [run_it,s1,s5,s6,s7,s8,s10,aok,asm,alen,lncA,lnoA,di,env_P,env_L,TQ.down,resE,oneV, ↓reduceIte,reduceCtorEq,uB,uE,uL,uA,uM,uS,vL,vK,vE,vA,vS]
  have w := T.w
  have wr := T.wr
  have R := T.R
  refine G.call (bus_log (d + 9) hh C' 10 β cp ps b T.I w) ?_
  rintro v hL ⟨hlog,kL⟩
  have nL := kL.1
  have hTL := T.kp kL
  obtain ⟨Mr,cx,stv,lgv,u1,v1,u2,v2,G0,G2,pl2,mm2,ce2,st2,lg2⟩ := id T.J
  have G1 := (kL.2 ρ u1).trans G0
  obtain ⟨lok,lsm,llen⟩ := lg2.ok
  have e1 := bus_sec_out (d + 8) hL C' 10 β cp ps b hTL.I w (-1) (.inl (by omega))
  have hbl : b.ms.length = ps.length := by
   obtain ⟨_,_,_,_,_,_,_,_,_,_,pl,_⟩ := hTL.I
   exact pl.symm
  have e2 := bus_sec_out (d + 8) hL C' 10 β cp ps b hTL.I w (ps.length : Int) (.inr (by omega))
  have dl : decide ((b.log.length : Int) = (r.log.length : Int)) = true := decide_eq_true (by rw [R.ll])
  have hll : b.log.length = r.log.length := R.ll
  rcases hlog with ⟨el,rfl⟩ | ⟨q,rfl,q1,q2,q3⟩
  ·have er : r.log = [] := List.eq_nil_of_length_eq_zero (by rw [<- hll,el]; rfl)
   rcases lg2 with ⟨_,rfl⟩ | ⟨L,y0,_⟩
   ·have lz := lnn62
    rw [er] at llen
    have llen : lenE Try.prog 99 .nilslice = some (.int .i64 0) := llen
    simp (disch := first | omega | (simp only [SD.down,uA,uL] <;> omega) | fail) only [s5,s6,s7,s8,G1,lz,llen,lnc13e,lno13e,lncL,lnoL,lneL,e1,e2,env_P,env_L,TQ.down,resE,oneV, ↓reduceIte,reduceCtorEq,uB,uE,uL,uA,uM,uS,vL,vK,vE,vA,vS]
    rw [run_loop]
    refine loop_ind (fun j υ hb => υ 5 = .ptr β 0 /\ υ 8 = .ptr ρ 0 /\ υ 11 = .nilslice /\ υ 12 = .int .i64 0 /\ hb = hL) ?_ ?_ 0 _ _ _ (by simp) ?_
    ·rintro mm2 υ hb ⟨u5,u8,u11,u12,rfl⟩
     simp (disch := first | omega | (simp only [SD.down,uA,uL] <;> omega) | fail) only [run_it,u5,u8,u11,u12,lz,env_P,env_L,TQ.down,resE,oneV, ↓reduceIte,reduceCtorEq,uB,uE,uL,uA,uM,uS,vL,vK,vE,vA,vS]
     refine G.call (bus_log (d + 9) hb C' 10 β cp ps b hTL.I w) ?_
     rintro v hM ⟨hlog2,kM⟩
     have again : lenE Try.prog 62 v = some (.int .i64 0) /\ okv v = some v /\ AV.same v v = true := by
      rcases hlog2 with ⟨_,rfl⟩ | ⟨q2,rfl,_⟩
      ·exact ⟨lnn62,rfl,rfl⟩
      ·rw [el]; exact ⟨lne62 ..,rfl,same_eslice ..⟩
     simp (disch := first | omega | (simp only [SD.down,uA,uL] <;> omega) | fail) only [again.1,again.2.1,again.2.2,awake_eq,env_P,env_L,u5,u8,u11,u12,TQ.down,resE,oneV, ↓reduceIte,reduceCtorEq,uB,uE,uL,uA,uM,uS,vL,vK,vE,vA,vS]
     subst hX
     exact G.ok rfl
    ·rintro jj mm2 υ hb ⟨u5,u8,u11,u12,rfl⟩ ih2
     simp (disch := first | omega | (simp only [SD.down,uA,uL] <;> omega) | fail) only [run_it,u5,u8,u11,u12,lz,env_P,env_L,TQ.down,resE,oneV, ↓reduceIte,reduceCtorEq,uB,uE,uL,uA,uM,uS,vL,vK,vE,vA,vS]
     refine G.call (bus_log (d + 9) hb C' 10 β cp ps b hTL.I w) ?_
     rintro v hM ⟨hlog2,kM⟩
     have again : lenE Try.prog 62 v = some (.int .i64 0) /\ okv v = some v /\ AV.same v v = true := by
      rcases hlog2 with ⟨_,rfl⟩ | ⟨q2,rfl,_⟩
      ·exact ⟨lnn62,rfl,rfl⟩
      ·rw [el]; exact ⟨lne62 ..,rfl,same_eslice ..⟩
     simp (disch := first | omega | (simp only [SD.down,uA,uL] <;> omega) | fail) only [again.1,again.2.1,again.2.2,awake_eq,env_P,env_L,u5,u8,u11,u12,TQ.down,resE,oneV, ↓reduceIte,reduceCtorEq,uB,uE,uL,uA,uM,uS,vL,vK,vE,vA,vS]
     subst hX
     exact G.ok rfl
    ·exact ⟨by simp (disch := omega) only [s5,TH.down,uA,uB],by simp (disch := omega) only [s8,TH.down,uA,uB],by simp (disch := omega) only [TH.down,uA,uB],by simp (disch := omega) only [TH.down,uA,uB],rfl⟩
   ·exact absurd er y0
  ·by_cases h0b : b.log = []
   ·have el := h0b
    have er : r.log = [] := List.eq_nil_of_length_eq_zero (by rw [<- hll,el]; rfl)
    rcases lg2 with ⟨_,rfl⟩ | ⟨L,y0,_⟩
    ·have lz := lne62 q 0 0 0
     rw [er] at llen
     have llen : lenE Try.prog 99 .nilslice = some (.int .i64 0) := llen
     rw [el,List.length_nil]
     simp (disch := first | omega | (simp only [SD.down,uA,uL] <;> omega) | fail) only [s5,s6,s7,s8,G1,lz,llen,lnc13e,lno13e,lncL,lnoL,lneL,e1,e2,env_P,env_L,TQ.down,resE,oneV, ↓reduceIte,reduceCtorEq,uB,uE,uL,uA,uM,uS,vL,vK,vE,vA,vS]
     rw [run_loop]
     refine loop_ind (fun j υ hb => υ 5 = .ptr β 0 /\ υ 8 = .ptr ρ 0 /\ υ 11 = .eslice q 0 0 0 /\ υ 12 = .int .i64 0 /\ hb = hL) ?_ ?_ 0 _ _ _ (by simp) ?_
     ·rintro mm2 υ hb ⟨u5,u8,u11,u12,rfl⟩
      simp (disch := first | omega | (simp only [SD.down,uA,uL] <;> omega) | fail) only [run_it,u5,u8,u11,u12,lz,env_P,env_L,TQ.down,resE,oneV, ↓reduceIte,reduceCtorEq,uB,uE,uL,uA,uM,uS,vL,vK,vE,vA,vS]
      refine G.call (bus_log (d + 9) hb C' 10 β cp ps b hTL.I w) ?_
      rintro v hM ⟨hlog2,kM⟩
      have again : lenE Try.prog 62 v = some (.int .i64 0) /\ okv v = some v /\ AV.same v v = true := by
       rcases hlog2 with ⟨_,rfl⟩ | ⟨q2,rfl,_⟩
       ·exact ⟨lnn62,rfl,rfl⟩
       ·rw [el]; exact ⟨lne62 ..,rfl,same_eslice ..⟩
      simp (disch := first | omega | (simp only [SD.down,uA,uL] <;> omega) | fail) only [again.1,again.2.1,again.2.2,awake_eq,env_P,env_L,u5,u8,u11,u12,TQ.down,resE,oneV, ↓reduceIte,reduceCtorEq,uB,uE,uL,uA,uM,uS,vL,vK,vE,vA,vS]
      subst hX
      exact G.ok rfl
     ·rintro jj mm2 υ hb ⟨u5,u8,u11,u12,rfl⟩ ih2
      simp (disch := first | omega | (simp only [SD.down,uA,uL] <;> omega) | fail) only [run_it,u5,u8,u11,u12,lz,env_P,env_L,TQ.down,resE,oneV, ↓reduceIte,reduceCtorEq,uB,uE,uL,uA,uM,uS,vL,vK,vE,vA,vS]
      refine G.call (bus_log (d + 9) hb C' 10 β cp ps b hTL.I w) ?_
      rintro v hM ⟨hlog2,kM⟩
      have again : lenE Try.prog 62 v = some (.int .i64 0) /\ okv v = some v /\ AV.same v v = true := by
       rcases hlog2 with ⟨_,rfl⟩ | ⟨q2,rfl,_⟩
       ·exact ⟨lnn62,rfl,rfl⟩
       ·rw [el]; exact ⟨lne62 ..,rfl,same_eslice ..⟩
      simp (disch := first | omega | (simp only [SD.down,uA,uL] <;> omega) | fail) only [again.1,again.2.1,again.2.2,awake_eq,env_P,env_L,u5,u8,u11,u12,TQ.down,resE,oneV, ↓reduceIte,reduceCtorEq,uB,uE,uL,uA,uM,uS,vL,vK,vE,vA,vS]
      subst hX
      exact G.ok rfl
     ·exact ⟨by simp (disch := omega) only [s5,TH.down,uA,uB],by simp (disch := omega) only [s8,TH.down,uA,uB],by simp (disch := omega) only [TH.down,uA,uB],by simp (disch := omega) only [TH.down,uA,uB],rfl⟩
    ·exact absurd er y0
   rcases lg2 with ⟨er,_⟩ | ⟨L,y0,rfl,y1,y2,y3⟩
   ·exact absurd (List.eq_nil_of_length_eq_zero (by rw [hll,er]; rfl)) h0b
   have lz := lne62 q 0 0 b.log.length
   simp (disch := first | omega | (simp only [SD.down,uA,uL] <;> omega) | fail) only [s5,s6,s7,s8,G1,lz,llen,lnc13e,lno13e,lncL,lnoL,lneL,e1,e2,dl,env_P,env_L,TQ.down,resE,oneV, ↓reduceIte,reduceCtorEq,uB,uE,uL,uA,uM,uS,vL,vK,vE,vA,vS]
   rw [run_loop]
   have hbl9 := w.logl
   refine loop_ind (fun j υ hb => ∃ (i : Nat) (cs : List AV),i + j = b.log.length /\ υ 5 = .ptr β 0 /\ υ 8 = .ptr ρ 0 /\ υ 11 = .eslice q 0 0 b.log.length /\ υ 12 = .int .i64 (i : Int) /\ hL.next <= hb.next /\ (∀ j,j < hL.next -> j ≠ q -> hb.get j = hL.get j) /\ hb.get q = some (.cells cs 68 false) /\ cs.length = b.log.length * 68 /\ ∀ (k : Nat) (e : Ent),i <= k -> b.log[k]? = some e -> cutE (k * 68) 68 cs = some (entG e)) ?_ ?_ b.log.length _ _ _ (by simp; omega) ?_
   ·rintro mm2 υ hb ⟨i,cs,hi,u5,u8,u11,u12,nb,fb,gq,cl2,hcs⟩
    obtain rfl : i = b.log.length := by omega
    have dj : decide ((b.log.length : Int) < (b.log.length : Int)) = false := decide_eq_false (by omega)
    simp (disch := first | omega | (simp only [SD.down,uA,uL] <;> omega) | fail) only [run_it,u5,u8,u11,u12,lz,dj,env_P,env_L,TQ.down,resE,oneV, ↓reduceIte,reduceCtorEq,uB,uE,uL,uA,uM,uS,vL,vK,vE,vA,vS]
    have kfin : Keeps hh hb := ⟨by omega,fun j hj => (fb j (by omega) (by omega)).trans (kL.2 j hj)⟩
    have hTF := T.kp kfin
    refine G.call (bus_log (d + 9) hb C' 10 β cp ps b hTF.I w) ?_
    rintro v hM ⟨hlog2,kM⟩
    have ho2 : v = .eslice (avK v) 0 0 b.log.length /\ hM.get (avK v) = some (.cells (blogC b.log) 68 false) := by
     rcases hlog2 with ⟨e,_⟩ | ⟨q2,rfl,_,_,g⟩
     ·exact absurd e h0b
     ·exact ⟨rfl,g⟩
    obtain ⟨ev,gv⟩ := ho2
    generalize (avK v) = qv at ev gv
    subst ev
    obtain ⟨x,hx⟩ : ∃ x,b.log[0]? = some x := ⟨_,List.getElem?_eq_getElem (List.length_pos_iff.2 h0b)⟩
    obtain ⟨y,hy⟩ : ∃ y,r.log[0]? = some y := ⟨_,List.getElem?_eq_getElem (by rw [<- hll]; exact List.length_pos_iff.2 h0b)⟩
    have ER := R.log 0 x y hx hy
    have dk : decide (x.kind = y.kind) = true := decide_eq_true ER.kind
    have p0 : 0 < b.log.length := List.length_pos_iff.2 h0b
    have p1 : 0 < r.log.length := by omega
    have d0 : decide ((b.log.length : Int) = 0) = false := decide_eq_false (by omega)
    have cx0 : (blogC b.log)[0]? = some (.int .i64 x.kind) := by
     have := flat_get entG 68 b.log 0 0 x (fun t ht => entG_len t (w.log t ht)) hx (by omega)
     rw [Nat.zero_mul,Nat.zero_add] at this
     exact this
    have cy0 : (blogC r.log)[0]? = some (.int .i64 y.kind) := by
     have := flat_get entG 68 r.log 0 0 y (fun t ht => entG_len t (wr.log t ht)) hy (by omega)
     rw [Nat.zero_mul,Nat.zero_add] at this
     exact this
    have lz2 := lne62 qv 0 0 b.log.length
    have gρM := (kM.2 ρ (by omega)).trans ((kfin.2 ρ u1).trans G0)
    have gLM := (kM.2 L (by omega)).trans ((kfin.2 L y1).trans y3)
    simp (implicitDefEqProofs := false) (disch := first | omega | (simp only [SD.down,uA,uL] <;> omega) | fail) only [u5,u8,u11,u12,lz2,d0,gv,cx0,cy0,gρM,gLM,p0,p1,dk,awake_eq,env_P,env_L,TQ.down,resE,oneV, ↓reduceIte,reduceCtorEq,uB,uE,uL,uA,uM,uS,uN,uX,uO,vR,vD,vL,vK,vE,vA,vM,vT,vS]
    subst hX
    exact G.ok rfl
   ·rintro jj mm2 υ hb ⟨i,cs,hi,u5,u8,u11,u12,nb,fb,gq,cl2,hcs⟩ ih2
    have dj : decide ((i : Int) < (b.log.length : Int)) = true := decide_eq_true (by omega)
    obtain ⟨x,hx⟩ : ∃ x,b.log[i]? = some x := ⟨_,List.getElem?_eq_getElem (by omega)⟩
    obtain ⟨y,hy⟩ : ∃ y,r.log[i]? = some y := ⟨_,List.getElem?_eq_getElem (by omega)⟩
    have ER := R.log i x y hx hy
    have hxl := w.log x (List.mem_of_getElem? hx)
    have hyl := wr.log y (List.mem_of_getElem? hy)
    have cx1 := hcs i x (Nat.le_refl _) hx
    have cy1 : cutE (i * 68) 68 (blogC r.log) = some (entG y) := flat_cut entG 68 r.log i y (fun t ht => entG_len t (wr.log t ht)) hy
    have gρb := (fb ρ (by omega) (by omega)).trans G1
    have gLb := (fb L (by omega) (by omega)).trans ((kL.2 L y1).trans y3)
    have hil : i < b.log.length := by omega
    have hir : i < r.log.length := by omega
    have tx := entG_len x hxl
    have ty := entG_len y hyl
    have ezl := entZ_len
    have d0 : decide (x.kind = y.kind) = true := decide_eq_true ER.kind
    have d1 : decide (x.m = y.m) = true := decide_eq_true ER.m
    have d2 : decide (x.i = y.i) = true := decide_eq_true ER.i
    have d3 : decide (x.e = y.e) = true := decide_eq_true ER.e
    have dx := eq25 x.x y.x hxl hyl
    rw [decide_eq_true ER.x] at dx
    obtain ⟨cs',eo,cl3⟩ := over_len (i * 68) entZ cs (by rw [ezl,cl2]; omega) (by kernel_rfl)
    have hkeep : ∀ (k : Nat) (e : Ent),i + 1 <= k -> b.log[k]? = some e -> cutE (k * 68) 68 cs' = some (entG e) := fun k e hk he => by
     rw [over_keep eo (by rw [ezl]; omega)]
     exact hcs k e (by omega) he
    simp (disch := first | omega | (simp only [SD.down,uA,uL] <;> omega) | fail) only [run_it,u5,u8,u11,u12,lz,dj,gq,gρb,gLb,cx1,cy1,hil,hir,tx,ty,entG_overZ x hxl,entG_overZ y hyl,gat,same_entG,entG_0,entG_1,entG_2,entG_67 x hxl,entG_67 y hyl,entG_d x hxl,entG_d y hyl,d0,d1,d2,d3,dx,bin_neq_agg,eo,zz_fold,entZ_fold,ezl,env_P,env_L,TQ.down,resE,oneV, ↓reduceIte,reduceCtorEq,uB,uE,uL,uA,uM,uS,vL,vK,vE,vA,vS]
    refine ih2 _ _ ⟨i + 1,cs',by omega,by simp (disch := omega) only [u5,TQ.down,resE,oneV, ↓reduceIte,reduceCtorEq,uB,uE,uL,uA,uM,vE],by simp (disch := omega) only [u8,TQ.down,resE,oneV, ↓reduceIte,reduceCtorEq,uB,uE,uL,uA,uM,vE],by simp (disch := omega) only [u11,TQ.down,resE,oneV, ↓reduceIte,reduceCtorEq,uB,uE,uL,uA,uM,vE],by simp (disch := omega) only [TQ.down,resE,oneV, ↓reduceIte,reduceCtorEq,uB,uE,uL,uA,uM,vE],by simp (disch := omega) only [TQ.down,resE,oneV, ↓reduceIte,reduceCtorEq,uB,uE,uL,uA,uM,vE]; omega,fun j hj hne => ?_,by simp (disch := omega) only [TQ.down,resE,oneV, ↓reduceIte,reduceCtorEq,uB,uE,uL,uA,uM,vE],by rw [cl3,cl2],hkeep⟩
    simp (disch := omega) only [TH.down,uA,uB]
    exact fb j hj hne
   ·exact ⟨0,blogC b.log,by omega,by simp (disch := omega) only [s5,TQ.down,resE,oneV, ↓reduceIte,reduceCtorEq,uB,uE,uL,uA,uM,vE],by simp (disch := omega) only [s8,TQ.down,resE,oneV, ↓reduceIte,reduceCtorEq,uB,uE,uL,uA,uM,vE],by simp (disch := omega) only [TQ.down,resE,oneV, ↓reduceIte,reduceCtorEq,uB,uE,uL,uA,uM,vE],by simp (disch := omega) only [TQ.down,resE,oneV, ↓reduceIte,reduceCtorEq,uB,uE,uL,uA,uM,vE],Nat.le_refl _,fun _ _ _ => rfl,q3,blogC_len w.log,fun k e _ he => flat_cut entG 68 b.log k e (fun t ht => entG_len t (w.log t ht)) he⟩
 ·rintro j mm σ hh ⟨i,C',b,r,hi,s1,s5,s6,s7,s8,s10,T,hrl,fr,hC'⟩ ih
  have di : decide ((i : Int) < (acts.length : Int)) = true := decide_eq_true (by omega)
  obtain ⟨a,ha2⟩ : ∃ a,acts[i]? = some a := ⟨_,List.getElem?_eq_getElem (by omega)⟩
  have hil : i < acts.length := by omega
  have aa := hao a (List.mem_of_getElem? ha2)
  rcases ha with ⟨e0,_⟩ | ⟨q,na,ro,rfl,hq1,hq2⟩
  ·rw [e0] at hil; simp at hil
  have gq := (fr.get q (by have := kh2.1; omega) (by rw [haC q hq1]; exact nk)).trans ((kh2.2 q hq1).trans hq2)
  have acut := acts_cut hao ha2
  have al := a.C_len aa.1 aa.2
  simp (disch := first | omega | (simp only [SD.down,uA,uL] <;> omega) | fail) only [run_it,s1,s5,s6,s7,s8,s10,aok,asm,alen,lncA,lnoA,di,gq,hil,acut,al,env_P,env_L,TQ.down,resE,oneV, ↓reduceIte,reduceCtorEq,uB,uE,uL,uA,uM,uS,vL,vK,vE,vA,vS]
  refine G.call (do_ok d hh C' 10 β cp ps b 200 ρ qs r T (by omega) (by omega) a aa.1 aa.2 (by omega)) ?_
  rintro v h3 ⟨rfl,C3,b3,r3,T3,hrl3,fr3,hC3⟩
  have n1 := fr.le
  have n3 := fr3.le
  have hLb : h3.get Lb = some (.cells (ps.map (AV.ptr · 0)) 1 false) := by
   rw [fr3.get Lb (by omega) (by rw [hC' Lb lb1,lb2]; exact nk),fr.get Lb lb1 (by rw [lb2]; exact nk)]
   exact lb3
  simp (disch := first | omega | (simp only [SD.down,uA,uL] <;> omega) | fail) only [s1,s5,s6,s7,s8,s10,env_P,env_L,TQ.down,resE,oneV, ↓reduceIte,reduceCtorEq,uB,uE,uL,uA,uM,uS,vL,vK,vE,vA,vS]
  refine G.call (alike_ok (d + 4) h3 C3 10 β cp ps b3 200 ρ qs r3 T3 (by omega) (by omega) Lb (by omega) hLb) ?_
  rintro v h4 ⟨rfl,k4⟩
  have n4 := k4.1
  simp (disch := first | omega | (simp only [SD.down,uA,uL] <;> omega) | fail) only [s1,s5,s6,s7,s8,s10,env_P,env_L,TQ.down,resE,oneV, ↓reduceIte,reduceCtorEq,uB,uE,uL,uA,uM,uS,vL,vK,vE,vA,vS]
  refine ih _ _ ⟨i + 1,C3,b3,r3,by omega,by simp (disch := omega) only [s1,TH.down,uA,uB],by simp (disch := omega) only [s5,TH.down,uA,uB],by simp (disch := omega) only [s6,TH.down,uA,uB],by simp (disch := omega) only [s7,TH.down,uA,uB],by simp (disch := omega) only [s8,TH.down,uA,uB],by simp (disch := omega) only [TH.down,uA,uB],T3.kp k4,by omega,(fr.trans fr3 hC').keeps k4,fun j hj => (hC3 j (by omega)).trans (hC' j hj)⟩
 ·exact ⟨0,C,b,r,by omega,by simp (disch := omega) only [TQ.down,resE,oneV, ↓reduceIte,reduceCtorEq,uB,uE,uL,uA,uM,vE],by simp (disch := omega) only [TQ.down,resE,oneV, ↓reduceIte,reduceCtorEq,uB,uE,uL,uA,uM,vE],by simp (disch := omega) only [TQ.down,resE,oneV, ↓reduceIte,reduceCtorEq,uB,uE,uL,uA,uM,vE],by simp (disch := omega) only [TQ.down,resE,oneV, ↓reduceIte,reduceCtorEq,uB,uE,uL,uA,uM,vE],by simp (disch := omega) only [TQ.down,resE,oneV, ↓reduceIte,reduceCtorEq,uB,uE,uL,uA,uM,vE],by simp (disch := omega) only [TQ.down,resE,oneV, ↓reduceIte,reduceCtorEq,uB,uE,uL,uA,uM,vE],T,by rw [rl]; simp, .refl _ _ _,fun _ _ => rfl⟩
open Go Go.Ai Go.Aw Go.Proofs Go.RowKit
structure CaseX where
 sl : List Int
 n : Nat
 t : List Nat
 l : List Stp
def CaseI (h : Heap) (v : AV) (x : CaseX) : Prop := ∃ sec sv,v = .agg (caseC sec x.n x.t sv) /\ SecI h sec x.sl /\ StA h sv x.l
def CaseX.ok (x : CaseX) : Prop := x.t.length = 32 /\ ∀ s ∈ x.l,s.data.length = 64 /\ s.picks.length <= 140737488351232
theorem CaseI.keep {h h' : Heap} {v : AV} {x : CaseX} (i : CaseI h v x) (k : Keeps h h') : CaseI h' v x := by
 obtain ⟨sec,sv,rfl,h1,h2⟩ := i
 exact ⟨sec,sv,rfl,h1.keep k,h2.keep k⟩
def celK : List IntKind := .u64 :: List.replicate 32 .u8
theorem case_shape : ∃ fs : Array Field,Try.prog.underlying 89 = some (.struct fs) /\ ∃ f0 f1 f2,fs[0]? = some f0 /\ fs[1]? = some f1 /\ fs[2]? = some f2 /\ f0.type = 28 /\ f0.offset = 0 /\ f1.type = 70 /\ f1.offset = 1 /\ f2.type = 43 /\ f2.offset = 34 := ⟨_,Try.underlying89,_,_,_,rfl,rfl,rfl,rfl,rfl,rfl,rfl,rfl,rfl⟩
theorem case_cells : Try.prog.cellsOf 89 = 35 := by kernel_rfl
theorem ints_cells : Try.prog.cellsOf 28 = 1 := by kernel_rfl
theorem stl_cells : Try.prog.cellsOf 43 = 1 := by kernel_rfl
theorem cel_cells : Try.prog.cellsOf 70 = 33 := by kernel_rfl
theorem intK_flat : flatK Try.prog 10 3 = some [.i64] := by kernel_rfl
theorem celK_flat : flatK Try.prog 10 70 = some celK := by kernel_rfl
theorem flat_one {α β : Type} (f : α -> β) : ∀ l : List α,l.flatMap (fun z => [f z]) = l.map f
 | [] => rfl
 | z :: l => by rw [List.flatMap_cons,flat_one f l]; rfl
theorem case_arg {H : Type} {enc : TypeId × Value -> H} {w : World} {r : Reach} {b0 base : Nat} {held : Bool} {v : Value} {d : DataW H} {ps : List MemPlace} {ρ : Ren} {h : Heap} (ro : RO ρ h w)
  (hval : Value.okWide Try.prog w r b0 89 v) (hd : DataW.Trod enc Try.prog w base (fun _ => true) held 89 v d ps) (hw : ∀ q ∈ d.weights Try.prog 89,q <= reachBytes) :
  ∃ ρ' h' av x,Ext ρ ρ' /\ RO ρ' h' w /\ Keeps h h' /\ av.den ρ' = some v /\ CaseI h' av x /\ x.ok := by
 obtain ⟨fs,hfs,f0,f1,f2,g0,g1,g2,t0,o0,t1,o1,t2,o2⟩ := case_shape
 unfold Value.okWide at hval
 rw [hfs] at hval
 obtain ⟨cs,rfl,hsz,ts',hts',_,hcell⟩ := hval
 have hl : cs.toList.length = 35 := by simp [hsz,case_cells]
 obtain ⟨fuel,hfu⟩ := hd
 obtain ⟨xs,n',_,hx,hlen,hxl,hel⟩ := DataW.trod_struct hfs hfu
 have hcs : (Value.agg cs).cells.toList = cs.toList := rfl
 rw [hcs] at hel
 have cts : Try.prog.cellTypes Try.prog.depth 89 = some (28 :: 68 :: (List.replicate 32 5 ++ [43])) := by kernel_rfl
 rw [cts] at hts'
 cases hts'
 have h3 : 2 < xs.length := by
  have := (Array.getElem?_eq_some_iff.1 g2).1
  omega
 obtain ⟨x0,hx0⟩ : ∃ x,cs.toList[0]? = some x := ⟨_,List.getElem?_eq_getElem (by omega)⟩
 obtain ⟨x34,hx34⟩ : ∃ x,cs.toList[34]? = some x := ⟨_,List.getElem?_eq_getElem (by omega)⟩
 have ok0 : Value.okWide Try.prog w r b0 28 x0 := by
  obtain ⟨u,hu,hc⟩ := hcell 0 x0 (by simpa using hx0)
  simp at hu
  subst hu
  simp only [Value.okWide,Try.underlying28]
  exact hc
 have ok34 : Value.okWide Try.prog w r b0 43 x34 := by
  obtain ⟨u,hu,hc⟩ := hcell 34 x34 (by simpa using hx34)
  have : u = 43 := by
   have e : (28 :: 68 :: (List.replicate 32 5 ++ [43]))[34 % (28 :: 68 :: (List.replicate 32 5 ++ [43]) : List Nat).length]? = some 43 := by decide
   exact Option.some.inj (hu.symm.trans e)
  subst this
  simp only [Value.okWide,Try.underlying43]
  exact hc
 have e0 : cs.toList.take 1 = [x0] := by
  have : cs.toList.take (0 + 1) = cs.toList.take 0 ++ cs.toList[0]?.toList := List.take_add_one
  rw [hx0] at this
  simpa using this
 have e34 : (cs.toList.drop 34).take 1 = [x34] := by
  have : (cs.toList.drop 34).take (0 + 1) = (cs.toList.drop 34).take 0 ++ (cs.toList.drop 34)[0]?.toList := List.take_add_one
  rw [List.getElem?_drop,hx34] at this
  simpa using this
 have esp : cs.toList = x0 :: ((cs.toList.drop 1).take 33 ++ [x34]) := by
  have a1 : cs.toList = cs.toList.take 1 ++ cs.toList.drop 1 := (List.take_append_drop ..).symm
  have a2 : cs.toList.drop 1 = (cs.toList.drop 1).take 33 ++ cs.toList.drop 34 := by
   have := (List.take_append_drop 33 (cs.toList.drop 1)).symm
   rwa [List.drop_drop] at this
  have a3 : cs.toList.drop 34 = [x34] := by
   rw [<- e34,List.take_of_length_le (by rw [List.length_drop]; omega)]
  rw [a3] at a2
  rw [e0,a2] at a1
  exact a1
 have tr0 := hel 0 f0 g0
 have tr1 := hel 1 f1 g1
 have tr2 := hel 2 f2 g2
 rw [t0,o0,ints_cells,List.drop_zero,e0,List.getElem?_eq_getElem (by omega)] at tr0
 rw [t1,o1,cel_cells,List.getElem?_eq_getElem (by omega)] at tr1
 rw [t2,o2,stl_cells,e34,List.getElem?_eq_getElem h3] at tr2
 have hxd : d = .agg (xs.map (·.1)) := congrArg Prod.fst hx
 -- the cell
 obtain ⟨hil,hig⟩ := (flat_trod (enc := enc) (P := Try.prog) (w := w) (base := base) (sp := fun _ => true) (held := held) 10).1 _ _ _ _ _ celK_flat tr1
 have h33 : celK.length = 33 := rfl
 rw [h33] at hil
 obtain ⟨al,a1,a2,a3⟩ := ints_av ((cs.toList.drop 1).take 33) fun v hv => by
  obtain ⟨i,hi⟩ := List.mem_iff_getElem?.1 hv
  have hlt := (List.getElem?_eq_some_iff.1 hi).1
  obtain ⟨z,gz,_⟩ := hig i _ (List.getElem?_eq_getElem (by omega))
  rw [gz] at hi; cases hi
  exact ⟨_,z,rfl⟩
 rw [hil] at a1
 have hc : ∀ (i : Nat) (k : IntKind),celK[i]? = some k -> ∃ z : Int,al[i]? = some (.int k z) /\ (Lit.int k z).wf = true := fun i k hk => by
  obtain ⟨z,gz,gw⟩ := hig i k hk
  exact ⟨z,a3 i k z gz,gw⟩
 obtain ⟨n,t,ht,hal⟩ : ∃ (n : Nat) (t : List Nat),t.length = 32 /\ al = cC n t := by
  obtain ⟨z0,q0,w0⟩ := hc 0 .u64 rfl
  match al,a1,q0,hc with
  | b0 :: r,a1,q0,hc =>
   simp at q0 a1
   subst q0
   obtain ⟨ns,y1,y2,y3⟩ := bytesAV r fun i hi => by
    have hi' : i < 32 := by omega
    have : celK[i + 1]? = some .u8 := by
     show (List.replicate 32 IntKind.u8)[i]? = _
     rw [List.getElem?_replicate,if_pos hi']
    simpa using hc (i + 1) .u8 this
   have hz0 : 0 <= z0 := by
    simp [Lit.wf,IntKind.has,IntKind.min,IntKind.max,IntKind.signed,IntKind.bits] at w0
    omega
   refine ⟨z0.toNat,ns,by omega, ?_⟩
   rw [y2]
   show _ = AV.int .u64 ((z0.toNat : Nat) : Int) :: B ns
   rw [Int.toNat_of_nonneg hz0]
 -- how many sectors
 have hsec : ∃ ρ1 h1 sec sl,Ext ρ ρ1 /\ RO ρ1 h1 w /\ Keeps h h1 /\ AV.den ρ1 sec = some x0 /\ SecI h1 sec sl := by
  rcases flat_slice (d := xs[0].1) (ps := xs[0].2) Try.underlying28 intK_flat (by kernel_rfl) (by decide) ok0 ⟨n',by
   have : x0.cells.toList = [x0] := by
    obtain ⟨a,len,cap,rfl⟩ := WideShapes.okWide_slice Try.underlying28 ok0
    rfl
   rw [this]; exact tr0⟩ with rfl | ⟨lo,len,cap,cl,rfl,_,_,hl2,hc2,hb⟩
  ·exact ⟨ρ,h, .nilslice,[],fun _ _ e => e,ro, .refl _,rfl, .inl ⟨rfl,rfl⟩⟩
  ·obtain ⟨sl,g1,_,g3⟩ := chunks (fun z : Int => [AV.int .i64 z]) (fun _ => True) 1 (fun c => ∃ z : Int,c[0]? = some (.int .i64 z)) (fun c hc1 hc3 => by
    obtain ⟨z,hz⟩ := hc3
    match c,hc1,hz with
    | [a],_,hz => simp at hz; exact ⟨z,trivial,by rw [hz]⟩) len cl (by simpa using hl2) fun q hq => by
     obtain ⟨z,gz,_⟩ := hc2 q 0 .i64 hq rfl
     refine ⟨z, ?_⟩
     rw [List.getElem?_take_of_lt (by omega),List.getElem?_drop]
     simpa using gz
   obtain ⟨y1,y2⟩ := ro.new (hb ρ)
   refine ⟨_,_, .slice h.next 0 len cap,sl,y2,y1,⟨Nat.le_succ _,fun j hj => new_ne _ _ (by omega)⟩,by simp [AV.den,Ren.add_same], .inr ⟨h.next,cap,true,by rw [g1],Nat.lt_succ_self _, ?_⟩⟩
   rw [new_same,g3]
   congr 2
   exact flat_one _ sl
 obtain ⟨ρ1,h1,sec,sl,E1,R1,K1,D1,S1⟩ := hsec
 obtain ⟨ρ2,h2,sv,l,E2,R2,K2,D2,S2,O2⟩ := st_arg (d := xs[2].1) (ps := xs[2].2) R1 ok34 ⟨n',by
   have : x34.cells.toList = [x34] := by
    obtain ⟨a,len,cap,rfl⟩ := WideShapes.okWide_slice Try.underlying43 ok34
    rfl
   rw [this]; exact tr2⟩ fun q hq => hw q (by
  rw [hxd]
  simp only [DataW.weights,hfs]
  exact DataW.weights_mem_each (j := 2) (by rw [List.getElem?_map,show fs.toList[2]? = some f2 by simpa using g2,Option.map_some,t2]) (by rw [List.getElem?_map,List.getElem?_eq_getElem h3,Option.map_some]) q hq)
 refine ⟨ρ2,h2, .agg (caseC sec n t sv),⟨sl,n,t,l⟩,fun k q hq => E2 _ _ (E1 _ _ hq),R2,K1.trans K2, ?_,⟨sec,sv,rfl,S1.keep K2,S2⟩,ht,O2⟩
 have dd : denL ρ2 (caseC sec n t sv) = some cs.toList := by
  rw [esp,caseC,<- hal]
  exact denL_cons.2 ⟨_,_,den_mono E2 _ _ D1,denL_app (a2 ρ2) (denL_cons.2 ⟨_,_,D2,denL_nil _,rfl⟩),rfl⟩
 rw [AV.den,dd]
 rfl
theorem busPlays_row (d : Nat) (h : Heap) (a1 : AV) (x1 : CaseX) (h1 : CaseI h a1 x1) (o1 : x1.ok) (a2 : AV) (x2 : List Act) (h2 : ActsI h a2 x2) (o2 : ∀ a ∈ x2,a.ok) : G (callD env (d + 13) 9 [a1,a2] h) fun v h' => v = .bool true := by
 obtain ⟨sec,sv,rfl,s1,s2⟩ := h1
 exact busPlays_ok d h sec x1.sl x1.n x1.t sv x1.l a2 x2 s1 o1.1 s2 (fun s hs => (o1.2 s hs).1) (fun s hs => (o1.2 s hs).2) h2 o2
end Go.Proofs.Ytfjcfjfgamajkaa
