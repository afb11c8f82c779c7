/- Of this program, for all inputs: contracts. No condition but those in the theorems. -/
import Derived.Test.YtlnepbkeiianmaaRA
import Derived.Test.YtlnepbkeiianmaaPC
namespace Go.Aw
open Go Go.Ai
set_option linter.unusedSimpArgs false
set_option linter.unusedVariables false
variable {P : Program} {h : Heap}
theorem app_00 {T e s k o : Nat} {ie : TypeInfo} {zv : Value} (E : Elem P T e s ie zv) (x : AV) (hx : lenA x = some 0) (hf : ∀ {β : Type} (K : List AV -> Option β),firstK h (s + 1) 0 x K = K []) : appE P T (.slice k o 0 0) x h = some (.slice k o 0 0,h) := by
 have hsm := small_ok E.small (show 0 < 4096 by omega)
 have hl : lenA (.slice k o 0 0) = some 0 := rfl
 simp only [appE,appendK,unK_E,E.sl,th_some,E.info,E.zero,E.zsz,E.size,hx,hl,fN_eq,Nat.zero_add,hsm,hf,llen_eq,List.length_nil,Nat.zero_mul,Nat.beq_refl,lsc,p2]
 rfl
theorem app_capB {T e s k o kx ox n c ex : Nat} {ie : TypeInfo} {zv : Value} (E : Elem P T e s ie zv) (hsm : Nat.ble ((n + 1 + 1) * (s + 2) * (ie.bytes + 1)) (capRoom s ie.bytes) = true) {cs nw : List AV} {ro : Bool} (hg : h.get kx = some (.cells cs ex ro)) (hc : cutE ox ((n + 1) * (s + 1)) cs = some nw) (hl : nw.length = (n + 1) * (s + 1)) (hs : allSc nw = true) :
  appE P T (.slice k o 0 0) (.slice kx ox (n + 1) c) h = some (.eslice h.next 0 0 (n + 1),h.new (.cells nw (s + 1) false)) := by
 have e0 : (n + 1) * (s + 1) = ((n + 1) * s + n) + 1 := by rw [Nat.mul_add]; omega
 have eb : Nat.ble (n + 1) 0 = false := rfl
 simp only [appE,appendK,unK_E,E.sl,th_some,E.info,E.zero,E.zsz,E.size,lenA,fN_eq,Nat.zero_add,hsm,firstK,eb,Nat.zero_mul,growK,p2]
 rw [e0] at hc hl ⊢
 simp only [hgetK_eq,hg,lcut_th,hc,llen_eq,Nat.zero_add,hl,Nat.beq_refl,lsc_eq,hs,lapp_eq,List.nil_append,newK_E,th_some]
end Go.Aw
namespace Go.Proofs.Ytlnepbkeiianmaa
open Go Go.Ai Go.Aw Go.Proofs
open Nat renaming reduceBEq -> uB,reduceEqDiff -> uE,reduceLT -> uL,reduceAdd -> uA,reduceMul -> uM,reduceSub -> uS,reduceAnd -> uN,reduceXor -> uX,reduceOr -> uO
open Int renaming reduceMod -> vR,reduceDiv -> vD,reduceLT -> vL,reduceLE -> vK,reduceEq -> vE,reduceAdd -> vA,reduceMul -> vM,reduceToNat -> vT,reduceSub -> vS
set_option linter.unusedSimpArgs false
set_option linter.unusedVariables false
set_option maxRecDepth 10000
def PickA (h : Heap) (u : AV) (l : List Nat) : Prop :=
 (l = [] /\ (u = .nilslice \/ (∃ q o n,u = .slice q o 0 n) \/ ∃ a,u = .zslice a)) \/ ∃ (K o n : Nat) (cells : List AV) (ext : Nat) (ro : Bool),l ≠ [] /\ u = .slice K o l.length n /\ K < h.next /\ h.get K = some (.cells cells ext ro) /\ cutE o l.length cells = some (B l)
theorem okv_z (a : Addr) : Aw.okv (.zslice a) = some (.zslice a) := rfl
theorem same_z (a : Addr) : AV.same (.zslice a) (.zslice a) = true := by simp [AV.same,scSame]
theorem PickA.ok {h : Heap} {u : AV} {l : List Nat} (x : PickA h u l) : okv u = some u /\ isSc u = true /\ AV.same u u = true := by
 rcases x with ⟨_,rfl | ⟨q,o,n,rfl⟩ | ⟨a,rfl⟩⟩ | ⟨K,o,n,cs,ext,ro,_,rfl,_⟩
 ·exact ⟨rfl,rfl,rfl⟩
 ·exact ⟨rfl,rfl,same_slice ..⟩
 ·exact ⟨rfl,rfl,same_z a⟩
 ·exact ⟨rfl,rfl,same_slice ..⟩
theorem PickA.keep {h h' : Heap} {u : AV} {l : List Nat} (x : PickA h u l) (k : Keeps h h') : PickA h' u l := by
 rcases x with x | ⟨K,o,n,cs,ext,ro,h0,rfl,h1,h2,h3⟩
 ·exact .inl x
 ·exact .inr ⟨K,o,n,cs,ext,ro,h0,rfl,Nat.lt_of_lt_of_le h1 k.1,(k.2 _ h1).trans h2,h3⟩
theorem nq40z (a : Addr) : binE Try.prog .eql 33 (.zslice a) .nilslice = some (.bool false) := by kernel_rfl
theorem clone_b (d : Nat) (h : Heap) (u : AV) (l : List Nat) (hl : l.length <= 140737488351232) (x : PickA h u l) : G (callD env (d + 1) 46 [u] h) fun v h' => Keeps h h' /\ ((l = [] /\ (v = .nilslice \/ ∃ q o n,v = .slice q o 0 n)) \/ ∃ K,v = .eslice K 0 0 l.length /\ h.next <= K /\ K < h'.next /\ h'.get K = some (.cells (B l) 1 false)) := by
 generalize hX : (fun (v : AV) (h' : Heap) => Keeps h h' /\ ((l = [] /\ (v = .nilslice \/ ∃ q o n,v = .slice q o 0 n)) \/ ∃ K,v = .eslice K 0 0 l.length /\ h.next <= K /\ K < h'.next /\ h'.get K = some (.cells (B l) 1 false))) = Q
 rcases x with ⟨h0,rfl | ⟨q,o,n,rfl⟩ | ⟨a,rfl⟩⟩ | ⟨K,o,n,cs,ext,ro,h0,rfl,h1,h2,h3⟩
 ·rw [callD_run (E := env) [] (by kernel_rfl) Try.func46 rfl (by rw [Try.ntmps46]; simp) (by kernel_rfl)]; simp (maxSteps := 2000000) (implicitDefEqProofs := false) (disch := first | omega | (simp only [SD.down,uA,uL] <;> omega) | fail) only [Try.ntmps46,Try.results46,env_P,env_L,nn33,TQ.down,resE,oneV, ↓reduceIte,reduceCtorEq,uB,uE,uL,uA,uM,uS,uN,uX,uO,vR,vD,vL,vK,vE,vA,vM,vT,vS]
  subst hX
  exact G.ok ⟨.refl _, .inl ⟨h0, .inl rfl⟩⟩
 ·have ea : ∀ k o' H,appE Try.prog 33 (.slice k o' 0 0) (.slice q o 0 n) H = some (.slice k o' 0 0,H) := fun k o' H => app_00 el33 _ rfl (fun K => rfl)
  rw [callD_run (E := env) [] (by kernel_rfl) Try.func46 rfl (by rw [Try.ntmps46]; simp) (by kernel_rfl)]; simp (maxSteps := 2000000) (implicitDefEqProofs := false) (disch := first | omega | (simp only [SD.down,uA,uL] <;> omega) | fail) only [Try.ntmps46,Try.results46,env_P,env_L,nq33,b040,cls_append,ap33,ea,TQ.down,resE,oneV, ↓reduceIte,reduceCtorEq,uB,uE,uL,uA,uM,uS,uN,uX,uO,vR,vD,vL,vK,vE,vA,vM,vT,vS]
  subst hX
  exact G.ok ⟨⟨by simp (maxSteps := 2000000) (implicitDefEqProofs := false) (disch := first | omega | (simp only [SD.down,uA,uL] <;> omega) | fail) only [TQ.down,resE,oneV, ↓reduceIte,reduceCtorEq,uB,uE,uL,uA,uM,uS,uN,uX,uO,vR,vD,vL,vK,vE,vA,vM,vT,vS]; omega,fun j hj => by simp (maxSteps := 2000000) (implicitDefEqProofs := false) (disch := first | omega | (simp only [SD.down,uA,uL] <;> omega) | fail) only [TQ.down,resE,oneV, ↓reduceIte,reduceCtorEq,uB,uE,uL,uA,uM,uS,uN,uX,uO,vR,vD,vL,vK,vE,vA,vM,vT,vS]⟩, .inl ⟨h0, .inr ⟨_,_,_,rfl⟩⟩⟩
 ·have ea : ∀ k o' H,appE Try.prog 33 (.slice k o' 0 0) (.zslice a) H = some (.slice k o' 0 0,H) := fun k o' H => app_00 el33 _ rfl (fun K => rfl)
  rw [callD_run (E := env) [] (by kernel_rfl) Try.func46 rfl (by rw [Try.ntmps46]; simp) (by kernel_rfl)]; simp (maxSteps := 2000000) (implicitDefEqProofs := false) (disch := first | omega | (simp only [SD.down,uA,uL] <;> omega) | fail) only [Try.ntmps46,Try.results46,env_P,env_L,nq40z,same_z,okv_z,b040,cls_append,ap33,ea,TQ.down,resE,oneV, ↓reduceIte,reduceCtorEq,uB,uE,uL,uA,uM,uS,uN,uX,uO,vR,vD,vL,vK,vE,vA,vM,vT,vS]
  subst hX
  exact G.ok ⟨⟨by simp (maxSteps := 2000000) (implicitDefEqProofs := false) (disch := first | omega | (simp only [SD.down,uA,uL] <;> omega) | fail) only [TQ.down,resE,oneV, ↓reduceIte,reduceCtorEq,uB,uE,uL,uA,uM,uS,uN,uX,uO,vR,vD,vL,vK,vE,vA,vM,vT,vS]; omega,fun j hj => by simp (maxSteps := 2000000) (implicitDefEqProofs := false) (disch := first | omega | (simp only [SD.down,uA,uL] <;> omega) | fail) only [TQ.down,resE,oneV, ↓reduceIte,reduceCtorEq,uB,uE,uL,uA,uM,uS,uN,uX,uO,vR,vD,vL,vK,vE,vA,vM,vT,vS]⟩, .inl ⟨h0, .inr ⟨_,_,_,rfl⟩⟩⟩
 ·obtain ⟨m,hm⟩ : ∃ m,l.length = m + 1 := ⟨l.length - 1,by have := List.length_pos_iff.2 h0; omega⟩
  have hq' : (h.new (.cells [] 0 false)).get K = some (.cells cs ext ro) := by simp (maxSteps := 2000000) (implicitDefEqProofs := false) (disch := first | omega | (simp only [SD.down,uA,uL] <;> omega) | fail) only [TQ.down,resE,oneV, ↓reduceIte,reduceCtorEq,uB,uE,uL,uA,uM,uS,uN,uX,uO,vR,vD,vL,vK,vE,vA,vM,vT,vS]; exact h2
  have hby : ((Try.prog.info? 5).getD default).bytes = 1 := by kernel_rfl
  have hsm : Nat.ble ((m + 1 + 1) * (0 + 2) * (((Try.prog.info? 5).getD default).bytes + 1)) (capRoom 0 ((Try.prog.info? 5).getD default).bytes) = true := by
   rw [hby]
   apply Nat.ble_eq_true_of_le
   have : capRoom 0 1 = 562949953420512 := rfl
   omega
  have ea := fun k o' => app_capB (P := Try.prog) (h := h.new (.cells [] 0 false)) (k := k) (o := o') (c := n) (n := m) el33 hsm hq' (by rw [Nat.mul_one,<- hm]; exact h3) (by rw [B_len,hm]; omega) (allSc_B l)
  rw [hm] at hX ⊢
  rw [callD_run (E := env) [] (by kernel_rfl) Try.func46 rfl (by rw [Try.ntmps46]; simp) (by kernel_rfl)]; simp (maxSteps := 2000000) (implicitDefEqProofs := false) (disch := first | omega | (simp only [SD.down,uA,uL] <;> omega) | fail) only [Try.ntmps46,Try.results46,env_P,env_L,nq33,b040,cls_append,ap33,ea,TQ.down,resE,oneV, ↓reduceIte,reduceCtorEq,uB,uE,uL,uA,uM,uS,uN,uX,uO,vR,vD,vL,vK,vE,vA,vM,vT,vS]
  subst hX
  exact G.ok ⟨⟨by simp (maxSteps := 2000000) (implicitDefEqProofs := false) (disch := first | omega | (simp only [SD.down,uA,uL] <;> omega) | fail) only [TQ.down,resE,oneV, ↓reduceIte,reduceCtorEq,uB,uE,uL,uA,uM,uS,uN,uX,uO,vR,vD,vL,vK,vE,vA,vM,vT,vS]; omega,fun j hj => by simp (maxSteps := 2000000) (implicitDefEqProofs := false) (disch := first | omega | (simp only [SD.down,uA,uL] <;> omega) | fail) only [TQ.down,resE,oneV, ↓reduceIte,reduceCtorEq,uB,uE,uL,uA,uM,uS,uN,uX,uO,vR,vD,vL,vK,vE,vA,vM,vT,vS]⟩, .inr ⟨_,rfl,by omega,by simp (maxSteps := 2000000) (implicitDefEqProofs := false) (disch := first | omega | (simp only [SD.down,uA,uL] <;> omega) | fail) only [TQ.down,resE,oneV, ↓reduceIte,reduceCtorEq,uB,uE,uL,uA,uM,uS,uN,uX,uO,vR,vD,vL,vK,vE,vA,vM,vT,vS]; omega,by simp (maxSteps := 2000000) (implicitDefEqProofs := false) (disch := first | omega | (simp only [SD.down,uA,uL] <;> omega) | fail) only [TQ.down,resE,oneV, ↓reduceIte,reduceCtorEq,uB,uE,uL,uA,uM,uS,uN,uX,uO,vR,vD,vL,vK,vE,vA,vM,vT,vS]⟩⟩
def StA (h : Heap) (v : AV) (l : List Stp) : Prop :=
 (l = [] /\ (v = .nilslice \/ ∃ q o n,v = .slice q o 0 n)) \/ ∃ (K : Nat) (vs : List AV) (junk : List AV) (ext : Nat) (ro : Bool),l ≠ [] /\ ((∃ n,v = .slice K 0 l.length n) \/ v = .eslice K 0 0 l.length) /\ K < h.next /\ vs.length = l.length /\ h.get K = some (.cells (stpsC (l.zip vs) ++ junk) ext ro) /\ ∀ (i : Nat) (s : Stp) (u : AV),l[i]? = some s -> vs[i]? = some u -> PickA h u s.picks
theorem StA.keep {h h' : Heap} {v : AV} {l : List Stp} (x : StA h v l) (k : Keeps h h') : StA h' v l := by
 rcases x with x | ⟨K,vs,junk,ext,ro,h0,hv,h1,h2,h3,h4⟩
 ·exact .inl x
 ·exact .inr ⟨K,vs,junk,ext,ro,h0,hv,Nat.lt_of_lt_of_le h1 k.1,h2,(k.2 _ h1).trans h3,fun i s u a b => (h4 i s u a b).keep k⟩
theorem stps_len {l : List Stp} {vs : List AV} (hl : ∀ s ∈ l,s.data.length = 64) (hv : vs.length = l.length) : (stpsC (l.zip vs)).length = l.length * 70 := by
 have := flat_len (fun x : Stp × AV => x.1.C x.2) 70 (l.zip vs) (fun x hx => x.1.C_len x.2 (hl _ (List.of_mem_zip hx).1))
 rw [List.length_zip,hv,Nat.min_self] at this
 exact this
theorem stps_sc {l : List Stp} {vs : List AV} (hu : ∀ u ∈ vs,isSc u = true) : allSc (stpsC (l.zip vs)) = true := by
 induction l generalizing vs with
 | nil => rfl
 | cons s l ih =>
  cases vs with
  | nil => rfl
  | cons u vs =>
   show allSc (s.C u ++ stpsC (l.zip vs)) = true
   exact allSc_app (s.C_sc u (hu u (by simp))) (ih fun x hx => hu x (List.mem_cons_of_mem _ hx))
theorem nq43e (q o l c : Nat) : binE Try.prog .eql 49 (.eslice q o l c) .nilslice = some (.bool false) := by kernel_rfl
theorem clone_st (d : Nat) (h : Heap) (v : AV) (l : List Stp) (hl : ∀ s ∈ l,s.data.length = 64) (hn : l.length < 4000) (x : StA h v l) : G (callD env (d + 1) 45 [v] h) fun w h' => Keeps h h' /\ ((l = [] /\ (w = .nilslice \/ ∃ q o n,w = .slice q o 0 n)) \/ ∃ (K : Nat) (vs : List AV),l ≠ [] /\ w = .eslice K 0 0 l.length /\ h.next <= K /\ K < h'.next /\ vs.length = l.length /\ h'.get K = some (.cells (stpsC (l.zip vs)) 70 false) /\ ∀ (i : Nat) (s : Stp) (u : AV),l[i]? = some s -> vs[i]? = some u -> PickA h u s.picks) := by
 generalize hX : (fun (w : AV) (h' : Heap) => Keeps h h' /\ ((l = [] /\ (w = .nilslice \/ ∃ q o n,w = .slice q o 0 n)) \/ ∃ (K : Nat) (vs : List AV),l ≠ [] /\ w = .eslice K 0 0 l.length /\ h.next <= K /\ K < h'.next /\ vs.length = l.length /\ h'.get K = some (.cells (stpsC (l.zip vs)) 70 false) /\ ∀ (i : Nat) (s : Stp) (u : AV),l[i]? = some s -> vs[i]? = some u -> PickA h u s.picks)) = Q
 rcases x with ⟨h0,rfl | ⟨q,o,n,rfl⟩⟩ | ⟨K,vs,junk,ext,ro,h0,hv,h1,h2,h3,h4⟩
 ·rw [callD_run (E := env) [] (by kernel_rfl) Try.func45 rfl (by rw [Try.ntmps45]; simp) (by kernel_rfl)]; simp (maxSteps := 2000000) (implicitDefEqProofs := false) (disch := first | omega | (simp only [SD.down,uA,uL] <;> omega) | fail) only [Try.ntmps45,Try.results45,env_P,env_L,nn49,TQ.down,resE,oneV, ↓reduceIte,reduceCtorEq,uB,uE,uL,uA,uM,uS,uN,uX,uO,vR,vD,vL,vK,vE,vA,vM,vT,vS]
  subst hX
  exact G.ok ⟨.refl _, .inl ⟨h0, .inl rfl⟩⟩
 ·have ea : ∀ k o' H,appE Try.prog 49 (.slice k o' 0 0) (.slice q o 0 n) H = some (.slice k o' 0 0,H) := fun k o' H => app_00 el49 _ rfl (fun K => rfl)
  rw [callD_run (E := env) [] (by kernel_rfl) Try.func45 rfl (by rw [Try.ntmps45]; simp) (by kernel_rfl)]; simp (maxSteps := 2000000) (implicitDefEqProofs := false) (disch := first | omega | (simp only [SD.down,uA,uL] <;> omega) | fail) only [Try.ntmps45,Try.results45,env_P,env_L,nq49,b043,cls_append,ap49,ea,TQ.down,resE,oneV, ↓reduceIte,reduceCtorEq,uB,uE,uL,uA,uM,uS,uN,uX,uO,vR,vD,vL,vK,vE,vA,vM,vT,vS]
  subst hX
  exact G.ok ⟨⟨by simp (maxSteps := 2000000) (implicitDefEqProofs := false) (disch := first | omega | (simp only [SD.down,uA,uL] <;> omega) | fail) only [TQ.down,resE,oneV, ↓reduceIte,reduceCtorEq,uB,uE,uL,uA,uM,uS,uN,uX,uO,vR,vD,vL,vK,vE,vA,vM,vT,vS]; omega,fun j hj => by simp (maxSteps := 2000000) (implicitDefEqProofs := false) (disch := first | omega | (simp only [SD.down,uA,uL] <;> omega) | fail) only [TQ.down,resE,oneV, ↓reduceIte,reduceCtorEq,uB,uE,uL,uA,uM,uS,uN,uX,uO,vR,vD,vL,vK,vE,vA,vM,vT,vS]⟩, .inl ⟨h0, .inr ⟨_,_,_,rfl⟩⟩⟩
 ·obtain ⟨m,hm⟩ : ∃ m,l.length = m + 1 := ⟨l.length - 1,by have := List.length_pos_iff.2 h0; omega⟩
  have hq' : (h.new (.cells [] 0 false)).get K = some (.cells (stpsC (l.zip vs) ++ junk) ext ro) := by simp (maxSteps := 2000000) (implicitDefEqProofs := false) (disch := first | omega | (simp only [SD.down,uA,uL] <;> omega) | fail) only [TQ.down,resE,oneV, ↓reduceIte,reduceCtorEq,uB,uE,uL,uA,uM,uS,uN,uX,uO,vR,vD,vL,vK,vE,vA,vM,vT,vS]; exact h3
  have hll := stps_len hl h2
  have hsc : allSc (stpsC (l.zip vs)) = true := stps_sc fun u hu => by
   obtain ⟨i,hi⟩ := List.mem_iff_getElem?.1 hu
   have hlt := (List.getElem?_eq_some_iff.1 hi).1
   exact (h4 i _ u (List.getElem?_eq_getElem (by omega)) hi).ok.2.1
  have hcut : cutE 0 ((m + 1) * (69 + 1)) (stpsC (l.zip vs) ++ junk) = some (stpsC (l.zip vs)) := by
   rw [cutE_of (by rw [List.length_append,hll,hm]; omega),List.drop_zero,List.take_append_of_le_length (by rw [hll,hm]; omega),List.take_of_length_le (by rw [hll,hm]; omega)]
  rcases hv with ⟨n,rfl⟩ | rfl
  ·have ea := fun k o' => app_cap (P := Try.prog) (h := h.new (.cells [] 0 false)) (k := k) (o := o') (c := n) (n := m) el49 (by omega) hq' hcut (by rw [hll,hm]) hsc
   rw [hm] at hX ⊢
   rw [callD_run (E := env) [] (by kernel_rfl) Try.func45 rfl (by rw [Try.ntmps45]; simp) (by kernel_rfl)]; simp (maxSteps := 2000000) (implicitDefEqProofs := false) (disch := first | omega | (simp only [SD.down,uA,uL] <;> omega) | fail) only [Try.ntmps45,Try.results45,env_P,env_L,nq49,b043,cls_append,ap49,ea,TQ.down,resE,oneV, ↓reduceIte,reduceCtorEq,uB,uE,uL,uA,uM,uS,uN,uX,uO,vR,vD,vL,vK,vE,vA,vM,vT,vS]
   subst hX
   exact G.ok ⟨⟨by simp (maxSteps := 2000000) (implicitDefEqProofs := false) (disch := first | omega | (simp only [SD.down,uA,uL] <;> omega) | fail) only [TQ.down,resE,oneV, ↓reduceIte,reduceCtorEq,uB,uE,uL,uA,uM,uS,uN,uX,uO,vR,vD,vL,vK,vE,vA,vM,vT,vS]; omega,fun j hj => by simp (maxSteps := 2000000) (implicitDefEqProofs := false) (disch := first | omega | (simp only [SD.down,uA,uL] <;> omega) | fail) only [TQ.down,resE,oneV, ↓reduceIte,reduceCtorEq,uB,uE,uL,uA,uM,uS,uN,uX,uO,vR,vD,vL,vK,vE,vA,vM,vT,vS]⟩, .inr ⟨_,vs,h0,rfl,by omega,by simp (maxSteps := 2000000) (implicitDefEqProofs := false) (disch := first | omega | (simp only [SD.down,uA,uL] <;> omega) | fail) only [TQ.down,resE,oneV, ↓reduceIte,reduceCtorEq,uB,uE,uL,uA,uM,uS,uN,uX,uO,vR,vD,vL,vK,vE,vA,vM,vT,vS]; omega,by omega,by simp (maxSteps := 2000000) (implicitDefEqProofs := false) (disch := first | omega | (simp only [SD.down,uA,uL] <;> omega) | fail) only [TQ.down,resE,oneV, ↓reduceIte,reduceCtorEq,uB,uE,uL,uA,uM,uS,uN,uX,uO,vR,vD,vL,vK,vE,vA,vM,vT,vS],h4⟩⟩
  ·have ea := fun k o' => app_capE (P := Try.prog) (h := h.new (.cells [] 0 false)) (k := k) (o := o') (i := 0) (n := m) el49 (by omega) hq' hcut (by rw [hll,hm]) hsc
   rw [hm] at hX ⊢
   rw [callD_run (E := env) [] (by kernel_rfl) Try.func45 rfl (by rw [Try.ntmps45]; simp) (by kernel_rfl)]; simp (maxSteps := 2000000) (implicitDefEqProofs := false) (disch := first | omega | (simp only [SD.down,uA,uL] <;> omega) | fail) only [Try.ntmps45,Try.results45,env_P,env_L,nq43e,b043,cls_append,ap49,ea,TQ.down,resE,oneV, ↓reduceIte,reduceCtorEq,uB,uE,uL,uA,uM,uS,uN,uX,uO,vR,vD,vL,vK,vE,vA,vM,vT,vS]
   subst hX
   exact G.ok ⟨⟨by simp (maxSteps := 2000000) (implicitDefEqProofs := false) (disch := first | omega | (simp only [SD.down,uA,uL] <;> omega) | fail) only [TQ.down,resE,oneV, ↓reduceIte,reduceCtorEq,uB,uE,uL,uA,uM,uS,uN,uX,uO,vR,vD,vL,vK,vE,vA,vM,vT,vS]; omega,fun j hj => by simp (maxSteps := 2000000) (implicitDefEqProofs := false) (disch := first | omega | (simp only [SD.down,uA,uL] <;> omega) | fail) only [TQ.down,resE,oneV, ↓reduceIte,reduceCtorEq,uB,uE,uL,uA,uM,uS,uN,uX,uO,vR,vD,vL,vK,vE,vA,vM,vT,vS]⟩, .inr ⟨_,vs,h0,rfl,by omega,by simp (maxSteps := 2000000) (implicitDefEqProofs := false) (disch := first | omega | (simp only [SD.down,uA,uL] <;> omega) | fail) only [TQ.down,resE,oneV, ↓reduceIte,reduceCtorEq,uB,uE,uL,uA,uM,uS,uN,uX,uO,vR,vD,vL,vK,vE,vA,vM,vT,vS]; omega,by omega,by simp (maxSteps := 2000000) (implicitDefEqProofs := false) (disch := first | omega | (simp only [SD.down,uA,uL] <;> omega) | fail) only [TQ.down,resE,oneV, ↓reduceIte,reduceCtorEq,uB,uE,uL,uA,uM,uS,uN,uX,uO,vR,vD,vL,vK,vE,vA,vM,vT,vS],h4⟩⟩
theorem flat_set {α : Type} (f : α -> List AV) (n : Nat) : ∀ (l : List α) (k j : Nat) (x x' : α) (v : AV),(∀ x ∈ l,(f x).length = n) -> l[k]? = some x -> j < n -> f x' = (f x).set j v -> (l.flatMap f).set (k * n + j) v = (l.set k x').flatMap f
 | [],k,j,x,x',v,_,hk,_,_ => by simp at hk
 | y :: l,k,j,x,x',v,h,hk,hj,hx => by
  have hy := h y (by simp)
  rw [List.flatMap_cons]
  cases k with
  | zero =>
   simp at hk
   subst hk
   rw [Nat.zero_mul,Nat.zero_add,List.set_append_left _ _ (by omega),List.set_cons_zero,List.flatMap_cons,hx]
  | succ k =>
   have ih := flat_set f n l k j x x' v (fun z hz => h z (List.mem_cons_of_mem _ hz)) (by simpa using hk) hj hx
   rw [List.set_append_right _ _ (by rw [hy,Nat.succ_mul]; omega),List.set_cons_succ,List.flatMap_cons,<- ih,hy]
   congr 2
   rw [Nat.succ_mul]; omega
theorem zip_set {α : Type} {β : Type} : ∀ (l : List α) (ws : List β) (k : Nat) (s : α) (v : β),l[k]? = some s -> (l.zip ws).set k (s,v) = l.zip (ws.set k v)
 | [],ws,k,s,v,h => by simp at h
 | a :: l,[],k,s,v,h => by simp
 | a :: l,w :: ws,0,s,v,h => by simp at h; subst h; rfl
 | a :: l,w :: ws,k + 1,s,v,h => by
  simp only [List.zip_cons_cons,List.set_cons_succ]
  rw [zip_set l ws k s v (by simpa using h)]
def PkN (n : Nat) (hh : Heap) (K : Nat) (u : AV) (l : List Nat) : Prop :=
 (l = [] /\ (u = .nilslice \/ ∃ q o n,u = .slice q o 0 n)) \/ ∃ K',u = .eslice K' 0 0 l.length /\ n <= K' /\ K' < hh.next /\ K' ≠ K /\ hh.get K' = some (.cells (B l) 1 false)
theorem PkN.sc {n : Nat} {hh : Heap} {K : Nat} {u : AV} {l : List Nat} (x : PkN n hh K u l) : isSc u = true := by
 rcases x with ⟨_,rfl | ⟨q,o,n,rfl⟩⟩ | ⟨K',rfl,_⟩ <;> rfl
theorem Stp.C_set (s : Stp) (u v : AV) (hs : s.data.length = 64) : s.C v = (s.C u).set 69 v := by
 simp only [Stp.C,List.cons_append,List.nil_append,List.set_cons_succ]
 rw [List.set_append_right _ _ (by rw [B_len,hs]; omega),B_len,hs]
 rfl
end Go.Proofs.Ytlnepbkeiianmaa
