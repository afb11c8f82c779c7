/- Of this program, for all inputs: contracts. No condition but those in the theorems. -/
import Derived.Test.YtlnepbkeiianmaaMM
namespace Go.Proofs.Ytlnepbkeiianmaa
open Go Go.Ai Go.Aw Go.Proofs
open Nat renaming reduceBEq -> uB,reduceEqDiff -> uE,reduceLT -> uL,reduceAdd -> uA,reduceMul -> uM,reduceSub -> uS,reduceAnd -> uN,reduceXor -> uX,reduceOr -> uO
open Int renaming reduceMod -> vR,reduceDiv -> vD,reduceLT -> vL,reduceLE -> vK,reduceEq -> vE,reduceAdd -> vA,reduceMul -> vM,reduceToNat -> vT,reduceSub -> vS
set_option linter.unusedSimpArgs false
set_option linter.unusedVariables false
set_option maxRecDepth 10000
structure Ent where
 kind : Int
 m : Int
 i : Int
 x : List Nat
 e : Int
def entG (t : Ent) : List AV := AV.int .i64 t.kind :: AV.int .i64 t.m :: AV.int .i64 t.i :: (B t.x ++ [AV.int .i64 t.e])
theorem entG_len (t : Ent) (hx : t.x.length = 64) : (entG t).length = 68 := by simp [entG,B_len,hx]
theorem entG_sc (t : Ent) : allSc (entG t) = true := by
 have := allSc_B t.x
 simp only [allSc] at this
 simp only [entG,allSc,List.all_append,List.all_cons,List.all_nil,this]
 rfl
theorem entG_cut (t : Ent) (hx : t.x.length = 64) : cutE 0 68 (entG t) = some (entG t) := cut_all (by simp [entG_len t hx])
theorem entG_over (t u : Ent) (hx : t.x.length = 64) (hu : u.x.length = 64) : overE 0 (entG t) (entG u) = some (entG t) := by rw [overE_n,entG_len t hx,ovN_full (by simp [entG_len u hu]),entG_sc,scE_true]
theorem entG_overZ (t : Ent) (hx : t.x.length = 64) : overE 0 (entG t) entZ = some (entG t) := by rw [overE_n,entG_len t hx,ovN_full (by simp [entZ_len]),entG_sc,scE_true]
theorem entG_err (t : Ent) (hx : t.x.length = 64) (e : Int) : (entG t).set 67 (.int .i64 e) = entG { t with e := e } := by
 simp only [entG,List.set_cons_succ]
 rw [List.set_append_right _ _ (by rw [B_len,hx]; omega),B_len,hx]
 rfl
theorem bs62G (t : Ent) (hx : t.x.length = 64) (h : Heap) : bsE Try.prog 50 1 [(0, .agg (entG t))] h = some (.slice h.next 0 1 1,h.new (.cells (entG t) 0 false)) := bs_one Try.underlying50 (s := 67) (by kernel_rfl) (z := ((zeroE Try.prog 134).getD .nilptr)) (by kernel_rfl) (by kernel_rfl) (by kernel_rfl) (entG_len t hx) (entG_sc t) h
def blogC (l : List Ent) : List AV := l.flatMap entG
theorem blogC_len {l : List Ent} (hl : ∀ t ∈ l,t.x.length = 64) : (blogC l).length = l.length * 68 := by
 induction l with
 | nil => rfl
 | cons t l ih =>
  have h1 := entG_len t (hl t (by simp))
  have h2 := ih fun y hy => hl y (List.mem_cons_of_mem _ hy)
  simp only [blogC,List.flatMap_cons,List.length_append,List.length_cons] at h2 ⊢
  omega
def BLogIs (h : Heap) (lgv : AV) (L : Nat) (l : List Ent) : Prop := (l = [] /\ lgv = .nilslice) \/ (lgv = .eslice L 0 0 l.length /\ h.get L = some (.cells (blogC l) 68 false) /\ L < h.next)
theorem BLogIs.ok {h : Heap} {lgv : AV} {L : Nat} {l : List Ent} (x : BLogIs h lgv L l) : okv lgv = some lgv := by
 rcases x with ⟨_,rfl⟩ | ⟨rfl,_⟩ <;> rfl
theorem BLogIs.same {h : Heap} {lgv : AV} {L : Nat} {l : List Ent} (x : BLogIs h lgv L l) : AV.same lgv lgv = true := by
 rcases x with ⟨_,rfl⟩ | ⟨rfl,_⟩
 ·rfl
 ·exact same_eslice ..
theorem BLogIs.len {h : Heap} {lgv : AV} {L : Nat} {l : List Ent} (x : BLogIs h lgv L l) : lenE Try.prog 50 lgv = some (.int .i64 (l.length : Int)) := by
 rcases x with ⟨rfl,rfl⟩ | ⟨rfl,_⟩
 ·exact lnn50
 ·exact lne50 ..
theorem BLogIs.keep {h h' : Heap} {lgv : AV} {L : Nat} {l : List Ent} (x : BLogIs h lgv L l) (hn : h.next <= h'.next) (k : lgv ≠ .nilslice -> L < h.next -> h'.get L = h.get L) : BLogIs h' lgv L l := by
 rcases x with x | ⟨rfl,hg,hL⟩
 ·exact .inl x
 ·exact .inr ⟨rfl,(k (by simp) hL).trans hg,Nat.lt_of_lt_of_le hL hn⟩
theorem entG_1 (t : Ent) : (entG t)[1]? = some (.int .i64 t.m) := rfl
theorem entG_2 (t : Ent) : (entG t)[2]? = some (.int .i64 t.i) := rfl
def whose (m : Int) : Option Bool := if m < 0 \/ 2 <= m then none else if m = 0 then some false else some true
theorem entG_data (t : Ent) (y : List Nat) (hx : t.x.length = 64) (hy : y.length = 64) : overE 3 (B y) (entG t) = some (entG { t with x := y }) := by
 have l := entG_len t hx
 unfold overE
 rw [if_pos ⟨by rw [l,B_len,hy]; omega,allSc_B _⟩]
 unfold entG
 simp only [List.take_succ_cons,List.take_zero,B_len,hy]
 rw [show 3 + 64 = 64 + 1 + 1 + 1 from rfl]
 simp only [List.drop_succ_cons]
 rw [List.drop_append_of_le_length (by rw [B_len,hx]; omega),List.drop_of_length_le (by rw [B_len,hx]; omega)]
 rfl
theorem entG_d (t : Ent) (hx : t.x.length = 64) : cutE 3 64 (entG t) = some (B t.x) := by
 rw [cutE_of (by rw [entG_len t hx]; omega)]
 show some ((B t.x ++ [AV.int .i64 t.e]).take 64) = _
 rw [List.take_append_of_le_length (by simp [B_len,hx]),List.take_of_length_le (by simp [B_len,hx])]
end Go.Proofs.Ytlnepbkeiianmaa
namespace Go.Aw
open Go Go.Ai
set_option linter.unusedSimpArgs false
set_option linter.unusedVariables false
variable {P : Program} {h : Heap}
end Go.Aw
namespace Go.Proofs.Ytlnepbkeiianmaa
open Go Go.Ai Go.Aw Go.Proofs
open Nat renaming reduceBEq -> uB,reduceEqDiff -> uE,reduceLT -> uL,reduceAdd -> uA,reduceMul -> uM,reduceSub -> uS,reduceAnd -> uN,reduceXor -> uX,reduceOr -> uO
open Int renaming reduceMod -> vR,reduceDiv -> vD,reduceLT -> vL,reduceLE -> vK,reduceEq -> vE,reduceAdd -> vA,reduceMul -> vM,reduceToNat -> vT,reduceSub -> vS
set_option linter.unusedSimpArgs false
set_option linter.unusedVariables false
set_option maxRecDepth 10000
def cC (n : Nat) (t : List Nat) : List AV := AV.int .u64 (n : Int) :: B t
theorem cC_len (n : Nat) (t : List Nat) (ht : t.length = 32) : (cC n t).length = 33 := by simp [cC,B_len,ht]
theorem cC_sc (n : Nat) (t : List Nat) : allSc (cC n t) = true := by
 have := allSc_B t
 simp only [allSc] at this
 simp only [cC,allSc,List.all_cons,this]
 rfl
theorem cC_cut (n : Nat) (t : List Nat) (ht : t.length = 32) : cutE 0 33 (cC n t) = some (cC n t) := cut_all (by simp [cC_len n t ht])
def hC (l : List (Nat × List Nat)) : List AV := l.flatMap fun x => cC x.1 x.2
theorem hC_len {l : List (Nat × List Nat)} (hl : ∀ x ∈ l,x.2.length = 32) : (hC l).length = l.length * 33 := by
 induction l with
 | nil => rfl
 | cons x l ih =>
  have h1 := cC_len x.1 x.2 (hl x (by simp))
  have h2 := ih fun y hy => hl y (List.mem_cons_of_mem _ hy)
  simp only [hC,List.flatMap_cons,List.length_append,List.length_cons] at h2 ⊢
  omega
def HisIs (h : Heap) (hv : AV) (K : Nat) (l : List (Nat × List Nat)) : Prop := (∃ x,l = [x] /\ hv = .slice K 0 1 1 /\ h.get K = some (.cells (cC x.1 x.2) 0 false) /\ K < h.next) \/ (hv = .eslice K 0 0 l.length /\ h.get K = some (.cells (hC l) 33 false) /\ K < h.next)
theorem HisIs.len {h : Heap} {hv : AV} {K : Nat} {l : List (Nat × List Nat)} (x : HisIs h hv K l) : lenE Try.prog 113 hv = some (.int .i64 (l.length : Int)) := by
 rcases x with ⟨x,rfl,rfl,_⟩ | ⟨rfl,_⟩
 ·exact lns113 ..
 ·exact lne113 ..
theorem HisIs.ok {h : Heap} {hv : AV} {K : Nat} {l : List (Nat × List Nat)} (x : HisIs h hv K l) : okv hv = some hv := by
 rcases x with ⟨x,rfl,rfl,_⟩ | ⟨rfl,_⟩ <;> rfl
theorem HisIs.same {h : Heap} {hv : AV} {K : Nat} {l : List (Nat × List Nat)} (x : HisIs h hv K l) : AV.same hv hv = true := by
 rcases x with ⟨x,rfl,rfl,_⟩ | ⟨rfl,_⟩
 ·exact same_slice ..
 ·exact same_eslice ..
theorem hC_cut {l : List (Nat × List Nat)} (hl : ∀ x ∈ l,x.2.length = 32) {k : Nat} {x : Nat × List Nat} (hk : l[k]? = some x) : cutE (k * 33) 33 (hC l) = some (cC x.1 x.2) := by
 induction l generalizing k with
 | nil => simp at hk
 | cons y l ih =>
  have hy := cC_len y.1 y.2 (hl y (by simp))
  have hll : (hC l).length = l.length * 33 := hC_len fun z hz => hl z (List.mem_cons_of_mem _ hz)
  have e : hC (y :: l) = cC y.1 y.2 ++ hC l := by simp [hC]
  rw [e]
  cases k with
  | zero =>
   simp at hk
   subst hk
   rw [Nat.zero_mul,cutE_of (by rw [List.length_append,hy]; omega),List.drop_zero,List.take_append_of_le_length (by omega),List.take_of_length_le (by omega)]
  | succ k =>
   have hk' : l[k]? = some x := by simpa using hk
   have h2 := ih (fun z hz => hl z (List.mem_cons_of_mem _ hz)) hk'
   have hkl : k < l.length := (List.getElem?_eq_some_iff.1 hk').1
   rw [cutE_of (by rw [hll]; omega)] at h2
   rw [cutE_of (by rw [List.length_append,hy,hll]; omega),show (k + 1) * 33 = 33 + k * 33 by omega,List.drop_append,hy,List.drop_of_length_le (by omega),List.nil_append,show 33 + k * 33 - 33 = k * 33 by omega]
   exact h2
def czz : List Nat := List.replicate 32 0
theorem cz_fold : c33 = cC 0 czz := rfl
theorem cC_over (n k : Nat) (t u : List Nat) (ht : t.length = 32) (hu : u.length = 32) : overE 0 (cC n t) (cC k u) = some (cC n t) := by rw [overE_n,cC_len n t ht,ovN_full (by simp [cC_len k u hu]),cC_sc,scE_true]
set_option maxHeartbeats 1000000 in
theorem cell_read (d : Nat) (h : Heap) (c K : Nat) (hv : AV) (l : List (Nat × List Nat)) (x : Nat × List Nat) (hc : h.get c = some (.cells [hv] 0 false)) (hh : HisIs h hv K l) (hl : ∀ x ∈ l,x.2.length = 32) (hx : l[l.length - 1]? = some x) (lc : c < h.next) (hll : l.length < 4000) : G (callD env (d + 2) 41 [.ptr c 0] h) fun v h' => v = .tup [.agg (cC x.1 x.2), .int .i64 0] /\ Keeps h h' := by
 generalize hX : (fun (v : AV) (h' : Heap) => v = .tup [.agg (cC x.1 x.2), .int .i64 0] /\ Keeps h h') = Q
 have hcut := hC_cut hl hx
 have hpos : 0 < l.length := by
  cases l with
  | nil => simp at hx
  | cons y l => simp
 have hd0 : decide ((0 : Int) < (l.length : Int)) = true := decide_eq_true (by omega)
 have hxl := hl x (List.mem_of_getElem? hx)
 have hlen := hh.len
 have hok := hh.ok
 have hsm := hh.same
 have hcl := cC_len x.1 x.2 hxl
 have hzl : czz.length = 32 := by simp [czz]
 rcases hh with ⟨y,rfl,rfl,hg,hK⟩ | ⟨rfl,hg,hK⟩
 ·have hg' : h.get K = some (.cells (cC y.1 y.2) 0 false) := hg
  obtain rfl : y = x := by simpa using hx
  rw [callD_run (E := env) [] (by kernel_rfl) Try.func41 rfl (by rw [Try.ntmps41]; simp) (by kernel_rfl)]; simp (maxSteps := 2000000) (implicitDefEqProofs := false) (disch := first | omega | (simp only [SD.down,uA,uL] <;> omega) | fail) only [Try.ntmps41,Try.results41,env_P,env_L,in61,Try.f61,hc,hg',c33_fold,cz_fold,cC_over _ _ _ czz hxl hzl,cC_cut _ _ hxl,hcl,TQ.down,resE,oneV, ↓reduceIte,reduceCtorEq,uB,uE,uL,uA,uM,uS,uN,uX,uO,vR,vD,vL,vK,vE,vA,vM,vT,vS]
  subst hX
  refine G.ok ⟨rfl, ?_,fun j hj => ?_⟩
  ·simp (maxSteps := 2000000) (implicitDefEqProofs := false) (disch := first | omega | (simp only [SD.down,uA,uL] <;> omega) | fail) only [TQ.down,resE,oneV, ↓reduceIte,reduceCtorEq,uB,uE,uL,uA,uM,uS,uN,uX,uO,vR,vD,vL,vK,vE,vA,vM,vT,vS]
   try omega
  ·simp (maxSteps := 2000000) (implicitDefEqProofs := false) (disch := first | omega | (simp only [SD.down,uA,uL] <;> omega) | fail) only [TQ.down,resE,oneV, ↓reduceIte,reduceCtorEq,uB,uE,uL,uA,uM,uS,uN,uX,uO,vR,vD,vL,vK,vE,vA,vM,vT,vS]
 ·have hll' := hll
  rw [callD_run (E := env) [] (by kernel_rfl) Try.func41 rfl (by rw [Try.ntmps41]; simp) (by kernel_rfl)]; simp (maxSteps := 2000000) (implicitDefEqProofs := false) (disch := first | omega | (simp only [SD.down,uA,uL] <;> omega) | fail) only [Try.ntmps41,Try.results41,env_P,env_L,in61,Try.f61,hc,hg,hd0,hcut,c33_fold,cz_fold,cC_over _ _ _ czz hxl hzl,cC_cut _ _ hxl,hcl,TQ.down,resE,oneV, ↓reduceIte,reduceCtorEq,uB,uE,uL,uA,uM,uS,uN,uX,uO,vR,vD,vL,vK,vE,vA,vM,vT,vS]
  subst hX
  refine G.ok ⟨rfl, ?_,fun j hj => ?_⟩
  ·simp (maxSteps := 2000000) (implicitDefEqProofs := false) (disch := first | omega | (simp only [SD.down,uA,uL] <;> omega) | fail) only [TQ.down,resE,oneV, ↓reduceIte,reduceCtorEq,uB,uE,uL,uA,uM,uS,uN,uX,uO,vR,vD,vL,vK,vE,vA,vM,vT,vS]
   try omega
  ·simp (maxSteps := 2000000) (implicitDefEqProofs := false) (disch := first | omega | (simp only [SD.down,uA,uL] <;> omega) | fail) only [TQ.down,resE,oneV, ↓reduceIte,reduceCtorEq,uB,uE,uL,uA,uM,uS,uN,uX,uO,vR,vD,vL,vK,vE,vA,vM,vT,vS]
theorem bs141G (n : Nat) (t : List Nat) (ht : t.length = 32) (h : Heap) : bsE Try.prog 113 1 [(0, .agg (cC n t))] h = some (.slice h.next 0 1 1,h.new (.cells (cC n t) 0 false)) := bs_one Try.underlying113 (s := 32) (by kernel_rfl) (z := .agg c33) (by kernel_rfl) (by kernel_rfl) (by kernel_rfl) (cC_len n t ht) (cC_sc n t) h
theorem cC_0 (n : Nat) (t : List Nat) : (cC n t)[0]? = some (.int .u64 (n : Int)) := rfl
theorem HisIs.keep {h h' : Heap} {hv : AV} {K : Nat} {l : List (Nat × List Nat)} (x : HisIs h hv K l) (hn : h.next <= h'.next) (k : K < h.next -> h'.get K = h.get K) : HisIs h' hv K l := by
 rcases x with ⟨x,rfl,rfl,hg,hK⟩ | ⟨rfl,hg,hK⟩
 ·exact .inl ⟨x,rfl,rfl,(k hK).trans hg,Nat.lt_of_lt_of_le hK hn⟩
 ·exact .inr ⟨rfl,(k hK).trans hg,Nat.lt_of_lt_of_le hK hn⟩
theorem HisIs.lt {h : Heap} {hv : AV} {K : Nat} {l : List (Nat × List Nat)} (x : HisIs h hv K l) : K < h.next := by
 rcases x with ⟨x,rfl,rfl,hg,hK⟩ | ⟨rfl,hg,hK⟩ <;> exact hK
end Go.Proofs.Ytlnepbkeiianmaa
