/- Of this program, for all inputs: contracts. No condition but those in the theorems. -/
import Derived.Test.YtlnepbkeiianmaaSS
namespace Go.Aw
open Go Go.Ai
set_option linter.unusedSimpArgs false
set_option linter.unusedVariables false
variable {P : Program}
/-! a map from numbers to arrays of bytes,as a list -/
def mapC (l : List (Int × List Nat)) : List (AV × AV) := l.map fun x => (.int .i64 x.1, .agg (B x.2))
def mGet (l : List (Int × List Nat)) (i : Int) (z : List Nat) : List Nat := match l with
 | [] => z
 | (k,s) :: r => if i = k then s else mGet r i z
def mUpd (l : List (Int × List Nat)) (i : Int) (s : List Nat) : List (Int × List Nat) := match l with
 | [] => [(i,s)]
 | (k,t) :: r => if i = k then (i,s) :: r else (k,t) :: mUpd r i s
def mDel (l : List (Int × List Nat)) (i : Int) : List (Int × List Nat) := match l with
 | [] => []
 | (k,t) :: r => if i = k then r else (k,t) :: mDel r i
theorem scEq_int (a b : Int) : scEq (.int .i64 a) (.int .i64 b) = some (decide (a = b)) := by
 simp only [scEq,if_true,ieq_eq]
 by_cases h : a = b
 ·subst h; simp
 ·simp [h]
theorem upd_mapC (i : Int) (s : List Nat) : ∀ (l : List (Int × List Nat)) {β : Type} (K : List (AV × AV) -> Option β),updK (mapC l) (.int .i64 i) (.agg (B s)) K = K (mapC (mUpd l i s))
 | [],_,K => rfl
 | (k,t) :: r,_,K => by
  show (match scEq (.int .i64 i) (.int .i64 k) with
   | some true => K ((.int .i64 i, .agg (B s)) :: mapC r)
   | some false => updK (mapC r) (.int .i64 i) (.agg (B s)) fun r => K ((.int .i64 k, .agg (B t)) :: r)
   | none => none) = _
  rw [scEq_int,mUpd]
  by_cases h : i = k
  ·rw [decide_eq_true h,if_pos h]; rfl
  ·rw [decide_eq_false h,if_neg h]
   show updK (mapC r) _ _ _ = _
   rw [upd_mapC i s r]
   rfl
theorem del_mapC (i : Int) : ∀ (l : List (Int × List Nat)) {β : Type} (K : List (AV × AV) -> Option β),delK (mapC l) (.int .i64 i) K = K (mapC (mDel l i))
 | [],_,K => rfl
 | (k,t) :: r,_,K => by
  show (match scEq (.int .i64 i) (.int .i64 k) with
   | some true => K (mapC r)
   | some false => delK (mapC r) (.int .i64 i) fun r => K ((.int .i64 k, .agg (B t)) :: r)
   | none => none) = _
  rw [scEq_int,mDel]
  by_cases h : i = k
  ·rw [decide_eq_true h,if_pos h]
  ·rw [decide_eq_false h,if_neg h]
   show delK (mapC r) _ _ = _
   rw [del_mapC i r]
   rfl
theorem find_mapC (i : Int) (z : List Nat) {et : TypeId} (hz : zeroE P et = some (.agg (B z))) : ∀ (l : List (Int × List Nat)),findK (mapC l) (.int .i64 i) (lookFinK P et false some) = some (.agg (B (mGet l i z)))
 | [] => by
  show lookFinK P et false some none = _
  simp only [lookFinK,zeroK_E,hz,th_some]
  rfl
 | (k,t) :: r => by
  show (match scEq (.int .i64 i) (.int .i64 k) with
   | some true => lookFinK P et false some (some (.agg (B t)))
   | some false => findK (mapC r) (.int .i64 i) (lookFinK P et false some)
   | none => none) = _
  rw [scEq_int,mGet]
  by_cases h : i = k
  ·rw [decide_eq_true h,if_pos h]; rfl
  ·rw [decide_eq_false h,if_neg h]
   exact find_mapC i z hz r
def lookM (b : Option Blk) (i : Int) (z : List Nat) : Option AV := match b with
 | some (.map es _) => findK es (.int .i64 i) fun r => match r with | some v => some v | none => some (.agg (B z))
 | _ => none
theorem lookup_mapC {T kt et : TypeId} {k : IntKind} {i : Int} {z : List Nat} {l : List (Int × List Nat)} {r : Nat} {ro : Bool} {h : Heap} (hT : P.underlying T = some (.map kt et)) (hk : P.underlying kt = some (.int k)) (hz : zeroE P et = some (.agg (B z))) (hg : h.get r = some (.map (mapC l) ro)) :
  lookupE P h T (.map r) (.int .i64 i) false = some (.agg (B (mGet l i z))) := by
 simp only [lookupE,lookupK,unK_E,hT,th_some,keyK,hk,hgetK_eq,hg]
 exact find_mapC i z hz l
theorem updB_mapC (l : List (Int × List Nat)) (i : Int) (s : List Nat) : updB (some (.map (mapC l) false)) (.int .i64 i) (.agg (B s)) = some (.map (mapC (mUpd l i s)) false) := by
 simp only [updB,upd_mapC,th_some]
end Go.Aw
namespace Go.Aw
open Go Go.Ai
set_option linter.unusedSimpArgs false
set_option linter.unusedVariables false
variable {P : Program} {call : CallK} {ρ : Operand -> AV} {dd : Option Tmp} {t : TypeId} {p : String} {a : Array Edge} {g : Option (Nat × Bool)} {h : Heap}
theorem cls_delete (x y : Operand) (ts : Array TypeId) : cls P ⟨dd, .call ⟨.builtin .delete,#[x,y],ts⟩,t,p,a,g⟩ = .e := rfl
theorem opE_delete (T U : TypeId) (x y : Operand) : opE P call ρ ⟨dd, .call ⟨.builtin .delete,#[x,y],#[T,U]⟩,t,p,a,g⟩ h = th (okv (ρ x)) fun u => th (okv (ρ y)) fun v => th (deleteE P h T u v) fun h => some (undefA,h) := by
 unfold opE opK
 rw [cls_delete]
 simp only [effK,List.getElem?_toArray,List.getElem?_cons_zero,List.getElem?_cons_succ,okK_E,deleteK_E]
 rfl
def delB (b : Option Blk) (i : Int) : Option Blk := match b with
 | some (.map es false) => delK es (.int .i64 i) fun es => some (.map es false)
 | _ => none
theorem mapDel {T kt et : TypeId} {k : IntKind} {i : Int} {r : Nat} (hT : P.underlying T = some (.map kt et)) (hk : P.underlying kt = some (.int k)) :
  deleteE P h T (.map r) (.int .i64 i) = th (delB (h.get r) i) fun b => some (h.put r (some b)) := by
 simp only [deleteE,deleteK,unK_E,hT,th_some,keyK,hk,hgetK_eq]
 cases h.get r with
 | none => rfl
 | some b =>
  cases b with
  | cells cs e ro => rfl
  | map es ro =>
   cases ro with
   | true => rfl
   | false =>
    simp only [delB]
    rw [delK_E,delK_E (K := fun es => some (Blk.map es false))]
    simp only [th_th,hputK_eq,th_some]
theorem delB_mapC (l : List (Int × List Nat)) (i : Int) : delB (some (.map (mapC l) false)) i = some (.map (mapC (mDel l i)) false) := by
 simp only [delB,del_mapC]
end Go.Aw
namespace Go.Proofs.Ytlnepbkeiianmaa
open Go Go.Ai Go.Aw Go.Proofs
open Nat renaming reduceBEq -> uB,reduceEqDiff -> uE,reduceLT -> uL,reduceAdd -> uA,reduceMul -> uM,reduceSub -> uS,reduceAnd -> uN,reduceXor -> uX,reduceOr -> uO
open Int renaming reduceMod -> vR,reduceDiv -> vD,reduceLT -> vL,reduceLE -> vK,reduceEq -> vE,reduceAdd -> vA,reduceMul -> vM,reduceToNat -> vT,reduceSub -> vS
set_option linter.unusedSimpArgs false
set_option linter.unusedVariables false
set_option maxRecDepth 10000
def memG (n : Nat) (a b : Nat) (lg mk : AV) (fails hurt : Bool) : List AV := [.int .i64 (n : Int), .map a, .map b,lg,mk, .bool fails, .bool hurt]
def mPut (l : List (Int × List Nat)) (i : Int) (s : List Nat) : List (Int × List Nat) := if M s = M zz then mDel l i else mUpd l i s
theorem put_ok (d : Nat) (h : Heap) (r : Nat) (i : Int) (s : List Nat) (l : List (Int × List Nat)) (hs : s.length = 64) (hr : r < h.next) (hg : h.get r = some (.map (mapC l) false)) : G (callD env (d + 1) 35 [.map r, .int .i64 i, .agg (B s)] h) fun v h' => v = .tup [] /\ h'.get r = some (.map (mapC (mPut l i s)) false) /\ h.next <= h'.next /\ ∀ j,j < h.next -> j ≠ r -> h'.get j = h.get j := by
 generalize hX : (fun (v : AV) (h' : Heap) => v = .tup [] /\ h'.get r = some (.map (mapC (mPut l i s)) false) /\ h.next <= h'.next /\ ∀ j,j < h.next -> j ≠ r -> h'.get j = h.get j) = Q
 have hz := zz_len
 unfold mPut at hX
 by_cases hsz : M s = M zz
 ·rw [if_pos hsz] at hX
  have hd : decide (M s = M zz) = true := decide_eq_true hsz
  rw [callD_run (E := env) [] (by kernel_rfl) Try.func35 rfl (by rw [Try.ntmps35]; simp) (by kernel_rfl)]; simp (maxSteps := 2000000) (implicitDefEqProofs := false) (disch := first | omega | (simp only [SD.down,uA,uL] <;> omega) | fail) only [Try.ntmps35,Try.results35,env_P,env_L,hz,hs,zz_fold,cutB_all,over_B,bz25,bin_eql_agg,eq25 s zz hs hz,hd,cls_delete,opE_delete,mapDel Try.underlying96 Try.underlying3,delB_mapC,hg,TQ.down,resE,oneV, ↓reduceIte,reduceCtorEq,uB,uE,uL,uA,uM,uS,uN,uX,uO,vR,vD,vL,vK,vE,vA,vM,vT,vS]
  subst hX
  refine G.ok ⟨rfl,by simp (maxSteps := 2000000) (implicitDefEqProofs := false) (disch := first | omega | (simp only [SD.down,uA,uL] <;> omega) | fail) only [TQ.down,resE,oneV, ↓reduceIte,reduceCtorEq,uB,uE,uL,uA,uM,uS,uN,uX,uO,vR,vD,vL,vK,vE,vA,vM,vT,vS],by simp (maxSteps := 2000000) (implicitDefEqProofs := false) (disch := first | omega | (simp only [SD.down,uA,uL] <;> omega) | fail) only [TQ.down,resE,oneV, ↓reduceIte,reduceCtorEq,uB,uE,uL,uA,uM,uS,uN,uX,uO,vR,vD,vL,vK,vE,vA,vM,vT,vS]; omega,fun j hj jr => ?_⟩
  simp (maxSteps := 2000000) (implicitDefEqProofs := false) (disch := first | omega | (simp only [SD.down,uA,uL] <;> omega) | fail) only [TQ.down,resE,oneV, ↓reduceIte,reduceCtorEq,uB,uE,uL,uA,uM,uS,uN,uX,uO,vR,vD,vL,vK,vE,vA,vM,vT,vS]
 ·rw [if_neg hsz] at hX
  have hd : decide (M s = M zz) = false := decide_eq_false hsz
  rw [callD_run (E := env) [] (by kernel_rfl) Try.func35 rfl (by rw [Try.ntmps35]; simp) (by kernel_rfl)]; simp (maxSteps := 2000000) (implicitDefEqProofs := false) (disch := first | omega | (simp only [SD.down,uA,uL] <;> omega) | fail) only [Try.ntmps35,Try.results35,env_P,env_L,hz,hs,zz_fold,cutB_all,over_B,bz25,bin_eql_agg,eq25 s zz hs hz,hd,mapUpd Try.underlying96 Try.underlying3,updB_mapC,hg,TQ.down,resE,oneV, ↓reduceIte,reduceCtorEq,uB,uE,uL,uA,uM,uS,uN,uX,uO,vR,vD,vL,vK,vE,vA,vM,vT,vS]
  subst hX
  refine G.ok ⟨rfl,by simp (maxSteps := 2000000) (implicitDefEqProofs := false) (disch := first | omega | (simp only [SD.down,uA,uL] <;> omega) | fail) only [TQ.down,resE,oneV, ↓reduceIte,reduceCtorEq,uB,uE,uL,uA,uM,uS,uN,uX,uO,vR,vD,vL,vK,vE,vA,vM,vT,vS],by simp (maxSteps := 2000000) (implicitDefEqProofs := false) (disch := first | omega | (simp only [SD.down,uA,uL] <;> omega) | fail) only [TQ.down,resE,oneV, ↓reduceIte,reduceCtorEq,uB,uE,uL,uA,uM,uS,uN,uX,uO,vR,vD,vL,vK,vE,vA,vM,vT,vS]; omega,fun j hj jr => ?_⟩
  simp (maxSteps := 2000000) (implicitDefEqProofs := false) (disch := first | omega | (simp only [SD.down,uA,uL] <;> omega) | fail) only [TQ.down,resE,oneV, ↓reduceIte,reduceCtorEq,uB,uE,uL,uA,uM,uS,uN,uX,uO,vR,vD,vL,vK,vE,vA,vM,vT,vS]
def mIO (n : Nat) (fails : Bool) (i : Int) : Int := if i < 0 \/ (n : Int) <= i then 2 else cond fails 10 0
theorem io_m (d : Nat) (h : Heap) (m n a b : Nat) (lg mk : AV) (fails hurt : Bool) (i : Int) (hn : 0 < n) (hm : h.get m = some (.cells (memG n a b lg mk fails hurt) 0 false)) : callD env (d + 3) 78 [.ptr m 0, .int .i64 i] h = some (.int .i64 (mIO n fails i),h) := by
 unfold memG at hm
 unfold mIO
 have h1 : decide (0 < (n : Int)) = true := decide_eq_true (by omega)
 by_cases h2 : i < 0
 ·have h2' := decide_eq_true h2
  rw [if_pos (.inl h2)]
  rw [callD_run (E := env) [] (by kernel_rfl) Try.func78 rfl (by rw [Try.ntmps78]; simp) (by kernel_rfl)]; simp (maxSteps := 2000000) (implicitDefEqProofs := false) (disch := first | omega | (simp only [SD.down,uA,uL] <;> omega) | fail) only [Try.ntmps78,Try.results78,env_P,env_L,in32,Try.f32,in31,Try.f31,hm,h1,h2',TQ.down,resE,oneV, ↓reduceIte,reduceCtorEq,uB,uE,uL,uA,uM,uS,uN,uX,uO,vR,vD,vL,vK,vE,vA,vM,vT,vS]
 ·have h2' := decide_eq_false h2
  by_cases h3 : (n : Int) <= i
  ·have h3' := decide_eq_true h3
   rw [if_pos (.inr h3)]
   rw [callD_run (E := env) [] (by kernel_rfl) Try.func78 rfl (by rw [Try.ntmps78]; simp) (by kernel_rfl)]; simp (maxSteps := 2000000) (implicitDefEqProofs := false) (disch := first | omega | (simp only [SD.down,uA,uL] <;> omega) | fail) only [Try.ntmps78,Try.results78,env_P,env_L,in32,Try.f32,in31,Try.f31,hm,h1,h2',h3',TQ.down,resE,oneV, ↓reduceIte,reduceCtorEq,uB,uE,uL,uA,uM,uS,uN,uX,uO,vR,vD,vL,vK,vE,vA,vM,vT,vS]
  ·have h3' := decide_eq_false h3
   rw [if_neg (by omega)]
   cases fails with
   | true => rw [callD_run (E := env) [] (by kernel_rfl) Try.func78 rfl (by rw [Try.ntmps78]; simp) (by kernel_rfl)]; simp (maxSteps := 2000000) (implicitDefEqProofs := false) (disch := first | omega | (simp only [SD.down,uA,uL] <;> omega) | fail) only [Try.ntmps78,Try.results78,env_P,env_L,in32,Try.f32,in31,Try.f31,hm,h1,h2',h3',cond_true,TQ.down,resE,oneV, ↓reduceIte,reduceCtorEq,uB,uE,uL,uA,uM,uS,uN,uX,uO,vR,vD,vL,vK,vE,vA,vM,vT,vS]
   | false => rw [callD_run (E := env) [] (by kernel_rfl) Try.func78 rfl (by rw [Try.ntmps78]; simp) (by kernel_rfl)]; simp (maxSteps := 2000000) (implicitDefEqProofs := false) (disch := first | omega | (simp only [SD.down,uA,uL] <;> omega) | fail) only [Try.ntmps78,Try.results78,env_P,env_L,in32,Try.f32,in31,Try.f31,hm,h1,h2',h3',cond_false,TQ.down,resE,oneV, ↓reduceIte,reduceCtorEq,uB,uE,uL,uA,uM,uS,uN,uX,uO,vR,vD,vL,vK,vE,vA,vM,vT,vS]
def wrC (i : Int) (s : List Nat) : List AV := .int .i64 i :: B s
theorem wrC_len (i : Int) (s : List Nat) (hs : s.length = 64) : (wrC i s).length = 65 := by simp [wrC,B_len,hs]
theorem wrC_sc (i : Int) (s : List Nat) : allSc (wrC i s) = true := by
 have := allSc_B s
 simp only [allSc] at this
 simp only [wrC,allSc,List.all_cons,this]
 rfl
theorem wrC_cut (i : Int) (s : List Nat) (hs : s.length = 64) : cutE 0 65 (wrC i s) = some (wrC i s) := cut_all (by simp [wrC_len i s hs])
def logC (l : List (Int × List Nat)) : List AV := l.flatMap fun x => wrC x.1 x.2
theorem logC_len {l : List (Int × List Nat)} (hl : ∀ x ∈ l,x.2.length = 64) : (logC l).length = l.length * 65 := by
 induction l with
 | nil => rfl
 | cons x l ih =>
  have h1 := wrC_len x.1 x.2 (hl x (by simp))
  have h2 := ih fun y hy => hl y (by simp [hy])
  simp only [logC,List.flatMap_cons,List.length_append,List.length_cons] at h2 ⊢
  omega
def LogIs (h : Heap) (lgv : AV) (L : Nat) (l : List (Int × List Nat)) : Prop := (l = [] /\ lgv = .nilslice) \/ (lgv = .eslice L 0 0 l.length /\ h.get L = some (.cells (logC l) 65 false) /\ L < h.next)
theorem bs97 (i : Int) (s : List Nat) (hs : s.length = 64) (h : Heap) : bsE Try.prog 97 1 [(0, .agg (wrC i s))] h = some (.slice h.next 0 1 1,h.new (.cells (wrC i s) 0 false)) := bs_one Try.underlying97 (s := 64) (by kernel_rfl) (z := ((zeroE Try.prog 103).getD .nilptr)) (by kernel_rfl) (by kernel_rfl) (by kernel_rfl) (wrC_len i s hs) (wrC_sc i s) h
theorem wr_over (i : Int) (x y : List Nat) (hx : x.length = 64) (hy : y.length = 64) : overE 1 (B y) (AV.int IntKind.i64 i :: B x) = some (wrC i y) := by
 unfold overE
 rw [if_pos ⟨by simp [B_len,hx,hy] <;> omega,allSc_B _⟩]
 simp only [List.take_succ_cons,List.take_zero,B_len,hy]
 rw [show 1 + 64 = 64 + 1 from rfl,List.drop_succ_cons,List.drop_of_length_le (by rw [B_len,hx]; omega)]
 simp [wrC]
theorem LogIs.keep {h h' : Heap} {lgv : AV} {L : Nat} {l : List (Int × List Nat)} (x : LogIs h lgv L l) (hn : h.next <= h'.next) (k : lgv ≠ .nilslice -> L < h.next -> h'.get L = h.get L) : LogIs h' lgv L l := by
 rcases x with x | ⟨rfl,hg,hL⟩
 ·exact .inl x
 ·exact .inr ⟨rfl,(k (by simp) hL).trans hg,Nat.lt_of_lt_of_le hL hn⟩
theorem LogIs.ok {h : Heap} {lgv : AV} {L : Nat} {l : List (Int × List Nat)} (x : LogIs h lgv L l) : okv lgv = some lgv := by
 rcases x with ⟨_,rfl⟩ | ⟨rfl,_⟩ <;> rfl
theorem LogIs.same {h : Heap} {lgv : AV} {L : Nat} {l : List (Int × List Nat)} (x : LogIs h lgv L l) : AV.same lgv lgv = true := by
 rcases x with ⟨_,rfl⟩ | ⟨rfl,_⟩
 ·rfl
 ·exact same_eslice ..
end Go.Proofs.Ytlnepbkeiianmaa
namespace Go.Aw
open Go Go.Ai
set_option linter.unusedSimpArgs false
set_option linter.unusedVariables false
variable {P : Program} {call : CallK} {ρ : Operand -> AV} {dd : Option Tmp} {t : TypeId} {p : String} {a : Array Edge} {g : Option (Nat × Bool)} {h : Heap}
theorem cls_mi (T : TypeId) (x : Operand) : cls P ⟨dd, .makeInterface T x,t,p,a,g⟩ = .p := rfl
theorem opE_mi {T kt et : TypeId} (hT : P.underlying T = some (.map kt et)) (x : Operand) : opE P call ρ ⟨dd, .makeInterface T x,t,p,a,g⟩ h = th (okv (ρ x)) fun v => some (.iface T v,h) := by
 unfold opE opK
 rw [cls_mi]
 simp only [pureK,unK_E,hT,th_some,fK_E]
 rfl
def asE (T : TypeId) (v : AV) : Option AV := match v with | .iface u w => (if u = T then some w else none) | _ => none
theorem asE_hit (T : TypeId) (v : AV) : asE T (.iface T v) = some v := by simp only [asE,if_true]
theorem opE_ta {T kt et : TypeId} (hT : P.underlying T = some (.map kt et)) (x : Operand) (u : TypeId) : opE P call ρ ⟨dd, .typeAssert x u T false,t,p,a,g⟩ h = th (asE T (ρ x)) fun v => some (v,h) := by
 unfold opE opK
 rw [cls_typeAssert]
 simp only [pureK,unK_E,hT,th_some]
 cases ρ x <;> try rfl
 simp only [asE]
 split <;> rfl
end Go.Aw
namespace Go.Proofs.Ytlnepbkeiianmaa
open Go Go.Ai Go.Aw Go.Proofs
open Nat renaming reduceBEq -> uB,reduceEqDiff -> uE,reduceLT -> uL,reduceAdd -> uA,reduceMul -> uM,reduceSub -> uS,reduceAnd -> uN,reduceXor -> uX,reduceOr -> uO
open Int renaming reduceMod -> vR,reduceDiv -> vD,reduceLT -> vL,reduceLE -> vK,reduceEq -> vE,reduceAdd -> vA,reduceMul -> vM,reduceToNat -> vT,reduceSub -> vS
set_option linter.unusedSimpArgs false
set_option linter.unusedVariables false
set_option maxRecDepth 10000
theorem nm96 (r : Nat) : binE Try.prog .eql 96 (.map r) .nilmap = some (.bool false) := by kernel_rfl
theorem ofV_nilmap : ofV (.map none) = .nilmap := rfl
theorem clone98 (d : Nat) (h : Heap) (r : Nat) (es : List (AV × AV)) (ro : Bool) (hg : h.get r = some (.map es ro)) : callD env (d + 1) 72 [.iface 96 (.map r)] h = some (.iface 96 (.map h.next),h.new (.map es false)) := by
 have e : callD env (d + 1) 72 [.iface 96 (.map r)] h = externD "maps.clone" [.iface 96 (.map r)] h := by kernel_rfl
 rw [e]
 simp only [externD,beq_self_eq_true,hgetK_eq,hg,newK_E]
 done
theorem clone_ok (d : Nat) (h : Heap) (r : Nat) (l : List (Int × List Nat)) (hr : r < h.next) (hg : h.get r = some (.map (mapC l) false)) : G (callD env (d + 3) 58 [.map r] h) fun v h' => v = .map h.next /\ h' = h.new (.map (mapC l) false) := by
 rw [callD_run (E := env) [] (by kernel_rfl) Try.func58 rfl (by rw [Try.ntmps58]; simp) (by kernel_rfl)]; simp (maxSteps := 2000000) (implicitDefEqProofs := false) (disch := first | omega | (simp only [SD.down,uA,uL] <;> omega) | fail) only [Try.ntmps58,Try.results58,env_P,env_L,nm96,ofV_nilmap,opE_mi Try.underlying96,cls_mi,clone98 (d + 1) h r _ _ hg,opE_ta Try.underlying96,asE_hit,hg,TQ.down,resE,oneV, ↓reduceIte,reduceCtorEq,uB,uE,uL,uA,uM,uS,uN,uX,uO,vR,vD,vL,vK,vE,vA,vM,vT,vS]
 exact G.ok ⟨rfl,rfl⟩
theorem LogIs.len {h : Heap} {lgv : AV} {L : Nat} {l : List (Int × List Nat)} (x : LogIs h lgv L l) : lenE Try.prog 97 lgv = some (.int .i64 (l.length : Int)) := by
 rcases x with ⟨rfl,rfl⟩ | ⟨rfl,_⟩
 ·exact lnn97
 ·exact lne97 ..
def mFold (dur : List (Int × List Nat)) : List (Int × List Nat) -> List (Int × List Nat)
 | [] => dur
 | x :: r => mFold (mPut dur x.1 x.2) r
theorem logC_cut {l : List (Int × List Nat)} (hl : ∀ x ∈ l,x.2.length = 64) {k : Nat} {x : Int × List Nat} (hk : l[k]? = some x) : cutE (k * 65) 65 (logC l) = some (wrC x.1 x.2) := by
 induction l generalizing k with
 | nil => simp at hk
 | cons y l ih =>
  have hy := wrC_len y.1 y.2 (hl y (by simp))
  have hll : (logC l).length = l.length * 65 := logC_len fun z hz => hl z (List.mem_cons_of_mem _ hz)
  have e : logC (y :: l) = wrC y.1 y.2 ++ logC l := by simp [logC]
  rw [e]
  cases k with
  | zero =>
   simp at hk
   subst hk
   rw [Nat.zero_mul,cutE_of (by rw [List.length_append,hy]; omega),List.drop_zero,List.take_append_of_le_length (by omega),List.take_of_length_le (by omega)]
  | succ k =>
   have hk' : l[k]? = some x := by simpa using hk
   have h2 := ih (fun z hz => hl z (List.mem_cons_of_mem _ hz)) hk'
   have hkl : k < l.length := (List.getElem?_eq_some_iff.1 hk').1
   rw [cutE_of (by rw [hll]; omega)] at h2
   rw [cutE_of (by rw [List.length_append,hy,hll]; omega),show (k + 1) * 65 = 65 + k * 65 by omega,List.drop_append,hy,List.drop_of_length_le (by omega),List.nil_append,show 65 + k * 65 - 65 = k * 65 by omega]
   exact h2
theorem wrZ_fold : (AV.int IntKind.i64 0 :: List.replicate 64 (b8 0)) = wrC 0 zz := rfl
theorem wr_over0 (i j : Int) (x y : List Nat) (hx : x.length = 64) (hy : y.length = 64) : overE 0 (wrC i x) (wrC j y) = some (wrC i x) := by rw [overE_n,wrC_len i x hx,ovN_full (by simp [wrC_len j y hy]),wrC_sc,scE_true]
theorem wrC_0 (i : Int) (x : List Nat) : (wrC i x)[0]? = some (.int .i64 i) := rfl
theorem wrC_d (i : Int) (x : List Nat) (hx : x.length = 64) : cutE 1 64 (wrC i x) = some (B x) := by
 rw [cutE_of (by rw [wrC_len i x hx]; omega)]
 show some ((B x).take 64) = _
 rw [List.take_of_length_le (by simp [B_len,hx])]
theorem io_G (d : Nat) (h : Heap) (m n a b : Nat) (lg mk : AV) (fails hurt : Bool) (i : Int) (hn : 0 < n) (hm : h.get m = some (.cells (memG n a b lg mk fails hurt) 0 false)) : G (callD env (d + 3) 78 [.ptr m 0, .int .i64 i] h) fun v h' => v = .int .i64 (mIO n fails i) /\ h' = h := by
 rw [io_m d h m n a b lg mk fails hurt i hn hm]
 exact G.ok ⟨rfl,rfl⟩
theorem mIO_cases (n : Nat) (fails : Bool) (i : Int) : mIO n fails i = 0 \/ mIO n fails i = 2 \/ mIO n fails i = 10 := by
 unfold mIO
 split
 ·exact .inr (.inl rfl)
 ·cases fails
  ·exact .inl rfl
  ·exact .inr (.inr rfl)
theorem flush_no (d : Nat) (h : Heap) (m n a b : Nat) (lgv mk : AV) (fails hurt : Bool) (hn : 0 < n) (hm : h.get m = some (.cells (memG n a b lgv mk fails hurt) 0 false)) (h0 : mIO n fails 0 ≠ 0) :
  G (callD env (d + 6) 68 [.ptr m 0] h) fun v h' => v = .int .i64 (mIO n fails 0) /\ h' = h := by
 generalize hX : (fun (v : AV) (h' : Heap) => v = .int .i64 (mIO n fails 0) /\ h' = h) = Q
 rw [callD_run (E := env) [] (by kernel_rfl) Try.func68 rfl (by rw [Try.ntmps68]; simp) (by kernel_rfl)]; simp (maxSteps := 2000000) (implicitDefEqProofs := false) (disch := first | omega | (simp only [SD.down,uA,uL] <;> omega) | fail) only [Try.ntmps68,Try.results68,env_P,env_L,TQ.down,resE,oneV, ↓reduceIte,reduceCtorEq,uB,uE,uL,uA,uM,uS,uN,uX,uO,vR,vD,vL,vK,vE,vA,vM,vT,vS]
 first | refine G.call (io_G (d + 2) h m n a b lgv mk fails hurt 0 hn hm) ?_ | refine G.callC (io_G (d + 2) h m n a b lgv mk fails hurt 0 hn hm) ?_ | refine G.callL (io_G (d + 2) h m n a b lgv mk fails hurt 0 hn hm) ?_
 rintro v h1 ⟨rfl,rfl⟩
 rcases mIO_cases n fails 0 with e | e | e
 ·exact absurd e h0
 ·rw [e] at hX ⊢
  simp (maxSteps := 2000000) (implicitDefEqProofs := false) (disch := first | omega | (simp only [SD.down,uA,uL] <;> omega) | fail) only [TQ.down,resE,oneV, ↓reduceIte,reduceCtorEq,uB,uE,uL,uA,uM,uS,uN,uX,uO,vR,vD,vL,vK,vE,vA,vM,vT,vS]
  subst hX
  exact G.ok ⟨rfl,rfl⟩
 ·rw [e] at hX ⊢
  simp (maxSteps := 2000000) (implicitDefEqProofs := false) (disch := first | omega | (simp only [SD.down,uA,uL] <;> omega) | fail) only [TQ.down,resE,oneV, ↓reduceIte,reduceCtorEq,uB,uE,uL,uA,uM,uS,uN,uX,uO,vR,vD,vL,vK,vE,vA,vM,vT,vS]
  subst hX
  exact G.ok ⟨rfl,rfl⟩
theorem mGet_len {l : List (Int × List Nat)} (hl : ∀ x ∈ l,x.2.length = 64) (i : Int) : (mGet l i zz).length = 64 := by
 induction l with
 | nil => rfl
 | cons x r ih =>
  rw [mGet]
  split
  ·exact hl x (by simp)
  ·exact ih fun y hy => hl y (List.mem_cons_of_mem _ hy)
theorem readm_ok (d : Nat) (h : Heap) (m n a b : Nat) (lgv mk : AV) (seen : List (Int × List Nat)) (fails hurt : Bool) (i : Int) (hn : 0 < n) (hm : h.get m = some (.cells (memG n a b lgv mk fails hurt) 0 false)) (ha : h.get a = some (.map (mapC seen) false)) (hsl : ∀ x ∈ seen,x.2.length = 64) (lm : m < h.next) (la : a < h.next) (h0 : mIO n fails i = 0) :
  G (callD env (d + 5) 70 [.ptr m 0, .int .i64 i] h) fun v h' => v = .tup [.agg (B (mGet seen i zz)), .int .i64 0] /\ Keeps h h' := by
 generalize hX : (fun (v : AV) (h' : Heap) => v = .tup [.agg (B (mGet seen i zz)), .int .i64 0] /\ Keeps h h') = Q
 have hz := zz_len
 have hgl := mGet_len hsl i
 have hm' := hm
 unfold memG at hm'
 rw [callD_run (E := env) [] (by kernel_rfl) Try.func70 rfl (by rw [Try.ntmps70]; simp) (by kernel_rfl)]; simp (maxSteps := 2000000) (implicitDefEqProofs := false) (disch := first | omega | (simp only [SD.down,uA,uL] <;> omega) | fail) only [Try.ntmps70,Try.results70,env_P,env_L,hz,zz_fold,TQ.down,resE,oneV, ↓reduceIte,reduceCtorEq,uB,uE,uL,uA,uM,uS,uN,uX,uO,vR,vD,vL,vK,vE,vA,vM,vT,vS]
 first | refine G.call (io_G (d + 1) _ m n a b lgv mk fails hurt i hn (by simp (maxSteps := 2000000) (implicitDefEqProofs := false) (disch := first | omega | (simp only [SD.down,uA,uL] <;> omega) | fail) only [hm,TQ.down,resE,oneV, ↓reduceIte,reduceCtorEq,uB,uE,uL,uA,uM,uS,uN,uX,uO,vR,vD,vL,vK,vE,vA,vM,vT,vS])) ?_ | refine G.callC (io_G (d + 1) _ m n a b lgv mk fails hurt i hn (by simp (maxSteps := 2000000) (implicitDefEqProofs := false) (disch := first | omega | (simp only [SD.down,uA,uL] <;> omega) | fail) only [hm,TQ.down,resE,oneV, ↓reduceIte,reduceCtorEq,uB,uE,uL,uA,uM,uS,uN,uX,uO,vR,vD,vL,vK,vE,vA,vM,vT,vS])) ?_ | refine G.callL (io_G (d + 1) _ m n a b lgv mk fails hurt i hn (by simp (maxSteps := 2000000) (implicitDefEqProofs := false) (disch := first | omega | (simp only [SD.down,uA,uL] <;> omega) | fail) only [hm,TQ.down,resE,oneV, ↓reduceIte,reduceCtorEq,uB,uE,uL,uA,uM,uS,uN,uX,uO,vR,vD,vL,vK,vE,vA,vM,vT,vS])) ?_
 rintro v h1 ⟨rfl,rfl⟩
 rw [h0]
 simp (maxSteps := 2000000) (implicitDefEqProofs := false) (disch := first | omega | (simp only [SD.down,uA,uL] <;> omega) | fail) only [hm',hz,zz_fold,lookup_mapC Try.underlying96 Try.underlying3 (z := zz) (by kernel_rfl) (show (h.new (.cells (B zz) 0 false)).get a = _ by rw [get_new_ne (by simp; omega)]; exact ha),over_B,cutB_all,hgl,TQ.down,resE,oneV, ↓reduceIte,reduceCtorEq,uB,uE,uL,uA,uM,uS,uN,uX,uO,vR,vD,vL,vK,vE,vA,vM,vT,vS]
 subst hX
 refine G.ok ⟨rfl, ?_,fun j hj => ?_⟩
 ·simp (maxSteps := 2000000) (implicitDefEqProofs := false) (disch := first | omega | (simp only [SD.down,uA,uL] <;> omega) | fail) only [TQ.down,resE,oneV, ↓reduceIte,reduceCtorEq,uB,uE,uL,uA,uM,uS,uN,uX,uO,vR,vD,vL,vK,vE,vA,vM,vT,vS]
  omega
 ·simp (maxSteps := 2000000) (implicitDefEqProofs := false) (disch := first | omega | (simp only [SD.down,uA,uL] <;> omega) | fail) only [TQ.down,resE,oneV, ↓reduceIte,reduceCtorEq,uB,uE,uL,uA,uM,uS,uN,uX,uO,vR,vD,vL,vK,vE,vA,vM,vT,vS]
theorem readm_no (d : Nat) (h : Heap) (m n a b : Nat) (lgv mk : AV) (fails hurt : Bool) (i : Int) (hn : 0 < n) (hm : h.get m = some (.cells (memG n a b lgv mk fails hurt) 0 false)) (lm : m < h.next) (h0 : mIO n fails i ≠ 0) :
  G (callD env (d + 5) 70 [.ptr m 0, .int .i64 i] h) fun v h' => v = .tup [.agg (B zz), .int .i64 (mIO n fails i)] /\ Keeps h h' := by
 generalize hX : (fun (v : AV) (h' : Heap) => v = .tup [.agg (B zz), .int .i64 (mIO n fails i)] /\ Keeps h h') = Q
 have hz := zz_len
 rw [callD_run (E := env) [] (by kernel_rfl) Try.func70 rfl (by rw [Try.ntmps70]; simp) (by kernel_rfl)]; simp (maxSteps := 2000000) (implicitDefEqProofs := false) (disch := first | omega | (simp only [SD.down,uA,uL] <;> omega) | fail) only [Try.ntmps70,Try.results70,env_P,env_L,hz,zz_fold,TQ.down,resE,oneV, ↓reduceIte,reduceCtorEq,uB,uE,uL,uA,uM,uS,uN,uX,uO,vR,vD,vL,vK,vE,vA,vM,vT,vS]
 first | refine G.call (io_G (d + 1) _ m n a b lgv mk fails hurt i hn (by simp (maxSteps := 2000000) (implicitDefEqProofs := false) (disch := first | omega | (simp only [SD.down,uA,uL] <;> omega) | fail) only [hm,TQ.down,resE,oneV, ↓reduceIte,reduceCtorEq,uB,uE,uL,uA,uM,uS,uN,uX,uO,vR,vD,vL,vK,vE,vA,vM,vT,vS])) ?_ | refine G.callC (io_G (d + 1) _ m n a b lgv mk fails hurt i hn (by simp (maxSteps := 2000000) (implicitDefEqProofs := false) (disch := first | omega | (simp only [SD.down,uA,uL] <;> omega) | fail) only [hm,TQ.down,resE,oneV, ↓reduceIte,reduceCtorEq,uB,uE,uL,uA,uM,uS,uN,uX,uO,vR,vD,vL,vK,vE,vA,vM,vT,vS])) ?_ | refine G.callL (io_G (d + 1) _ m n a b lgv mk fails hurt i hn (by simp (maxSteps := 2000000) (implicitDefEqProofs := false) (disch := first | omega | (simp only [SD.down,uA,uL] <;> omega) | fail) only [hm,TQ.down,resE,oneV, ↓reduceIte,reduceCtorEq,uB,uE,uL,uA,uM,uS,uN,uX,uO,vR,vD,vL,vK,vE,vA,vM,vT,vS])) ?_
 rintro v h1 ⟨rfl,rfl⟩
 rcases mIO_cases n fails i with e | e | e
 ·exact absurd e h0
 all_goals
  rw [e] at hX ⊢
  simp (maxSteps := 2000000) (implicitDefEqProofs := false) (disch := first | omega | (simp only [SD.down,uA,uL] <;> omega) | fail) only [hz,zz_fold,bz25,over_B,cutB_all,TQ.down,resE,oneV, ↓reduceIte,reduceCtorEq,uB,uE,uL,uA,uM,uS,uN,uX,uO,vR,vD,vL,vK,vE,vA,vM,vT,vS]
  subst hX
  refine G.ok ⟨rfl, ?_,fun j hj => ?_⟩
  ·simp (maxSteps := 2000000) (implicitDefEqProofs := false) (disch := first | omega | (simp only [SD.down,uA,uL] <;> omega) | fail) only [TQ.down,resE,oneV, ↓reduceIte,reduceCtorEq,uB,uE,uL,uA,uM,uS,uN,uX,uO,vR,vD,vL,vK,vE,vA,vM,vT,vS]
   try omega
  ·simp (maxSteps := 2000000) (implicitDefEqProofs := false) (disch := first | omega | (simp only [SD.down,uA,uL] <;> omega) | fail) only [TQ.down,resE,oneV, ↓reduceIte,reduceCtorEq,uB,uE,uL,uA,uM,uS,uN,uX,uO,vR,vD,vL,vK,vE,vA,vM,vT,vS]
theorem write_no (d : Nat) (h : Heap) (m n a b : Nat) (lgv mk : AV) (fails hurt : Bool) (i : Int) (s : List Nat) (hs : s.length = 64) (hn : 0 < n) (hm : h.get m = some (.cells (memG n a b lgv mk fails hurt) 0 false)) (lm : m < h.next) (h0 : mIO n fails i ≠ 0) :
  G (callD env (d + 5) 65 [.ptr m 0, .int .i64 i, .agg (B s)] h) fun v h' => v = .int .i64 (mIO n fails i) /\ Keeps h h' := by
 generalize hX : (fun (v : AV) (h' : Heap) => v = .int .i64 (mIO n fails i) /\ Keeps h h') = Q
 have hz := zz_len
 rw [callD_run (E := env) [(5, .fl [(4,0,1)])] (by kernel_rfl) Try.func65 rfl (by rw [Try.ntmps65]; simp) (by kernel_rfl)]; simp (maxSteps := 2000000) (implicitDefEqProofs := false) (disch := first | omega | (simp only [SD.down,uA,uL] <;> omega) | fail) only [Try.ntmps65,Try.results65,env_P,env_L,hz,hs,zz_fold,cutB_all,over_B,TQ.down,resE,oneV, ↓reduceIte,reduceCtorEq,uB,uE,uL,uA,uM,uS,uN,uX,uO,vR,vD,vL,vK,vE,vA,vM,vT,vS]
 first | refine G.call (io_G (d + 1) _ m n a b lgv mk fails hurt i hn (by simp (maxSteps := 2000000) (implicitDefEqProofs := false) (disch := first | omega | (simp only [SD.down,uA,uL] <;> omega) | fail) only [hm,TQ.down,resE,oneV, ↓reduceIte,reduceCtorEq,uB,uE,uL,uA,uM,uS,uN,uX,uO,vR,vD,vL,vK,vE,vA,vM,vT,vS])) ?_ | refine G.callC (io_G (d + 1) _ m n a b lgv mk fails hurt i hn (by simp (maxSteps := 2000000) (implicitDefEqProofs := false) (disch := first | omega | (simp only [SD.down,uA,uL] <;> omega) | fail) only [hm,TQ.down,resE,oneV, ↓reduceIte,reduceCtorEq,uB,uE,uL,uA,uM,uS,uN,uX,uO,vR,vD,vL,vK,vE,vA,vM,vT,vS])) ?_ | refine G.callL (io_G (d + 1) _ m n a b lgv mk fails hurt i hn (by simp (maxSteps := 2000000) (implicitDefEqProofs := false) (disch := first | omega | (simp only [SD.down,uA,uL] <;> omega) | fail) only [hm,TQ.down,resE,oneV, ↓reduceIte,reduceCtorEq,uB,uE,uL,uA,uM,uS,uN,uX,uO,vR,vD,vL,vK,vE,vA,vM,vT,vS])) ?_
 rintro v h1 ⟨rfl,rfl⟩
 rcases mIO_cases n fails i with e | e | e
 ·exact absurd e h0
 all_goals
  rw [e] at hX ⊢
  simp (maxSteps := 2000000) (implicitDefEqProofs := false) (disch := first | omega | (simp only [SD.down,uA,uL] <;> omega) | fail) only [hz,hs,zz_fold,bz25,over_B,cutB_all,TQ.down,resE,oneV, ↓reduceIte,reduceCtorEq,uB,uE,uL,uA,uM,uS,uN,uX,uO,vR,vD,vL,vK,vE,vA,vM,vT,vS]
  subst hX
  refine G.ok ⟨rfl, ?_,fun j hj => ?_⟩
  ·simp (maxSteps := 2000000) (implicitDefEqProofs := false) (disch := first | omega | (simp only [SD.down,uA,uL] <;> omega) | fail) only [TQ.down,resE,oneV, ↓reduceIte,reduceCtorEq,uB,uE,uL,uA,uM,uS,uN,uX,uO,vR,vD,vL,vK,vE,vA,vM,vT,vS]
   try omega
  ·simp (maxSteps := 2000000) (implicitDefEqProofs := false) (disch := first | omega | (simp only [SD.down,uA,uL] <;> omega) | fail) only [TQ.down,resE,oneV, ↓reduceIte,reduceCtorEq,uB,uE,uL,uA,uM,uS,uN,uX,uO,vR,vD,vL,vK,vE,vA,vM,vT,vS]
end Go.Proofs.Ytlnepbkeiianmaa
