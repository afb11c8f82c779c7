/- Of this program, for all inputs: contracts. No condition but those in the theorems. -/
import Derived.Test.YtfjcfjfgamajkaaPB
namespace Go.Proofs.Ytfjcfjfgamajkaa
open Go Go.Ai Go.Aw Go.Proofs
open Nat renaming reduceBEq -> uB,reduceEqDiff -> uE,reduceLT -> uL,reduceAdd -> uA,reduceMul -> uM,reduceSub -> uS,reduceAnd -> uN,reduceXor -> uX,reduceOr -> uO
open Int renaming reduceMod -> vR,reduceDiv -> vD,reduceLT -> vL,reduceLE -> vK,reduceEq -> vE,reduceAdd -> vA,reduceMul -> vM,reduceToNat -> vT,reduceSub -> vS
set_option linter.unusedSimpArgs false
set_option linter.unusedVariables false
set_option maxRecDepth 10000
def MS.new (n : Nat) : MS := ⟨n,[],[],[],[],false,false⟩
theorem MS.new_wf {n : Nat} (h : 0 < n) : (MS.new n).wf := ⟨h,by show 0 < 4000; omega,(fun _ hx => by cases hx),(fun _ hx => by cases hx),(fun _ hx => by cases hx),Nat.zero_le _,(fun _ hx => by cases hx)⟩
def BS.two (st : List Stp) : BS := ⟨[MS.new 4,MS.new 4],[(0,czz)],st,false,[]⟩
def colT (c : Col) (n kb : Nat) : Col := fun j => if j < n then c j else if j < n + 3 then kb + 2 else if j < n + 6 then kb + 3 else if j < n + 7 then kb else if j < n + 9 then kb + 1 else kb
end Go.Proofs.Ytfjcfjfgamajkaa
namespace Go.Aw
open Go Go.Ai
theorem bin_and7 {P : Program} {u : TypeId} (x : Int) : binE P .and u (.int .i64 x) (.int .i64 7) = some (.int .i64 (((x % 8).toNat : Nat) : Int)) := by
 have key : bitsA .and .i64 x 7 = some (((x % 8).toNat : Nat) : Int) := by
  have slow : IntKind.wrap .i64 ((BitVec.ofInt (IntKind.i64).bits x &&& BitVec.ofInt (IntKind.i64).bits 7).toNat : Int) = (((x % 8).toNat : Nat) : Int) := by
   have e1 : (BitVec.ofInt (IntKind.i64).bits x &&& BitVec.ofInt (IntKind.i64).bits 7).toNat = (x % 8).toNat := by
    show (BitVec.ofInt 64 x &&& BitVec.ofInt 64 7).toNat = _
    rw [BitVec.toNat_and,BitVec.toNat_ofInt,BitVec.toNat_ofInt]
    have e7 : ((7 : Int) % ((2 ^ 64 : Nat) : Int)).toNat = 2 ^ 3 - 1 := by decide
    rw [e7,Nat.and_two_pow_sub_one_eq_mod]
    omega
   rw [e1]
   have hlt : (x % 8).toNat < 8 := by omega
   generalize (x % 8).toNat = r at hlt
   match r,hlt with
   | 0,_ => rfl
   | 1,_ => rfl
   | 2,_ => rfl
   | 3,_ => rfl
   | 4,_ => rfl
   | 5,_ => rfl
   | 6,_ => rfl
   | 7,_ => rfl
  cases x with
  | negSucc a => show some (IntKind.wrap .i64 _) = _; rw [slow]
  | ofNat a =>
   show (match Nat.blt a (top .i64),Nat.blt 7 (top .i64) with
    | true,true => some (Int.ofNat (Nat.land a 7))
    | _,_ => some (IntKind.wrap .i64 _)) = _
   cases h : Nat.blt a (top .i64) with
   | false => show some (IntKind.wrap .i64 _) = _; rw [slow]
   | true =>
    show some (Int.ofNat (Nat.land a 7)) = _
    have : Nat.land a 7 = a % 8 := Nat.and_two_pow_sub_one_eq_mod a 3
    rw [this]
    simp only [Int.ofNat_eq_natCast]
    congr 1
 simp only [binE,binK,intOpK,key]
 simp [fI_eq]
end Go.Aw
namespace Go.Proofs.Ytfjcfjfgamajkaa
open Go Go.Ai Go.Aw Go.Proofs
open Nat renaming reduceBEq -> uB,reduceEqDiff -> uE,reduceLT -> uL,reduceAdd -> uA,reduceMul -> uM,reduceSub -> uS,reduceAnd -> uN,reduceXor -> uX,reduceOr -> uO
open Int renaming reduceMod -> vR,reduceDiv -> vD,reduceLT -> vL,reduceLE -> vK,reduceEq -> vE,reduceAdd -> vA,reduceMul -> vM,reduceToNat -> vT,reduceSub -> vS
set_option linter.unusedSimpArgs false
set_option linter.unusedVariables false
set_option maxRecDepth 10000
structure Act where
 k : Int
 m : Int
 i : Int
 x : List Nat
 lb : List Nat
def Act.C (a : Act) : List AV := .int .i64 a.k :: .int .i64 a.m :: .int .i64 a.i :: (B a.x ++ B a.lb)
theorem Act.C_len (a : Act) (h1 : a.x.length = 64) (h2 : a.lb.length = 32) : a.C.length = 99 := by simp [Act.C,B_len,h1,h2]
theorem Act.sc (a : Act) : allSc a.C = true := by
 have h1 := allSc_app (allSc_B a.x) (allSc_B a.lb)
 simp only [allSc] at h1
 simp only [Act.C,allSc,List.all_cons,h1]; rfl
theorem Act.cut (a : Act) (h1 : a.x.length = 64) (h2 : a.lb.length = 32) : cutE 0 99 a.C = some a.C := cut_all (by simp [a.C_len h1 h2])
def actZ : List AV := List.replicate 3 (AV.int IntKind.i64 0) ++ List.replicate 96 (b8 0)
theorem actZ_fold : List.replicate 3 (AV.int IntKind.i64 0) ++ List.replicate 96 (b8 0) = actZ := rfl
theorem Act.ov (a : Act) (h1 : a.x.length = 64) (h2 : a.lb.length = 32) : overE 0 a.C actZ = some a.C := by rw [overE_n,a.C_len h1 h2,ovN_full (by simp [actZ]),a.sc,scE_true]
theorem Act.at0 (a : Act) : a.C[0]? = some (.int .i64 a.k) := rfl
theorem Act.at1 (a : Act) : a.C[1]? = some (.int .i64 a.m) := rfl
theorem Act.at2 (a : Act) : a.C[2]? = some (.int .i64 a.i) := rfl
theorem Act.dat (a : Act) (h1 : a.x.length = 64) (h2 : a.lb.length = 32) : cutE 3 64 a.C = some (B a.x) := by
 rw [cutE_of (by rw [a.C_len h1 h2]; omega)]
 show some ((B a.x ++ B a.lb).take 64) = _
 rw [List.take_append_of_le_length (by simp [B_len,h1]),List.take_of_length_le (by simp [B_len,h1])]
theorem Act.lab (a : Act) (h1 : a.x.length = 64) (h2 : a.lb.length = 32) : cutE 67 32 a.C = some (B a.lb) := by
 rw [cutE_of (by rw [a.C_len h1 h2]; omega)]
 show some (((B a.x ++ B a.lb).drop 64).take 32) = _
 rw [List.drop_append_of_le_length (by simp [B_len,h1]),List.drop_of_length_le (by simp [B_len,h1]),List.nil_append,List.take_of_length_le (by simp [B_len,h2])]
def Act.r (a : Act) : Nat := (a.k % 8).toNat
def overR (b : BS) (a : Act) : Int × BS :=
 if a.r = 1 \/ a.r = 2 then ((b.write a.m a.i a.x).1.e,(b.write a.m a.i a.x).2)
 else if a.r = 3 then ((b.flush a.m).1.e,(b.flush a.m).2)
 else if a.r = 4 then (b.cellR.1.e,b.cellR.2)
 else if a.r = 5 then ((b.advR a.lb).1.e,(b.advR a.lb).2)
 else if a.r = 6 then (0,b)
 else ((b.read a.m a.i).1.e,(b.read a.m a.i).2)
end Go.Proofs.Ytfjcfjfgamajkaa
namespace Go.Aw
open Go Go.Ai
set_option linter.unusedSimpArgs false
set_option linter.unusedVariables false
variable {P : Program} {h : Heap}
theorem app_capE {T e s k o kx ox n i ex : Nat} {ie : TypeInfo} {zv : Value} (E : Elem P T e s ie zv) (hn : n + 1 < 4096) {cs nw : List AV} {ro : Bool} (hg : h.get kx = some (.cells cs ex ro)) (hc : cutE ox ((n + 1) * (s + 1)) cs = some nw) (hl : nw.length = (n + 1) * (s + 1)) (hs : allSc nw = true) :
  appE P T (.slice k o 0 0) (.eslice kx ox i (n + 1)) h = some (.eslice h.next 0 0 (n + 1),h.new (.cells nw (s + 1) false)) := by
 have hsm := small_ok E.small hn
 have e0 : (n + 1) * (s + 1) = ((n + 1) * s + n) + 1 := by rw [Nat.mul_add]; omega
 have eb : Nat.ble (n + 1) 0 = false := rfl
 simp only [appE,appendK,unK_E,E.sl,th_some,E.info,E.zero,E.zsz,E.size,lenA,fN_eq,Nat.zero_add,hsm,firstK,eb,Nat.zero_mul,growK,p2]
 rw [e0] at hc hl ⊢
 simp only [hgetK_eq,hg,lcut_th,hc,llen_eq,Nat.zero_add,hl,Nat.beq_refl,lsc_eq,hs,lapp_eq,List.nil_append,newK_E,th_some]
end Go.Aw
namespace Go.Proofs.Ytfjcfjfgamajkaa
open Go Go.Ai Go.Aw Go.Proofs
open Nat renaming reduceBEq -> uB,reduceEqDiff -> uE,reduceLT -> uL,reduceAdd -> uA,reduceMul -> uM,reduceSub -> uS,reduceAnd -> uN,reduceXor -> uX,reduceOr -> uO
open Int renaming reduceMod -> vR,reduceDiv -> vD,reduceLT -> vL,reduceLE -> vK,reduceEq -> vE,reduceAdd -> vA,reduceMul -> vM,reduceToNat -> vT,reduceSub -> vS
set_option linter.unusedSimpArgs false
set_option linter.unusedVariables false
set_option maxRecDepth 10000
theorem allSc_flat {α : Type} (f : α -> List AV) (hf : ∀ x,allSc (f x) = true) : ∀ l : List α,allSc (l.flatMap f) = true
 | [] => rfl
 | x :: l => by rw [List.flatMap_cons]; exact allSc_app (hf x) (allSc_flat f hf l)
theorem nq62 (q o l c : Nat) : binE Try.prog .eql 62 (.eslice q o l c) .nilslice = some (.bool false) := by kernel_rfl
theorem nn62 : binE Try.prog .eql 62 .nilslice .nilslice = some (.bool true) := by kernel_rfl
theorem b062 (h : Heap) : bsE Try.prog 62 0 [] h = some (.slice h.next 0 0 0,h.new (.cells [] 0 false)) := bsE_of (fun K => by kernel_rfl) h
theorem clog (d : Nat) (h : Heap) (L : Nat) (l : List Ent) (hl : ∀ t ∈ l,t.x.length = 64) (hn : l.length < 4000) (h0 : 0 < l.length) (hL : L < h.next) (hg : h.get L = some (.cells (blogC l) 68 false)) :
  G (callD env (d + 1) 70 [.eslice L 0 0 l.length] h) fun v h' => ∃ q,v = .eslice q 0 0 l.length /\ h.next <= q /\ q < h'.next /\ h'.get q = some (.cells (blogC l) 68 false) /\ Keeps h h' := by
 refine G.gen fun Q hX => ?_
 obtain ⟨n,hn1⟩ : ∃ n,l.length = n + 1 := ⟨l.length - 1,by omega⟩
 have hll := blogC_len hl
 have hq' : (h.new (.cells [] 0 false)).get L = some (.cells (blogC l) 68 false) := by simp (disch := omega) only [TH.down,uA,uB]; exact hg
 have ea := fun k o => app_capE (P := Try.prog) (h := h.new (.cells [] 0 false)) (k := k) (o := o) (i := 0) (n := n) el62 (by omega) hq' (cut_all (by simp [hll,hn1])) (by rw [hll,hn1]) (allSc_flat entG entG_sc l)
 rw [hn1] at hX ⊢
 rw [callD_run (E := env) [] (by kernel_rfl) Try.func70 rfl (by rw [Try.ntmps70]; simp) (by kernel_rfl)]; simp (disch := first | omega | (simp only [SD.down,uA,uL] <;> omega) | fail) only [Try.ntmps70,Try.results70,env_P,env_L,nq62,b062,cls_append,ap62,ea,TQ.down,resE,oneV, ↓reduceIte,reduceCtorEq,uB,uE,uL,uA,uM,uS,vL,vK,vE,vA,vS]
 subst hX
 exact G.ok ⟨h.next + 1,rfl,by omega,by simp (disch := first | omega | (simp only [SD.down,uA,uL] <;> omega) | fail) only [TQ.down,resE,oneV, ↓reduceIte,reduceCtorEq,uB,uE,uL,uA,uM,uS,vL,vK,vE,vA,vS]; omega,by simp (disch := first | omega | (simp only [SD.down,uA,uL] <;> omega) | fail) only [TQ.down,resE,oneV, ↓reduceIte,reduceCtorEq,uB,uE,uL,uA,uM,uS,vL,vK,vE,vA,vS],by simp (disch := first | omega | (simp only [SD.down,uA,uL] <;> omega) | fail) only [TQ.down,resE,oneV, ↓reduceIte,reduceCtorEq,uB,uE,uL,uA,uM,uS,vL,vK,vE,vA,vS]; omega,fun j hj => by simp (disch := first | omega | (simp only [SD.down,uA,uL] <;> omega) | fail) only [TQ.down,resE,oneV, ↓reduceIte,reduceCtorEq,uB,uE,uL,uA,uM,uS,vL,vK,vE,vA,vS]⟩
theorem bus_log (d : Nat) (h : Heap) (c : Col) (kb β cp : Nat) (ps : List Nat) (b : BS) (I : BusI h c kb β cp ps b) (w : b.wf) :
  G (callD env (d + 3) 29 [.ptr β 0] h) fun v h' => ((b.log = [] /\ v = .nilslice) \/ ∃ q,v = .eslice q 0 0 b.log.length /\ h.next <= q /\ q < h'.next /\ h'.get q = some (.cells (blogC b.log) 68 false)) /\ Keeps h h' := by
 refine G.gen fun Q hX => ?_
 obtain ⟨Ms,stv,lgv,l1,c1,l2,c2,n1,g1,g2,pl,mm,ce,st,lg⟩ := I
 rcases lg with ⟨e1,rfl⟩ | ⟨L,rfl,hL,hc,he,hg,hne⟩
 ·have cn : ∀ H,callD env (d + 2) 70 [.nilslice] H = some (.nilslice,H) := fun H => by rw [callD_run (E := env) [] (by kernel_rfl) Try.func70 rfl (by rw [Try.ntmps70]; simp) (by kernel_rfl)]; simp (disch := first | omega | (simp only [SD.down,uA,uL] <;> omega) | fail) only [Try.ntmps70,Try.results70,env_P,env_L,nn62,TQ.down,resE,oneV, ↓reduceIte,reduceCtorEq,uB,uE,uL,uA,uM,uS,vL,vK,vE,vA,vS]
  rw [callD_run (E := env) [] (by kernel_rfl) Try.func29 rfl (by rw [Try.ntmps29]; simp) (by kernel_rfl)]; simp (disch := first | omega | (simp only [SD.down,uA,uL] <;> omega) | fail) only [Try.ntmps29,Try.results29,env_P,env_L,in56,Try.f56,g1,cn,TQ.down,resE,oneV, ↓reduceIte,reduceCtorEq,uB,uE,uL,uA,uM,uS,vL,vK,vE,vA,vS]
  subst hX
  exact G.ok ⟨.inl ⟨e1,rfl⟩,Nat.le_refl _,fun _ _ => rfl⟩
 ·by_cases h0 : 0 < b.log.length
  ·rw [callD_run (E := env) [] (by kernel_rfl) Try.func29 rfl (by rw [Try.ntmps29]; simp) (by kernel_rfl)]; simp (disch := first | omega | (simp only [SD.down,uA,uL] <;> omega) | fail) only [Try.ntmps29,Try.results29,env_P,env_L,in56,Try.f56,g1,TQ.down,resE,oneV, ↓reduceIte,reduceCtorEq,uB,uE,uL,uA,uM,uS,vL,vK,vE,vA,vS]
   refine G.call (clog (d + 1) h L b.log w.log (by have := w.logl; omega) h0 hL hg) ?_
   rintro v h1 ⟨q,rfl,q1,q2,q3,q4⟩
   simp (disch := omega) only [TQ.down,resE,oneV, ↓reduceIte,reduceCtorEq,uB,uE,uL,uA,uM,vE]
   subst hX
   exact G.ok ⟨.inr ⟨q,rfl,q1,q2,q3⟩,q4⟩
  ·exact absurd (List.eq_nil_of_length_eq_zero (by omega)) hne
end Go.Proofs.Ytfjcfjfgamajkaa
