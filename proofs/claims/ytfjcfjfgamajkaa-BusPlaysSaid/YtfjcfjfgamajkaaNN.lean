/- Of this program, for all inputs: contracts. No condition but those in the theorems. -/
import Derived.Test.YtfjcfjfgamajkaaMM
namespace Go.Proofs.Ytfjcfjfgamajkaa
open Go Go.Ai Go.Aw Go.Proofs
open Nat renaming reduceBEq -> uB,reduceEqDiff -> uE,reduceLT -> uL,reduceAdd -> uA,reduceMul -> uM,reduceSub -> uS,reduceAnd -> uN,reduceXor -> uX,reduceOr -> uO
open Int renaming reduceMod -> vR,reduceDiv -> vD,reduceLT -> vL,reduceLE -> vK,reduceEq -> vE,reduceAdd -> vA,reduceMul -> vM,reduceToNat -> vT,reduceSub -> vS
set_option linter.unusedSimpArgs false
set_option linter.unusedVariables false
set_option maxRecDepth 10000
structure Ent where
 kind : Int
 m : Int
 i : Int
 x : List Nat
 e : Int
def entG (t : Ent) : List AV := AV.int .i64 t.kind :: AV.int .i64 t.m :: AV.int .i64 t.i :: (B t.x ++ [AV.int .i64 t.e])
theorem entG_len (t : Ent) (hx : t.x.length = 64) : (entG t).length = 68 := by simp [entG,B_len,hx]
theorem entG_sc (t : Ent) : allSc (entG t) = true := by
 have := allSc_B t.x
 simp only [allSc] at this
 simp only [entG,allSc,List.all_append,List.all_cons,List.all_nil,this]
 rfl
theorem entG_cut (t : Ent) (hx : t.x.length = 64) : cutE 0 68 (entG t) = some (entG t) := cut_all (by simp [entG_len t hx])
theorem entG_over (t u : Ent) (hx : t.x.length = 64) (hu : u.x.length = 64) : overE 0 (entG t) (entG u) = some (entG t) := by rw [overE_n,entG_len t hx,ovN_full (by simp [entG_len u hu]),entG_sc,scE_true]
theorem entG_overZ (t : Ent) (hx : t.x.length = 64) : overE 0 (entG t) entZ = some (entG t) := by rw [overE_n,entG_len t hx,ovN_full (by simp [entZ_len]),entG_sc,scE_true]
theorem entG_err (t : Ent) (hx : t.x.length = 64) (e : Int) : (entG t).set 67 (.int .i64 e) = entG { t with e := e } := by
 simp only [entG,List.set_cons_succ]
 rw [List.set_append_right _ _ (by rw [B_len,hx]; omega),B_len,hx]
 rfl
theorem bs62G (t : Ent) (hx : t.x.length = 64) (h : Heap) : bsE Try.prog 62 1 [(0, .agg (entG t))] h = some (.slice h.next 0 1 1,h.new (.cells (entG t) 0 false)) := bs_one Try.underlying62 (s := 67) (by kernel_rfl) (z := ((zeroE Try.prog 65).getD .nilptr)) (by kernel_rfl) (by kernel_rfl) (by kernel_rfl) (entG_len t hx) (entG_sc t) h
def blogC (l : List Ent) : List AV := l.flatMap entG
theorem blogC_len {l : List Ent} (hl : ∀ t ∈ l,t.x.length = 64) : (blogC l).length = l.length * 68 := by
 induction l with
 | nil => rfl
 | cons t l ih =>
  have h1 := entG_len t (hl t (by simp))
  have h2 := ih fun y hy => hl y (List.mem_cons_of_mem _ hy)
  simp only [blogC,List.flatMap_cons,List.length_append,List.length_cons] at h2 ⊢
  omega
def BLogIs (h : Heap) (lgv : AV) (L : Nat) (l : List Ent) : Prop := (l = [] /\ lgv = .nilslice) \/ (lgv = .eslice L 0 0 l.length /\ h.get L = some (.cells (blogC l) 68 false) /\ L < h.next)
theorem entG_1 (t : Ent) : (entG t)[1]? = some (.int .i64 t.m) := rfl
theorem entG_2 (t : Ent) : (entG t)[2]? = some (.int .i64 t.i) := rfl
def whose (m : Int) : Option Bool := if m < 0 \/ 2 <= m then none else if m = 0 then some false else some true
theorem entG_data (t : Ent) (y : List Nat) (hx : t.x.length = 64) (hy : y.length = 64) : overE 3 (B y) (entG t) = some (entG { t with x := y }) := by
 have l := entG_len t hx
 unfold overE
 rw [if_pos ⟨by rw [l,B_len,hy]; omega,allSc_B _⟩]
 unfold entG
 simp only [List.take_succ_cons,List.take_zero,B_len,hy]
 rw [show 3 + 64 = 64 + 1 + 1 + 1 from rfl]
 simp only [List.drop_succ_cons]
 rw [List.drop_append_of_le_length (by rw [B_len,hx]; omega),List.drop_of_length_le (by rw [B_len,hx]; omega)]
 rfl
theorem entG_d (t : Ent) (hx : t.x.length = 64) : cutE 3 64 (entG t) = some (B t.x) := by
 rw [cutE_of (by rw [entG_len t hx]; omega)]
 show some ((B t.x ++ [AV.int .i64 t.e]).take 64) = _
 rw [List.take_append_of_le_length (by simp [B_len,hx]),List.take_of_length_le (by simp [B_len,hx])]
end Go.Proofs.Ytfjcfjfgamajkaa
namespace Go.Aw
open Go Go.Ai
set_option linter.unusedSimpArgs false
set_option linter.unusedVariables false
variable {P : Program} {h : Heap}
theorem app_full {T e s k kx ox c ex ek : Nat} {ie : TypeInfo} {zv : Value} (E : Elem P T e s ie zv) {cs nw ks old : List AV} {ro rk : Bool} (hk : h.get k = some (.cells ks ek rk)) (hko : cutE 0 (s + 1) ks = some old) (hg : h.get kx = some (.cells cs ex ro)) (hc : cutE ox (s + 1) cs = some nw) (hl : nw.length = s + 1) (hs : allSc nw = true) :
  appE P T (.slice k 0 1 1) (.slice kx ox 1 c) h = some (.eslice h.next 0 0 2,h.new (.cells (old ++ nw) (s + 1) false)) := by
 have hsm := small_ok E.small (show 1 + 1 < 4096 by omega)
 have eb : Nat.ble (1 + 1) 1 = false := rfl
 simp only [appE,appendK,unK_E,E.sl,th_some,E.info,E.zero,E.zsz,E.size,lenA,fN_eq,hsm,firstK,Nat.one_mul,hgetK_eq,hg,hk,lcut_th,hc,hko,llen_eq,Nat.zero_add,hl,Nat.beq_refl,lsc_eq,hs,eb,growK,lapp_eq,newK_E,p2]
end Go.Aw
namespace Go.Proofs.Ytfjcfjfgamajkaa
open Go Go.Ai Go.Aw Go.Proofs
open Nat renaming reduceBEq -> uB,reduceEqDiff -> uE,reduceLT -> uL,reduceAdd -> uA,reduceMul -> uM,reduceSub -> uS,reduceAnd -> uN,reduceXor -> uX,reduceOr -> uO
open Int renaming reduceMod -> vR,reduceDiv -> vD,reduceLT -> vL,reduceLE -> vK,reduceEq -> vE,reduceAdd -> vA,reduceMul -> vM,reduceToNat -> vT,reduceSub -> vS
set_option linter.unusedSimpArgs false
set_option linter.unusedVariables false
set_option maxRecDepth 10000
theorem el141 : Elem Try.prog 141 70 32 ((Try.prog.info? 70).getD default) ((((Try.prog.info? 70).getD default).zero).getD default) := ⟨Try.underlying141,by kernel_rfl,by kernel_rfl,by kernel_rfl,by kernel_rfl,by decide +kernel⟩
theorem ap141 (call : CallK) (ρ : Operand -> AV) (dd : Option Tmp) (t : TypeId) (p : String) (a : Array Edge) (g : Option (Nat × Bool)) (h : Heap) (s x : Operand) : opE Try.prog call ρ ⟨dd, .call ⟨.builtin .append,#[s,x],#[141,141]⟩,t,p,a,g⟩ h = th (okv (ρ s)) fun u => th (okv (ρ x)) fun v => appE Try.prog 141 u v h := opE_append Try.underlying141 s x
def cC (n : Nat) (t : List Nat) : List AV := AV.int .u64 (n : Int) :: B t
theorem cC_len (n : Nat) (t : List Nat) (ht : t.length = 32) : (cC n t).length = 33 := by simp [cC,B_len,ht]
theorem cC_sc (n : Nat) (t : List Nat) : allSc (cC n t) = true := by
 have := allSc_B t
 simp only [allSc] at this
 simp only [cC,allSc,List.all_cons,this]
 rfl
theorem cC_cut (n : Nat) (t : List Nat) (ht : t.length = 32) : cutE 0 33 (cC n t) = some (cC n t) := cut_all (by simp [cC_len n t ht])
def hC (l : List (Nat × List Nat)) : List AV := l.flatMap fun x => cC x.1 x.2
theorem hC_len {l : List (Nat × List Nat)} (hl : ∀ x ∈ l,x.2.length = 32) : (hC l).length = l.length * 33 := by
 induction l with
 | nil => rfl
 | cons x l ih =>
  have h1 := cC_len x.1 x.2 (hl x (by simp))
  have h2 := ih fun y hy => hl y (List.mem_cons_of_mem _ hy)
  simp only [hC,List.flatMap_cons,List.length_append,List.length_cons] at h2 ⊢
  omega
def HisIs (h : Heap) (hv : AV) (K : Nat) (l : List (Nat × List Nat)) : Prop := (∃ x,l = [x] /\ hv = .slice K 0 1 1 /\ h.get K = some (.cells (cC x.1 x.2) 0 false) /\ K < h.next) \/ (hv = .eslice K 0 0 l.length /\ h.get K = some (.cells (hC l) 33 false) /\ K < h.next)
theorem HisIs.len {h : Heap} {hv : AV} {K : Nat} {l : List (Nat × List Nat)} (x : HisIs h hv K l) : lenE Try.prog 141 hv = some (.int .i64 (l.length : Int)) := by
 rcases x with ⟨x,rfl,rfl,_⟩ | ⟨rfl,_⟩
 ·exact lns141 ..
 ·exact lne141 ..
theorem HisIs.ok {h : Heap} {hv : AV} {K : Nat} {l : List (Nat × List Nat)} (x : HisIs h hv K l) : okv hv = some hv := by
 rcases x with ⟨x,rfl,rfl,_⟩ | ⟨rfl,_⟩ <;> rfl
theorem HisIs.same {h : Heap} {hv : AV} {K : Nat} {l : List (Nat × List Nat)} (x : HisIs h hv K l) : AV.same hv hv = true := by
 rcases x with ⟨x,rfl,rfl,_⟩ | ⟨rfl,_⟩
 ·exact same_slice ..
 ·exact same_eslice ..
theorem app141 {n : Nat} {t : List Nat} (ht : t.length = 32) {h : Heap} {hv : AV} {K k : Nat} {l : List (Nat × List Nat)} (hl : ∀ u ∈ l,u.2.length = 32) (hn : l.length < 4000) (hL : HisIs h hv K l) (hk : h.get k = some (.cells (cC n t) 0 false)) :
  ∃ h',appE Try.prog 141 hv (.slice k 0 1 1) h = some (.eslice h.next 0 0 (l.length + 1),h') /\ h'.next = h.next + 1 /\ h'.get h.next = some (.cells (hC (l ++ [(n,t)])) 33 false) /\ ∀ j,j < h.next -> j ≠ K -> h'.get j = h.get j := by
 have e : hC (l ++ [(n,t)]) = hC l ++ cC n t := by simp [hC]
 rcases hL with ⟨x,rfl,rfl,hg,hKn⟩ | ⟨rfl,hg,hKn⟩
 ·have hx := hl x (by simp)
  refine ⟨_,app_full el141 hg (cC_cut x.1 x.2 hx) hk (cC_cut n t ht) (cC_len n t ht) (cC_sc n t),by simp, ?_,fun j hj hj2 => ?_⟩
  ·rw [e]; simp (disch := omega) only [TH.down,uA,uB]; simp [hC]
  ·simp (disch := omega) only [TH.down,uA,uB]
 ·refine ⟨_,app_es el141 hg (hC_len hl) (by omega) hk (cC_cut n t ht) (cC_len n t ht) (cC_sc n t),by simp (disch := omega) only [TH.down,uA,uB], ?_,fun j hj hj2 => ?_⟩
  ·rw [e]; simp (disch := first | omega | (simp only [SD.down,uA,uL] <;> omega) | fail) only [TQ.down,resE,oneV, ↓reduceIte,reduceCtorEq,uB,uE,uL,uA,uM,uS,vL,vK,vE,vA,vS]
  ·simp (disch := first | omega | (simp only [SD.down,uA,uL] <;> omega) | fail) only [TQ.down,resE,oneV, ↓reduceIte,reduceCtorEq,uB,uE,uL,uA,uM,uS,vL,vK,vE,vA,vS]
theorem hC_cut {l : List (Nat × List Nat)} (hl : ∀ x ∈ l,x.2.length = 32) {k : Nat} {x : Nat × List Nat} (hk : l[k]? = some x) : cutE (k * 33) 33 (hC l) = some (cC x.1 x.2) := by
 induction l generalizing k with
 | nil => simp at hk
 | cons y l ih =>
  have hy := cC_len y.1 y.2 (hl y (by simp))
  have hll : (hC l).length = l.length * 33 := hC_len fun z hz => hl z (List.mem_cons_of_mem _ hz)
  have e : hC (y :: l) = cC y.1 y.2 ++ hC l := by simp [hC]
  rw [e]
  cases k with
  | zero =>
   simp at hk
   subst hk
   rw [Nat.zero_mul,cutE_of (by rw [List.length_append,hy]; omega),List.drop_zero,List.take_append_of_le_length (by omega),List.take_of_length_le (by omega)]
  | succ k =>
   have hk' : l[k]? = some x := by simpa using hk
   have h2 := ih (fun z hz => hl z (List.mem_cons_of_mem _ hz)) hk'
   have hkl : k < l.length := (List.getElem?_eq_some_iff.1 hk').1
   rw [cutE_of (by rw [hll]; omega)] at h2
   rw [cutE_of (by rw [List.length_append,hy,hll]; omega),show (k + 1) * 33 = 33 + k * 33 by omega,List.drop_append,hy,List.drop_of_length_le (by omega),List.nil_append,show 33 + k * 33 - 33 = k * 33 by omega]
   exact h2
def czz : List Nat := List.replicate 32 0
theorem cz_fold : c33 = cC 0 czz := rfl
theorem cC_over (n k : Nat) (t u : List Nat) (ht : t.length = 32) (hu : u.length = 32) : overE 0 (cC n t) (cC k u) = some (cC n t) := by rw [overE_n,cC_len n t ht,ovN_full (by simp [cC_len k u hu]),cC_sc,scE_true]
set_option maxHeartbeats 1000000 in
theorem cell_read (d : Nat) (h : Heap) (c K : Nat) (hv : AV) (l : List (Nat × List Nat)) (x : Nat × List Nat) (hc : h.get c = some (.cells [hv] 0 false)) (hh : HisIs h hv K l) (hl : ∀ x ∈ l,x.2.length = 32) (hx : l[l.length - 1]? = some x) (lc : c < h.next) (hll : l.length < 4000) : G (callD env (d + 2) 73 [.ptr c 0] h) fun v h' => v = .tup [.agg (cC x.1 x.2), .int .i64 0] /\ Keeps h h' := by
 refine G.gen fun Q hX => ?_
 have hcut := hC_cut hl hx
 have hpos : 0 < l.length := by
  cases l with
  | nil => simp at hx
  | cons y l => simp
 have hd0 : decide ((0 : Int) < (l.length : Int)) = true := decide_eq_true (by omega)
 have hxl := hl x (List.mem_of_getElem? hx)
 have hlen := hh.len
 have hok := hh.ok
 have hsm := hh.same
 have hcl := cC_len x.1 x.2 hxl
 have hzl : czz.length = 32 := by simp [czz]
 rcases hh with ⟨y,rfl,rfl,hg,hK⟩ | ⟨rfl,hg,hK⟩
 ·have hg' : h.get K = some (.cells (cC y.1 y.2) 0 false) := hg
  obtain rfl : y = x := by simpa using hx
  rw [callD_run (E := env) [] (by kernel_rfl) Try.func73 rfl (by rw [Try.ntmps73]; simp) (by kernel_rfl)]; simp (implicitDefEqProofs := false) (disch := first | omega | (simp only [SD.down,uA,uL] <;> omega) | fail) only [Try.ntmps73,Try.results73,env_P,env_L,in100,Try.f100,hc,hg',c33_fold,cz_fold,cC_over _ _ _ czz hxl hzl,cC_cut _ _ hxl,hcl,TQ.down,resE,oneV, ↓reduceIte,reduceCtorEq,uB,uE,uL,uA,uM,uS,uN,uX,uO,vR,vD,vL,vK,vE,vA,vM,vT,vS]
  subst hX
  refine G.ok ⟨rfl, ?_,fun j hj => ?_⟩
  ·simp (disch := omega) only [TH.down,uA,uB]
   try omega
  ·simp (disch := omega) only [TH.down,uA,uB]
 ·have hll' := hll
  rw [callD_run (E := env) [] (by kernel_rfl) Try.func73 rfl (by rw [Try.ntmps73]; simp) (by kernel_rfl)]; simp (disch := first | omega | (simp only [SD.down,uA,uL] <;> omega) | fail) only [Try.ntmps73,Try.results73,env_P,env_L,in100,Try.f100,hc,hg,hd0,hcut,c33_fold,cz_fold,cC_over _ _ _ czz hxl hzl,cC_cut _ _ hxl,hcl,TQ.down,resE,oneV, ↓reduceIte,reduceCtorEq,uB,uE,uL,uA,uM,uS,vL,vK,vE,vA,vS]
  subst hX
  refine G.ok ⟨rfl, ?_,fun j hj => ?_⟩
  ·simp (disch := omega) only [TH.down,uA,uB]
   try omega
  ·simp (disch := omega) only [TH.down,uA,uB]
theorem bs141G (n : Nat) (t : List Nat) (ht : t.length = 32) (h : Heap) : bsE Try.prog 141 1 [(0, .agg (cC n t))] h = some (.slice h.next 0 1 1,h.new (.cells (cC n t) 0 false)) := bs_one Try.underlying141 (s := 32) (by kernel_rfl) (z := .agg c33) (by kernel_rfl) (by kernel_rfl) (by kernel_rfl) (cC_len n t ht) (cC_sc n t) h
theorem cC_n (m k : Nat) (u : List Nat) : overE 0 [AV.int IntKind.u64 (m : Int)] (cC k u) = some (cC m u) := by
 unfold overE
 rw [if_pos ⟨by simp [cC],rfl⟩]
 rfl
theorem cC_l (m : Nat) (u t : List Nat) (hu : u.length = 32) (ht : t.length = 32) : overE 1 (B t) (cC m u) = some (cC m t) := by
 unfold overE
 rw [if_pos ⟨by simp [cC,B_len,hu,ht]; try omega,allSc_B _⟩]
 unfold cC
 simp only [List.take_succ_cons,List.take_zero,B_len,ht]
 rw [show 1 + 32 = 32 + 1 from rfl,List.drop_succ_cons,List.drop_of_length_le (by rw [B_len,hu]; omega)]
 simp
theorem cC_0 (n : Nat) (t : List Nat) : (cC n t)[0]? = some (.int .u64 (n : Int)) := rfl
theorem HisIs.keep {h h' : Heap} {hv : AV} {K : Nat} {l : List (Nat × List Nat)} (x : HisIs h hv K l) (hn : h.next <= h'.next) (k : K < h.next -> h'.get K = h.get K) : HisIs h' hv K l := by
 rcases x with ⟨x,rfl,rfl,hg,hK⟩ | ⟨rfl,hg,hK⟩
 ·exact .inl ⟨x,rfl,rfl,(k hK).trans hg,Nat.lt_of_lt_of_le hK hn⟩
 ·exact .inr ⟨rfl,(k hK).trans hg,Nat.lt_of_lt_of_le hK hn⟩
theorem HisIs.lt {h : Heap} {hv : AV} {K : Nat} {l : List (Nat × List Nat)} (x : HisIs h hv K l) : K < h.next := by
 rcases x with ⟨x,rfl,rfl,hg,hK⟩ | ⟨rfl,hg,hK⟩ <;> exact hK
set_option maxHeartbeats 1000000 in
theorem cell_adv (d : Nat) (h : Heap) (c K : Nat) (hv : AV) (l : List (Nat × List Nat)) (x : Nat × List Nat) (lb : List Nat) (hlb : lb.length = 32) (hc : h.get c = some (.cells [hv] 0 false)) (hh : HisIs h hv K l) (hl : ∀ x ∈ l,x.2.length = 32) (hx : l[l.length - 1]? = some x) (lc : c < h.next) (hll : l.length < 4000) (hcK : K ≠ c) (hm : x.1 < 4611686018427387904) : G (callD env (d + 3) 75 [.ptr c 0, .agg (B lb)] h) fun v h' => v = .tup [.int .u64 ((x.1 + 1 : Nat) : Int), .int .i64 0] /\ ∃ K',h'.get c = some (.cells [.eslice K' 0 0 (l.length + 1)] 0 false) /\ h.next <= K' /\ K' < h'.next /\ h'.get K' = some (.cells (hC (l ++ [(x.1 + 1,lb)])) 33 false) /\ h.next <= h'.next /\ ∀ j,j < h.next -> j ≠ c -> j ≠ K -> h'.get j = h.get j := by
 refine G.gen fun Q hX => ?_
 have hxl := hl x (List.mem_of_getElem? hx)
 have hzl : czz.length = 32 := by simp [czz]
 have hcl := cC_len x.1 x.2 hxl
 have hcl2 := cC_len (x.1 + 1) lb hlb
 have hd : decide ((x.1 : Int) = 4611686018427387904) = false := decide_eq_false (by omega)
 have hKl := hh.lt
 rw [callD_run (E := env) [(7, .fl [(4,0,1)])] (by kernel_rfl) Try.func75 rfl (by rw [Try.ntmps75]; simp) (by kernel_rfl)]; simp (maxSteps := 2000000) (implicitDefEqProofs := false) (disch := first | omega | (simp only [SD.down,uA,uL] <;> omega) | fail) only [Try.ntmps75,Try.results75,env_P,env_L,hlb,cutB_all,over_B,TQ.down,resE,oneV, ↓reduceIte,reduceCtorEq,uB,uE,uL,uA,uM,uS,uN,uX,uO,vR,vD,vL,vK,vE,vA,vM,vT,vS]
 refine G.call ((cell_read d (h.new (.cells (B lb) 0 false)) c K hv l x (by simp (disch := first | omega | (simp only [SD.down,uA,uL] <;> omega) | fail) only [hc,TQ.down,resE,oneV, ↓reduceIte,reduceCtorEq,uB,uE,uL,uA,uM,uS,vL,vK,vE,vA,vS]) (hh.keep (by simp (disch := first | omega | (simp only [SD.down,uA,uL] <;> omega) | fail) only [TQ.down,resE,oneV, ↓reduceIte,reduceCtorEq,uB,uE,uL,uA,uM,uS,vL,vK,vE,vA,vS]; omega) (fun hK => by simp (disch := first | omega | (simp only [SD.down,uA,uL] <;> omega) | fail) only [TQ.down,resE,oneV, ↓reduceIte,reduceCtorEq,uB,uE,uL,uA,uM,uS,vL,vK,vE,vA,vS])) hl hx (by simp (disch := first | omega | (simp only [SD.down,uA,uL] <;> omega) | fail) only [TQ.down,resE,oneV, ↓reduceIte,reduceCtorEq,uB,uE,uL,uA,uM,uS,vL,vK,vE,vA,vS]; omega) hll)) ?_
 rintro v h1 ⟨rfl,k1⟩
 have n1 := k1.1
 have b0 : h1.get h.next = some (.cells (B lb) 0 false) := by rw [k1.2 _ (by simp (disch := first | omega | (simp only [SD.down,uA,uL] <;> omega) | fail) only [TQ.down,resE,oneV, ↓reduceIte,reduceCtorEq,uB,uE,uL,uA,uM,uS,vL,vK,vE,vA,vS]; omega)]; simp (disch := first | omega | (simp only [SD.down,uA,uL] <;> omega) | fail) only [TQ.down,resE,oneV, ↓reduceIte,reduceCtorEq,uB,uE,uL,uA,uM,uS,vL,vK,vE,vA,vS]
 have b1 : h1.get c = some (.cells [hv] 0 false) := by rw [k1.2 _ (by simp (disch := omega) only [TQ.down,resE,oneV, ↓reduceIte,reduceCtorEq,uB,uE,uL,uA,uM,vE]; omega)]; simp (disch := omega) only [hc,TQ.down,resE,oneV, ↓reduceIte,reduceCtorEq,uB,uE,uL,uA,uM,vE]
 have b2 : K < h.next -> h1.get K = h.get K := fun hK => by rw [k1.2 _ (by simp (disch := omega) only [TQ.down,resE,oneV, ↓reduceIte,reduceCtorEq,uB,uE,uL,uA,uM,vE]; omega)]; simp (disch := omega) only [TQ.down,resE,oneV, ↓reduceIte,reduceCtorEq,uB,uE,uL,uA,uM,vE]
 simp (maxSteps := 2000000) (implicitDefEqProofs := false) (disch := first | omega | (simp only [SD.down,uA,uL] <;> omega) | fail) only [TQ.down,resE,oneV, ↓reduceIte,reduceCtorEq,uB,uE,uL,uA,uM,uS,uN,uX,uO,vR,vD,vL,vK,vE,vA,vM,vT,vS] at n1
 simp (maxSteps := 2000000) (implicitDefEqProofs := false) (disch := first | omega | (simp only [SD.down,uA,uL] <;> omega) | fail) only [hlb,cutB_all,over_B,c33_fold,cz_fold,cC_over _ _ _ czz hxl hzl,cC_cut _ _ hxl,hcl,hcl2,cC_over _ _ _ czz hlb hzl,cC_cut _ _ hlb,cC_0,hd,b0,b1,cC_n,cC_l _ _ _ hzl hlb,bs141G _ _ hlb,cls_append,ap141,hh.ok,hh.same,TQ.down,resE,oneV, ↓reduceIte,reduceCtorEq,uB,uE,uL,uA,uM,uS,uN,uX,uO,vR,vD,vL,vK,vE,vA,vM,vT,vS]
 have hh1 : HisIs (((((h1.new (Blk.cells (cC 0 czz) 0 false)).put h1.next (some (Blk.cells (cC x.1 x.2) 0 false))).new (Blk.cells (cC 0 czz) 0 false)).put (h1.next + 1) (some (Blk.cells (cC (x.1 + 1) lb) 0 false))).new (Blk.cells (cC (x.1 + 1) lb) 0 false)) hv K l := hh.keep (by simp (maxSteps := 2000000) (implicitDefEqProofs := false) (disch := first | omega | (simp only [SD.down,uA,uL] <;> omega) | fail) only [TQ.down,resE,oneV, ↓reduceIte,reduceCtorEq,uB,uE,uL,uA,uM,uS,uN,uX,uO,vR,vD,vL,vK,vE,vA,vM,vT,vS]; omega) (fun hK => by simp (maxSteps := 2000000) (implicitDefEqProofs := false) (disch := first | omega | (simp only [SD.down,uA,uL] <;> omega) | fail) only [TQ.down,resE,oneV, ↓reduceIte,reduceCtorEq,uB,uE,uL,uA,uM,uS,uN,uX,uO,vR,vD,vL,vK,vE,vA,vM,vT,vS]; exact b2 hK)
 obtain ⟨h2,ea,en,eg,ef⟩ := app141 (n := x.1 + 1) (k := h1.next + 2) hlb hl hll hh1 (by simp (maxSteps := 2000000) (implicitDefEqProofs := false) (disch := first | omega | (simp only [SD.down,uA,uL] <;> omega) | fail) only [TQ.down,resE,oneV, ↓reduceIte,reduceCtorEq,uB,uE,uL,uA,uM,uS,uN,uX,uO,vR,vD,vL,vK,vE,vA,vM,vT,vS])
 rw [ea]
 simp (maxSteps := 2000000) (implicitDefEqProofs := false) (disch := first | omega | (simp only [SD.down,uA,uL] <;> omega) | fail) only [TQ.down,resE,oneV, ↓reduceIte,reduceCtorEq,uB,uE,uL,uA,uM,uS,uN,uX,uO,vR,vD,vL,vK,vE,vA,vM,vT,vS] at en eg ef
 have f1 : h2.get c = some (.cells [hv] 0 false) := by rw [ef _ (by omega) (Ne.symm hcK)]; simp (maxSteps := 2000000) (implicitDefEqProofs := false) (disch := first | omega | (simp only [SD.down,uA,uL] <;> omega) | fail) only [b1,TQ.down,resE,oneV, ↓reduceIte,reduceCtorEq,uB,uE,uL,uA,uM,uS,uN,uX,uO,vR,vD,vL,vK,vE,vA,vM,vT,vS]
 have f3 : h2.get (h1.next + 1) = some (.cells (cC (x.1 + 1) lb) 0 false) := by rw [ef _ (by omega) (by omega)]; simp (maxSteps := 2000000) (implicitDefEqProofs := false) (disch := first | omega | (simp only [SD.down,uA,uL] <;> omega) | fail) only [TQ.down,resE,oneV, ↓reduceIte,reduceCtorEq,uB,uE,uL,uA,uM,uS,uN,uX,uO,vR,vD,vL,vK,vE,vA,vM,vT,vS]
 simp (maxSteps := 2000000) (implicitDefEqProofs := false) (disch := first | omega | (simp only [SD.down,uA,uL] <;> omega) | fail) only [f1,f3,b1,en,hcl2,cC_0,hh.ok,hh.same,TQ.down,resE,oneV, ↓reduceIte,reduceCtorEq,uB,uE,uL,uA,uM,uS,uN,uX,uO,vR,vD,vL,vK,vE,vA,vM,vT,vS]
 subst hX
 refine G.ok ⟨rfl,h1.next + 3,by simp (maxSteps := 2000000) (implicitDefEqProofs := false) (disch := first | omega | (simp only [SD.down,uA,uL] <;> omega) | fail) only [TQ.down,resE,oneV, ↓reduceIte,reduceCtorEq,uB,uE,uL,uA,uM,uS,uN,uX,uO,vR,vD,vL,vK,vE,vA,vM,vT,vS],by omega,by simp (maxSteps := 2000000) (implicitDefEqProofs := false) (disch := first | omega | (simp only [SD.down,uA,uL] <;> omega) | fail) only [TQ.down,resE,oneV, ↓reduceIte,reduceCtorEq,uB,uE,uL,uA,uM,uS,uN,uX,uO,vR,vD,vL,vK,vE,vA,vM,vT,vS]; omega,by simp (maxSteps := 2000000) (implicitDefEqProofs := false) (disch := first | omega | (simp only [SD.down,uA,uL] <;> omega) | fail) only [TQ.down,resE,oneV, ↓reduceIte,reduceCtorEq,uB,uE,uL,uA,uM,uS,uN,uX,uO,vR,vD,vL,vK,vE,vA,vM,vT,vS]; exact eg,by simp (maxSteps := 2000000) (implicitDefEqProofs := false) (disch := first | omega | (simp only [SD.down,uA,uL] <;> omega) | fail) only [TQ.down,resE,oneV, ↓reduceIte,reduceCtorEq,uB,uE,uL,uA,uM,uS,uN,uX,uO,vR,vD,vL,vK,vE,vA,vM,vT,vS]; omega,fun j hj jc jK => ?_⟩
 simp (disch := first | omega | (simp only [SD.down,uA,uL] <;> omega) | fail) only [TQ.down,resE,oneV, ↓reduceIte,reduceCtorEq,uB,uE,uL,uA,uM,uS,vL,vK,vE,vA,vS]
 rw [ef j (by omega) jK]
 simp (disch := first | omega | (simp only [SD.down,uA,uL] <;> omega) | fail) only [TQ.down,resE,oneV, ↓reduceIte,reduceCtorEq,uB,uE,uL,uA,uM,uS,vL,vK,vE,vA,vS]
 rw [k1.2 j (by simp (disch := omega) only [TH.down,uA,uB]; omega)]
 simp (disch := omega) only [TH.down,uA,uB]
theorem look_ok (d : Nat) (h : Heap) (m n a b : Nat) (lgv mk : AV) (dur : List (Int × List Nat)) (fails hurt : Bool) (i : Int) (hm : h.get m = some (.cells (memG n a b lgv mk fails hurt) 0 false)) (hb : h.get b = some (.map (mapC dur) false)) (hsl : ∀ x ∈ dur,x.2.length = 64) (lm : m < h.next) (lb : b < h.next) (h0 : 0 <= i) (h1 : i < n) :
  G (callD env (d + 5) 26 [.ptr m 0, .int .i64 i] h) fun v h' => v = .tup [.agg (B (mGet dur i zz)), .int .i64 0] /\ Keeps h h' := by
 refine G.gen fun Q hX => ?_
 have hz := zz_len
 have hgl := mGet_len hsl i
 unfold memG at hm
 have e1 : decide (0 < (n : Int)) = true := decide_eq_true (by omega)
 have e2 : decide (i < 0) = false := decide_eq_false (by omega)
 have e3 : decide ((n : Int) <= i) = false := decide_eq_false (by omega)
 rw [callD_run (E := env) [] (by kernel_rfl) Try.func26 rfl (by rw [Try.ntmps26]; simp) (by kernel_rfl)]; simp (disch := first | omega | (simp only [SD.down,uA,uL] <;> omega) | fail) only [Try.ntmps26,Try.results26,env_P,env_L,hm,in69,Try.f69,in59,Try.f59,e1,e2,e3,hz,zz_fold,lookup_mapC Try.underlying125 Try.underlying3 (z := zz) (by kernel_rfl) (show (h.new (.cells (B zz) 0 false)).get b = _ by rw [get_new_ne (by simp; omega)]; exact hb),over_B,cutB_all,hgl,TQ.down,resE,oneV, ↓reduceIte,reduceCtorEq,uB,uE,uL,uA,uM,uS,vL,vK,vE,vA,vS]
 subst hX
 refine G.ok ⟨rfl, ?_,fun j hj => ?_⟩
 ·simp (disch := omega) only [TH.down,uA,uB]
  try omega
 ·simp (disch := omega) only [TH.down,uA,uB]
end Go.Proofs.Ytfjcfjfgamajkaa
