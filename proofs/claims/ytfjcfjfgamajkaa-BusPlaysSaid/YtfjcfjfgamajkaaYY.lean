/- Of this program, for all inputs: contracts. No condition but those in the theorems. -/
import Derived.Test.YtfjcfjfgamajkaaXB
namespace Go.Proofs.Ytfjcfjfgamajkaa
open Go Go.Ai Go.Aw Go.Proofs
open Nat renaming reduceBEq -> uB,reduceEqDiff -> uE,reduceLT -> uL,reduceAdd -> uA,reduceMul -> uM,reduceSub -> uS,reduceAnd -> uN,reduceXor -> uX,reduceOr -> uO
open Int renaming reduceMod -> vR,reduceDiv -> vD,reduceLT -> vL,reduceLE -> vK,reduceEq -> vE,reduceAdd -> vA,reduceMul -> vM,reduceToNat -> vT,reduceSub -> vS
set_option linter.unusedSimpArgs false
set_option linter.unusedVariables false
set_option maxRecDepth 10000
def rFind : Img -> Int -> Option (List Nat)
 | [],_ => none
 | x :: r,i => match rFind r i with
  | some s => some s
  | none => if x.1 = i then some x.2 else none
theorem rFind_snoc (i : Int) (x : Int × List Nat) : ∀ l : Img,rFind (l ++ [x]) i = if x.1 = i then some x.2 else rFind l i
 | [] => rfl
 | y :: r => by
  rw [List.cons_append,rFind,rFind_snoc i x r,rFind]
  by_cases e : x.1 = i <;> simp [e]
theorem lncR {dd : Option Tmp} {t : TypeId} {p : String} {a : Array Edge} {g : Option (Nat × Bool)} (x : Operand) : cls Try.prog ⟨dd, .call ⟨.builtin .len,#[x],#[162]⟩,t,p,a,g⟩ = .p := cls_len1 Try.underlying162 x
theorem lnoR {call : CallK} {ρ : Operand -> AV} {h : Heap} {dd : Option Tmp} {t : TypeId} {p : String} {a : Array Edge} {g : Option (Nat × Bool)} (x : Operand) : opE Try.prog call ρ ⟨dd, .call ⟨.builtin .len,#[x],#[162]⟩,t,p,a,g⟩ h = th (okv (ρ x)) fun v => th (lenE Try.prog 162 v) fun v => some (v,h) := opE_len1 Try.underlying162 x
theorem lne162 (k o l c : Nat) : lenE Try.prog 162 (.eslice k o l c) = some (.int .i64 (c : Int)) := len_eslice Try.underlying162 k o l c
theorem find_ok (d : Nat) (h : Heap) (L : Nat) (i : Int) (l : Img) (junk : List AV) (hl : Img.ok l) (hn : l.length < 4000) (hL : h.get L = some (.cells (logC l ++ junk) 65 false)) (Ll : L < h.next) :
  G (callD env (d + 3) 110 [.eslice L 0 0 l.length, .int .i64 i] h) fun v h' => v = .tup [.agg (B ((rFind l i).getD zz)), .bool (rFind l i).isSome] /\ Keeps h h' := by
 refine G.gen fun Q hX => ?_
 rw [callD_run (E := env) [] (by kernel_rfl) Try.func110 rfl (by rw [Try.ntmps110]; simp) (by kernel_rfl)]; simp (disch := first | omega | (simp only [SD.down,uA,uL] <;> omega) | fail) only [Try.ntmps110,Try.results110,env_P,env_L,lne162,lncR,lnoR,zz_fold,TQ.down,resE,oneV, ↓reduceIte,reduceCtorEq,uB,uE,uL,uA,uM,uS,vL,vK,vE,vA,vS]
 have hw : ∀ q : Nat,q < 4001 -> wrapA .i64 ((q : Int) - 1) = (q : Int) - 1 := fun q hq => by
  rcases Nat.eq_zero_or_pos q with rfl | h0
  ·rfl
  ·exact wrap_i64 (by omega) (by omega)
 rw [hw _ (by omega),run_loop]
 refine loop_ind (fun j σ hh => σ 0 = .eslice L 0 0 l.length /\ σ 1 = .int .i64 i /\ σ 4 = .ptr h.next 0 /\ σ 6 = .int .i64 ((j : Int) - 1) /\ j <= l.length /\ rFind l i = rFind (l.take j) i /\ hh = h.new (Blk.cells (B zz) 0 false)) ?_ ?_ l.length _ _ _ (by simp; omega) ?_
 ·rintro mm σ hh ⟨s0,s1,s4,s6,hj,hr,rfl⟩
  have e : rFind l i = none := by rw [hr]; rfl
  rw [e] at hX
  have hzl := zz_len
  simp (disch := first | omega | (simp only [SD.down,uA,uL] <;> omega) | fail) only [run_it,s0,s1,s4,s6,zz_fold,bz25,hzl,cutB_all,over_B,env_P,env_L,TQ.down,resE,oneV, ↓reduceIte,reduceCtorEq,uB,uE,uL,uA,uM,uS,vL,vK,vE,vA,vS]
  subst hX
  exact G.ok ⟨rfl,⟨by simp (disch := omega) only [TH.down,uA,uB]; omega,fun j hj => by simp (disch := omega) only [TH.down,uA,uB]⟩⟩
 ·rintro j mm σ hh ⟨s0,s1,s4,s6,hj,hr,rfl⟩ ih
  obtain ⟨x,hx⟩ : ∃ x,l[j]? = some x := ⟨_,List.getElem?_eq_getElem (by omega)⟩
  have hcut := logC_cutj hl junk hx
  have hxl := hl x (List.mem_of_getElem? hx)
  have hle := cutE_len hcut
  rw [cutE_of hle] at hcut
  have hc := Option.some.inj hcut
  have c0 : (logC l ++ junk)[j * 65]? = some (.int .i64 x.1) := by
   have : ((logC l ++ junk).drop (j * 65)).take 65 = wrC x.1 x.2 := hc
   have h0 := congrArg (fun z => z[0]?) this
   simp only [List.getElem?_take_of_lt (show 0 < 65 by omega),List.getElem?_drop,Nat.add_zero] at h0
   exact h0
  have c1 : cutE (j * 65 + 1) 64 (logC l ++ junk) = some (B x.2) := by
   rw [cutE_of (by omega),<- List.drop_drop]
   have h1 := congrArg (List.drop 1) hc
   rw [List.drop_take] at h1
   exact congrArg some h1
  have hzl := zz_len
  have efs : rFind (l.take (j + 1)) i = if x.1 = i then some x.2 else rFind (l.take j) i := by
   rw [List.take_add_one,hx]
   exact rFind_snoc i x (l.take j)
  rw [efs] at hr
  by_cases he : x.1 = i
  ·have de : decide (x.1 = i) = true := decide_eq_true he
   rw [if_pos he] at hr
   rw [hr] at hX
   simp (disch := first | omega | (simp only [SD.down,uA,uL] <;> omega) | fail) only [run_it,s0,s1,s4,s6,zz_fold,hL,c0,c1,de,hxl,hzl,cutB_all,over_B,Nat.add_sub_cancel,env_P,env_L,TQ.down,resE,oneV, ↓reduceIte,reduceCtorEq,uB,uE,uL,uA,uM,uS,vL,vK,vE,vA,vS]
   subst hX
   exact G.ok ⟨rfl,⟨by simp (disch := omega) only [TH.down,uA,uB]; omega,fun j hj => by simp (disch := omega) only [TH.down,uA,uB]⟩⟩
  ·have de : decide (x.1 = i) = false := decide_eq_false he
   rw [if_neg he] at hr
   have hwj := hw j (by omega)
   simp (disch := first | omega | (simp only [SD.down,uA,uL] <;> omega) | fail) only [run_it,s0,s1,s4,s6,zz_fold,hL,c0,c1,de,hxl,hzl,hwj,cutB_all,over_B,Nat.add_sub_cancel,env_P,env_L,TQ.down,resE,oneV, ↓reduceIte,reduceCtorEq,uB,uE,uL,uA,uM,uS,vL,vK,vE,vA,vS]
   exact ih _ _ ⟨by simp (disch := omega) only [s0,TH.down,uA,uB],by simp (disch := omega) only [s1,TH.down,uA,uB],by simp (disch := omega) only [s4,TH.down,uA,uB],by simp (disch := omega) only [TH.down,uA,uB],by omega,hr,rfl⟩
 ·exact ⟨by simp (disch := omega) only [TQ.down,resE,oneV, ↓reduceIte,reduceCtorEq,uB,uE,uL,uA,uM,vE],by simp (disch := omega) only [TQ.down,resE,oneV, ↓reduceIte,reduceCtorEq,uB,uE,uL,uA,uM,vE],by simp (disch := omega) only [TQ.down,resE,oneV, ↓reduceIte,reduceCtorEq,uB,uE,uL,uA,uM,vE],by simp (disch := omega) only [TQ.down,resE,oneV, ↓reduceIte,reduceCtorEq,uB,uE,uL,uA,uM,vE],Nat.le_refl _,by rw [List.take_of_length_le (Nat.le_refl _)],rfl⟩
theorem el162 : Elem Try.prog 162 195 64 ((Try.prog.info? 195).getD default) ((((Try.prog.info? 195).getD default).zero).getD default) := ⟨Try.underlying162,by kernel_rfl,by kernel_rfl,by kernel_rfl,by kernel_rfl,by decide +kernel⟩
theorem ap162 (call : CallK) (ρ : Operand -> AV) (dd : Option Tmp) (t : TypeId) (p : String) (a : Array Edge) (g : Option (Nat × Bool)) (h : Heap) (s x : Operand) : opE Try.prog call ρ ⟨dd, .call ⟨.builtin .append,#[s,x],#[162,162]⟩,t,p,a,g⟩ h = th (okv (ρ s)) fun u => th (okv (ρ x)) fun v => appE Try.prog 162 u v h := opE_append Try.underlying162 s x
theorem joined_go (d : Nat) (h : Heap) (a b : AV) (ha : okv a = some a) (hb : okv b = some b) (Q : AV -> Heap -> Prop) (hq : ∀ u v h1 h2,appE Try.prog 162 .nilslice a h = some (u,h1) -> okv u = some u -> appE Try.prog 162 u b h1 = some (v,h2) -> okv v = some v -> Q v h2)
  (h1 : ∃ u h1 v h2,appE Try.prog 162 .nilslice a h = some (u,h1) /\ okv u = some u /\ AV.same u u = true /\ appE Try.prog 162 u b h1 = some (v,h2) /\ okv v = some v /\ AV.same v v = true) :
  G (callD env (d + 1) 134 [a,b] h) Q := by
 obtain ⟨u,h1,v,h2,e1,o1,s1,e2,o2,s2⟩ := h1
 rw [callD_run (E := env) [] (by kernel_rfl) Try.func134 rfl (by rw [Try.ntmps134]; simp) (by kernel_rfl)]; simp (disch := first | omega | (simp only [SD.down,uA,uL] <;> omega) | fail) only [Try.ntmps134,Try.results134,env_P,env_L,cls_append,ap162,ha,hb,e1,e2,o1,s1,o2,s2,TQ.down,resE,oneV, ↓reduceIte,reduceCtorEq,uB,uE,uL,uA,uM,uS,vL,vK,vE,vA,vS]
 exact G.ok (hq u v h1 h2 e1 o1 e2 o2)
end Go.Proofs.Ytfjcfjfgamajkaa
namespace Go.Aw
open Go Go.Ai
set_option linter.unusedSimpArgs false
set_option linter.unusedVariables false
variable {P : Program} {h : Heap}
theorem app_ee {T e s k n kx ox ix m ex : Nat} {ie : TypeInfo} {zv : Value} (E : Elem P T e s ie zv) {old junk : List AV} (hk : h.get k = some (.cells (old ++ junk) (s + 1) false)) (ho : old.length = n * (s + 1)) (hn : n + (m + 1) < 4096) {cs nw : List AV} {ro : Bool} (hg : h.get kx = some (.cells cs ex ro)) (hc : cutE ox ((m + 1) * (s + 1)) cs = some nw) (hl : nw.length = (m + 1) * (s + 1)) (hs : allSc nw = true) :
  appE P T (.eslice k 0 0 n) (.eslice kx ox ix (m + 1)) h = some (.eslice h.next 0 0 (n + (m + 1)),(h.put k none).new (.cells (old ++ nw) (s + 1) false)) := by
 have hsm := small_ok E.small hn
 have hco : cutE 0 (n * (s + 1)) (old ++ junk) = some old := by
  rw [cutE_of (by rw [List.length_append,ho]; omega),List.drop_zero,<- ho,List.take_left]
 have e0 : (m + 1) * (s + 1) = ((m + 1) * s + m) + 1 := by rw [Nat.mul_add]; omega
 simp only [appE,appendK,unK_E,E.sl,th_some,E.info,E.zero,E.zsz,E.size,lenA,fN_eq,hsm,firstK]
 rw [e0] at hc hl ⊢
 simp only [hgetK_eq,hg,hk,lcut_th,hc,hco,llen_eq,Nat.zero_add,Nat.zero_mul,hl,Nat.beq_refl,lsc_eq,hs,th_some,Bool.and_self,hdropK_eq,growK,lapp_eq,newK_E,p2,dropK_E]
 rfl
end Go.Aw
namespace Go.Aw
open Go Go.Ai
set_option linter.unusedSimpArgs false
set_option linter.unusedVariables false
variable {P : Program} {h : Heap}
theorem app_nilE {T e s kx ox ix m ex : Nat} {ie : TypeInfo} {zv : Value} (E : Elem P T e s ie zv) (hn : 0 + (m + 1) < 4096) {cs nw : List AV} {ro : Bool} (hg : h.get kx = some (.cells cs ex ro)) (hc : cutE ox ((m + 1) * (s + 1)) cs = some nw) (hl : nw.length = (m + 1) * (s + 1)) (hs : allSc nw = true) :
  appE P T .nilslice (.eslice kx ox ix (m + 1)) h = some (.eslice h.next 0 0 (m + 1),h.new (.cells nw (s + 1) false)) := by
 have hsm := small_ok E.small hn
 have e0 : (m + 1) * (s + 1) = ((m + 1) * s + m) + 1 := by rw [Nat.mul_add]; omega
 rw [Nat.zero_add] at hsm
 simp only [appE,appendK,unK_E,E.sl,th_some,E.info,E.zero,E.zsz,E.size,lenA,fN_eq,Nat.zero_add,hsm,firstK]
 rw [e0] at hc hl ⊢
 simp only [hgetK_eq,hg,lcut_th,hc,llen_eq,Nat.zero_add,hl,Nat.beq_refl,lsc_eq,hs,th_some,growK,lapp_eq,List.nil_append,newK_E,p2]
theorem app_e0 {T e s k n : Nat} {ie : TypeInfo} {zv : Value} (E : Elem P T e s ie zv) {old junk : List AV} (hk : h.get k = some (.cells (old ++ junk) (s + 1) false)) (ho : old.length = n * (s + 1)) (hn : n < 4096) :
  appE P T (.eslice k 0 0 n) .nilslice h = some (.eslice h.next 0 0 n,(h.put k none).new (.cells old (s + 1) false)) := by
 have hsm := small_ok E.small hn
 have hco : cutE 0 (n * (s + 1)) (old ++ junk) = some old := by
  rw [cutE_of (by rw [List.length_append,ho]; omega),List.drop_zero,<- ho,List.take_left]
 simp only [appE,appendK,unK_E,E.sl,th_some,E.info,E.zero,E.zsz,E.size,lenA,fN_eq,Nat.add_zero,hsm,firstK,hgetK_eq,hk,lcut_th,hco,llen_eq,List.length_nil,Nat.zero_add,Nat.zero_mul,Nat.beq_refl,lsc,Bool.and_self,growK,lapp_eq,List.append_nil,dropK_E,newK_E,p2]
 rfl
end Go.Aw
namespace Go.Proofs.Ytfjcfjfgamajkaa
open Go Go.Ai Go.Aw Go.Proofs
open Nat renaming reduceBEq -> uB,reduceEqDiff -> uE,reduceLT -> uL,reduceAdd -> uA,reduceMul -> uM,reduceSub -> uS,reduceAnd -> uN,reduceXor -> uX,reduceOr -> uO
open Int renaming reduceMod -> vR,reduceDiv -> vD,reduceLT -> vL,reduceLE -> vK,reduceEq -> vE,reduceAdd -> vA,reduceMul -> vM,reduceToNat -> vT,reduceSub -> vS
set_option linter.unusedSimpArgs false
set_option linter.unusedVariables false
set_option maxRecDepth 10000
def RL (h : Heap) (v : AV) (l : Img) : Prop := (l = [] /\ v = .nilslice) \/ ∃ (K o i : Nat) (C : List AV),l ≠ [] /\ v = .eslice K o i l.length /\ K < h.next /\ h.get K = some (.cells C 65 false) /\ cutE o (l.length * 65) C = some (logC l)
theorem RL.ok {h : Heap} {v : AV} {l : Img} (x : RL h v l) : okv v = some v /\ AV.same v v = true := by
 rcases x with ⟨_,rfl⟩ | ⟨K,o,i,C,_,rfl,_⟩
 ·exact ⟨rfl,rfl⟩
 ·exact ⟨rfl,same_eslice ..⟩
theorem joined_ok (d : Nat) (h : Heap) (a b : AV) (x y : Img) (hx : RL h a x) (hy : RL h b y) (ox : Img.ok x) (oy : Img.ok y) (hn : x.length + y.length < 4096) :
  G (callD env (d + 1) 134 [a,b] h) fun v h' => Keeps h h' /\ ((x ++ y = [] /\ v = .nilslice) \/ x ++ y ≠ [] /\ ∃ K,v = .eslice K 0 0 (x ++ y).length /\ h.next <= K /\ K < h'.next /\ h'.get K = some (.cells (logC (x ++ y)) 65 false)) := by
 refine G.gen fun Q hX => ?_
 have fin : ∀ u h1 v h2,appE Try.prog 162 .nilslice a h = some (u,h1) -> (okv u = some u /\ AV.same u u = true) -> appE Try.prog 162 u b h1 = some (v,h2) -> (okv v = some v /\ AV.same v v = true) -> Q v h2 -> G (callD env (d + 1) 134 [a,b] h) Q := by
  intro u h1 v h2 e1 o1 e2 o2 hQ
  exact joined_go d h a b hx.ok.1 hy.ok.1 Q (fun u' v' h1' h2' q1 _ q3 _ => by
   rw [e1] at q1; cases q1
   rw [e2] at q3; cases q3
   exact hQ) ⟨u,h1,v,h2,e1,o1.1,o1.2,e2,o2.1,o2.2⟩
 have llx := logC_len ox
 have lly := logC_len oy
 have sc : ∀ l : Img,allSc (logC l) = true := fun l => by
  induction l with
  | nil => rfl
  | cons z r ih =>
   rw [<- List.singleton_append,logC_app,logC_one]
   have h1 := wrC_sc z.1 z.2
   simp only [allSc,List.all_append] at h1 ih ⊢
   rw [h1,ih]; rfl
 subst hX
 rcases hx with ⟨rfl,rfl⟩ | ⟨K,o,i,C,h0,rfl,h1,h2,h3⟩
 ·rcases hy with ⟨rfl,rfl⟩ | ⟨K2,o2,i2,C2,g0,rfl,g1,g2,g3⟩
  ·exact fin _ _ _ _ (app_nn el162 h) ⟨rfl,rfl⟩ (app_nn el162 h) ⟨rfl,rfl⟩ ⟨.refl _, .inl ⟨rfl,rfl⟩⟩
  ·obtain ⟨m,hm⟩ : ∃ m,y.length = m + 1 := ⟨y.length - 1,by have := List.length_pos_iff.2 g0; omega⟩
   rw [hm] at g3 lly hn ⊢ fin
   refine fin _ _ _ _ (app_nn el162 h) ⟨rfl,rfl⟩ (app_nilE el162 (by simpa using hn) g2 g3 lly (sc y)) ⟨rfl,same_eslice ..⟩ ⟨⟨Nat.le_succ _,fun j hj => new_ne _ _ (by omega)⟩, .inr ⟨by simp [g0],h.next,by simp [hm],Nat.le_refl _,Nat.lt_succ_self _,new_same _ _⟩⟩
 ·obtain ⟨n,hn1⟩ : ∃ n,x.length = n + 1 := ⟨x.length - 1,by have := List.length_pos_iff.2 h0; omega⟩
  rw [hn1] at h3 llx hn ⊢ fin
  have e1 := app_nilE (ix := i) el162 (by omega) h2 h3 llx (sc x)
  have gu : (h.new (.cells (logC x) (64 + 1) false)).get h.next = some (.cells (logC x ++ []) (64 + 1) false) := by rw [new_same,List.append_nil]
  rcases hy with ⟨rfl,rfl⟩ | ⟨K2,o2,i2,C2,g0,rfl,g1,g2,g3⟩
  ·refine fin _ _ _ _ e1 ⟨rfl,same_eslice ..⟩ (app_e0 el162 gu llx (by omega)) ⟨rfl,same_eslice ..⟩ ⟨⟨by simp (disch := first | omega | (simp only [SD.down,uA,uL] <;> omega) | fail) only [TQ.down,resE,oneV, ↓reduceIte,reduceCtorEq,uB,uE,uL,uA,uM,uS,vL,vK,vE,vA,vS]; omega,fun j hj => by simp (disch := first | omega | (simp only [SD.down,uA,uL] <;> omega) | fail) only [TQ.down,resE,oneV, ↓reduceIte,reduceCtorEq,uB,uE,uL,uA,uM,uS,vL,vK,vE,vA,vS]⟩, .inr ⟨by simp [h0],h.next + 1,by simp [hn1,Heap.new],by omega,by simp (disch := first | omega | (simp only [SD.down,uA,uL] <;> omega) | fail) only [TQ.down,resE,oneV, ↓reduceIte,reduceCtorEq,uB,uE,uL,uA,uM,uS,vL,vK,vE,vA,vS]; omega,by rw [List.append_nil]; simp (disch := first | omega | (simp only [SD.down,uA,uL] <;> omega) | fail) only [TQ.down,resE,oneV, ↓reduceIte,reduceCtorEq,uB,uE,uL,uA,uM,uS,vL,vK,vE,vA,vS]⟩⟩
  ·obtain ⟨m,hm⟩ : ∃ m,y.length = m + 1 := ⟨y.length - 1,by have := List.length_pos_iff.2 g0; omega⟩
   rw [hm] at g3 lly hn ⊢ fin
   refine fin _ _ _ _ e1 ⟨rfl,same_eslice ..⟩ (app_ee el162 gu llx (by omega) (by rw [new_ne _ _ (by omega)]; exact g2) g3 lly (sc y)) ⟨rfl,same_eslice ..⟩ ⟨⟨by simp (disch := first | omega | (simp only [SD.down,uA,uL] <;> omega) | fail) only [TQ.down,resE,oneV, ↓reduceIte,reduceCtorEq,uB,uE,uL,uA,uM,uS,vL,vK,vE,vA,vS]; omega,fun j hj => by simp (disch := first | omega | (simp only [SD.down,uA,uL] <;> omega) | fail) only [TQ.down,resE,oneV, ↓reduceIte,reduceCtorEq,uB,uE,uL,uA,uM,uS,vL,vK,vE,vA,vS]⟩, .inr ⟨by simp [h0],h.next + 1,by simp [hn1,hm,Heap.new],by omega,by simp (disch := first | omega | (simp only [SD.down,uA,uL] <;> omega) | fail) only [TQ.down,resE,oneV, ↓reduceIte,reduceCtorEq,uB,uE,uL,uA,uM,uS,vL,vK,vE,vA,vS]; omega,by rw [logC_app]; simp (disch := first | omega | (simp only [SD.down,uA,uL] <;> omega) | fail) only [TQ.down,resE,oneV, ↓reduceIte,reduceCtorEq,uB,uE,uL,uA,uM,uS,vL,vK,vE,vA,vS]⟩⟩
theorem lnn162 : lenE Try.prog 162 .nilslice = some (.int .i64 0) := len_nilslice Try.underlying162
def RW (h : Heap) (v : AV) (l : Img) : Prop := (l = [] /\ v = .nilslice) \/ ∃ K junk,v = .eslice K 0 0 l.length /\ K < h.next /\ h.get K = some (.cells (logC l ++ junk) 65 false)
theorem RW.ok {h : Heap} {v : AV} {l : Img} (x : RW h v l) : okv v = some v /\ AV.same v v = true := by
 rcases x with ⟨_,rfl⟩ | ⟨K,junk,rfl,_⟩
 ·exact ⟨rfl,rfl⟩
 ·exact ⟨rfl,same_eslice ..⟩
theorem RW.len {h : Heap} {v : AV} {l : Img} (x : RW h v l) : lenE Try.prog 162 v = some (.int .i64 (l.length : Int)) := by
 rcases x with ⟨rfl,rfl⟩ | ⟨K,junk,rfl,_⟩
 ·exact lnn162
 ·exact lne162 ..
theorem RW.keep {h h' : Heap} {v : AV} {l : Img} (x : RW h v l) (k : Keeps h h') : RW h' v l := by
 rcases x with x | ⟨K,junk,rfl,h1,h2⟩
 ·exact .inl x
 ·exact .inr ⟨K,junk,rfl,Nat.lt_of_lt_of_le h1 k.1,(k.2 _ h1).trans h2⟩
theorem find_nil (d : Nat) (h : Heap) (i : Int) :
  G (callD env (d + 3) 110 [.nilslice, .int .i64 i] h) fun v h' => v = .tup [.agg (B zz), .bool false] /\ Keeps h h' := by
 refine G.gen fun Q hX => ?_
 have hzl := zz_len
 have hw : wrapA .i64 ((0 : Int) - 1) = -1 := rfl
 rw [callD_run (E := env) [] (by kernel_rfl) Try.func110 rfl (by rw [Try.ntmps110]; simp) (by kernel_rfl)]; simp (disch := first | omega | (simp only [SD.down,uA,uL] <;> omega) | fail) only [Try.ntmps110,Try.results110,env_P,env_L,lnn162,lncR,lnoR,zz_fold,hw,TQ.down,resE,oneV, ↓reduceIte,reduceCtorEq,uB,uE,uL,uA,uM,uS,vL,vK,vE,vA,vS]
 rw [run_loop]
 refine loop_ind (fun j σ hh => σ 4 = .ptr h.next 0 /\ σ 6 = .int .i64 (-1) /\ hh = h.new (Blk.cells (B zz) 0 false)) ?_ ?_ 0 _ _ _ (by simp) ?_
 ·rintro mm σ hh ⟨s4,s6,rfl⟩
  simp (disch := first | omega | (simp only [SD.down,uA,uL] <;> omega) | fail) only [run_it,s4,s6,zz_fold,bz25,hzl,cutB_all,over_B,env_P,env_L,TQ.down,resE,oneV, ↓reduceIte,reduceCtorEq,uB,uE,uL,uA,uM,uS,vL,vK,vE,vA,vS]
  subst hX
  exact G.ok ⟨rfl,⟨by simp (disch := omega) only [TH.down,uA,uB]; omega,fun j hj => by simp (disch := omega) only [TH.down,uA,uB]⟩⟩
 ·rintro j mm σ hh ⟨s4,s6,rfl⟩ ih
  simp (disch := first | omega | (simp only [SD.down,uA,uL] <;> omega) | fail) only [run_it,s4,s6,zz_fold,bz25,hzl,cutB_all,over_B,env_P,env_L,TQ.down,resE,oneV, ↓reduceIte,reduceCtorEq,uB,uE,uL,uA,uM,uS,vL,vK,vE,vA,vS]
  subst hX
  exact G.ok ⟨rfl,⟨by simp (disch := omega) only [TH.down,uA,uB]; omega,fun j hj => by simp (disch := omega) only [TH.down,uA,uB]⟩⟩
 ·exact ⟨by simp (disch := omega) only [TH.down,uA,uB],by simp (disch := omega) only [TH.down,uA,uB]; rfl,rfl⟩
theorem find_RW (d : Nat) (h : Heap) (v : AV) (i : Int) (l : Img) (hl : Img.ok l) (hn : l.length < 4000) (x : RW h v l) :
  G (callD env (d + 3) 110 [v, .int .i64 i] h) fun u h' => u = .tup [.agg (B ((rFind l i).getD zz)), .bool (rFind l i).isSome] /\ Keeps h h' := by
 rcases x with ⟨rfl,rfl⟩ | ⟨K,junk,rfl,h1,h2⟩
 ·exact find_nil d h i
 ·exact find_ok d h K i l junk hl hn h2 h1
theorem in109 (d : Nat) (h : Heap) (a0 a1 : AV) : callD env (d + 1) 109 [a0,a1] h = run ⟨env.P,callD env d,env.L,Try.f109.ntmps,[],Try.f109.results.toList⟩ [.code (match Try.f109.body with | some c => c | none => .skip)] (argS [a0,a1]) h :=
 callD_run (E := env) [] (by kernel_rfl) Try.func109 rfl (by rw [Try.ntmps109]; simp) (by kernel_rfl)
def refG (n : Nat) (dv lv mv : AV) (f hu : Bool) : List AV := [.int .i64 (n : Int),dv,lv,mv, .bool f, .bool hu]
def rSeen (dur lg : Img) (i : Int) : List Nat := match rFind lg i with | some s => s | none => (rFind dur i).getD zz
theorem r_look (d : Nat) (h : Heap) (m n : Nat) (dv lv mv : AV) (f hu : Bool) (dur : Img) (i : Int) (hm : h.get m = some (.cells (refG n dv lv mv f hu) 0 false)) (hl : Img.ok dur) (hn : dur.length < 4000) (x : RW h dv dur) (hml : m < h.next) :
  G (callD env (d + 4) 89 [.ptr m 0, .int .i64 i] h) fun u h' => u = (if i < 0 \/ (n : Int) <= i then AV.tup [.agg (B zz), .int .i64 2] else .tup [.agg (B ((rFind dur i).getD zz)), .int .i64 0]) /\ Keeps h h' := by
 refine G.gen fun Q hX => ?_
 unfold refG at hm
 have hzl := zz_len
 by_cases h0 : i < 0
 ·have d0 : decide (0 <= i) = false := decide_eq_false (by omega)
  rw [if_pos (.inl h0)] at hX
  rw [callD_run (E := env) [] (by kernel_rfl) Try.func89 rfl (by rw [Try.ntmps89]; simp) (by kernel_rfl)]; simp (disch := first | omega | (simp only [SD.down,uA,uL] <;> omega) | fail) only [Try.ntmps89,Try.results89,env_P,env_L,hm,in109,Try.f109,d0,bz25,zz_fold,hzl,cutB_all,over_B,TQ.down,resE,oneV, ↓reduceIte,reduceCtorEq,uB,uE,uL,uA,uM,uS,vL,vK,vE,vA,vS]
  subst hX
  exact G.ok ⟨rfl,⟨by simp (disch := omega) only [TH.down,uA,uB]; omega,fun j hj => by simp (disch := omega) only [TH.down,uA,uB]⟩⟩
 have d0 : decide (0 <= i) = true := decide_eq_true (by omega)
 by_cases h1 : (n : Int) <= i
 ·have d1 : decide (i < (n : Int)) = false := decide_eq_false (by omega)
  rw [if_pos (.inr h1)] at hX
  rw [callD_run (E := env) [] (by kernel_rfl) Try.func89 rfl (by rw [Try.ntmps89]; simp) (by kernel_rfl)]; simp (disch := first | omega | (simp only [SD.down,uA,uL] <;> omega) | fail) only [Try.ntmps89,Try.results89,env_P,env_L,hm,in109,Try.f109,d0,d1,bz25,zz_fold,hzl,cutB_all,over_B,TQ.down,resE,oneV, ↓reduceIte,reduceCtorEq,uB,uE,uL,uA,uM,uS,vL,vK,vE,vA,vS]
  subst hX
  exact G.ok ⟨rfl,⟨by simp (disch := omega) only [TH.down,uA,uB]; omega,fun j hj => by simp (disch := omega) only [TH.down,uA,uB]⟩⟩
 have d1 : decide (i < (n : Int)) = true := decide_eq_true (by omega)
 rw [if_neg (by omega)] at hX
 rw [callD_run (E := env) [] (by kernel_rfl) Try.func89 rfl (by rw [Try.ntmps89]; simp) (by kernel_rfl)]; simp (disch := first | omega | (simp only [SD.down,uA,uL] <;> omega) | fail) only [Try.ntmps89,Try.results89,env_P,env_L,hm,in109,Try.f109,d0,d1,bz25,zz_fold,hzl,cutB_all,over_B,x.ok.1,x.ok.2,TQ.down,resE,oneV, ↓reduceIte,reduceCtorEq,uB,uE,uL,uA,uM,uS,vL,vK,vE,vA,vS]
 have kp : Keeps h (h.new (Blk.cells (B zz) 0 false)) := ⟨by simp (disch := omega) only [TH.down,uA,uB]; omega,fun j hj => by simp (disch := omega) only [TH.down,uA,uB]⟩
 have g0 : (h.new (Blk.cells (B zz) 0 false)).get h.next = some (.cells (B zz) 0 false) := by simp (disch := omega) only [TH.down,uA,uB]
 have gn : (h.new (Blk.cells (B zz) 0 false)).next = h.next + 1 := by simp (disch := omega) only [TH.down,uA,uB]
 generalize (h.new (Blk.cells (B zz) 0 false)) = H at kp g0 gn ⊢
 have hfl : ((rFind dur i).getD zz).length = 64 := by
  have : ∀ l : Img,Img.ok l -> ((rFind l i).getD zz).length = 64 := by
   intro l
   induction l with
   | nil => intro _; exact zz_len
   | cons y r ih =>
    intro h
    have ih := ih fun z hz => h z (List.mem_cons_of_mem _ hz)
    rw [rFind]
    cases hr : rFind r i with
    | some s => rw [hr] at ih; exact ih
    | none =>
     simp only
     split
     ·exact h y (by simp)
     ·exact zz_len
  exact this dur hl
 refine G.call (find_RW d H dv i dur hl hn (x.keep kp)) ?_
 rintro v h2 ⟨rfl,k2⟩
 have n2 := k2.1
 have g2 := (k2.2 h.next (by omega)).trans g0
 simp (disch := first | omega | (simp only [SD.down,uA,uL] <;> omega) | fail) only [g2,hfl,hzl,zz_fold,cutB_all,over_B,TQ.down,resE,oneV, ↓reduceIte,reduceCtorEq,uB,uE,uL,uA,uM,uS,vL,vK,vE,vA,vS]
 subst hX
 exact G.ok ⟨rfl,⟨by simp (maxSteps := 2000000) (implicitDefEqProofs := false) (disch := first | omega | (simp only [SD.down,uA,uL] <;> omega) | fail) only [TQ.down,resE,oneV, ↓reduceIte,reduceCtorEq,uB,uE,uL,uA,uM,uS,uN,uX,uO,vR,vD,vL,vK,vE,vA,vM,vT,vS]; omega,fun j hj => by simp (maxSteps := 2000000) (implicitDefEqProofs := false) (disch := first | omega | (simp only [SD.down,uA,uL] <;> omega) | fail) only [TQ.down,resE,oneV, ↓reduceIte,reduceCtorEq,uB,uE,uL,uA,uM,uS,uN,uX,uO,vR,vD,vL,vK,vE,vA,vM,vT,vS]; exact ((k2.trans (.refl _)).2 j (by omega)).trans (kp.2 j hj)⟩⟩
end Go.Proofs.Ytfjcfjfgamajkaa
