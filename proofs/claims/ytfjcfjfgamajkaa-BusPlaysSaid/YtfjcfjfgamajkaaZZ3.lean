/- Of this program, for all inputs: contracts. No condition but those in the theorems. -/
import Derived.Test.YtfjcfjfgamajkaaZZ2
namespace Go.Proofs.Ytfjcfjfgamajkaa
open Go Go.Ai Go.Aw Go.Proofs
open Nat renaming reduceBEq -> uB,reduceEqDiff -> uE,reduceLT -> uL,reduceAdd -> uA,reduceMul -> uM,reduceSub -> uS,reduceAnd -> uN,reduceXor -> uX,reduceOr -> uO
open Int renaming reduceMod -> vR,reduceDiv -> vD,reduceLT -> vL,reduceLE -> vK,reduceEq -> vE,reduceAdd -> vA,reduceMul -> vM,reduceToNat -> vT,reduceSub -> vS
set_option linter.unusedSimpArgs false
set_option linter.unusedVariables false
set_option maxRecDepth 10000
theorem in103 (d : Nat) (h : Heap) (a0 a1 : AV) : callD env (d + 1) 103 [a0,a1] h = run ⟨env.P,callD env d,env.L,Try.f103.ntmps,[],Try.f103.results.toList⟩ [.code (match Try.f103.body with | some c => c | none => .skip)] (argS [a0,a1]) h :=
 callD_run (E := env) [] (by kernel_rfl) Try.func103 rfl (by rw [Try.ntmps103]; simp) (by kernel_rfl)
theorem el13e : Elem Try.prog 99 103 67 ((Try.prog.info? 103).getD default) ((((Try.prog.info? 103).getD default).zero).getD default) := ⟨Try.underlying99,by kernel_rfl,by kernel_rfl,by kernel_rfl,by kernel_rfl,by decide +kernel⟩
theorem ap13e (call : CallK) (ρ : Operand -> AV) (dd : Option Tmp) (t : TypeId) (p : String) (a : Array Edge) (g : Option (Nat × Bool)) (h : Heap) (s x : Operand) : opE Try.prog call ρ ⟨dd, .call ⟨.builtin .append,#[s,x],#[99,99]⟩,t,p,a,g⟩ h = th (okv (ρ s)) fun u => th (okv (ρ x)) fun v => appE Try.prog 99 u v h := opE_append Try.underlying99 s x
theorem bs13e (t : Ent) (ht : t.x.length = 64) (h : Heap) : bsE Try.prog 99 1 [(0, .agg (entG t))] h = some (.slice h.next 0 1 1,h.new (.cells (entG t) 0 false)) := bs_one Try.underlying99 (s := 67) (by kernel_rfl) (z := ((zeroE Try.prog 103).getD .nilptr)) (by kernel_rfl) (by kernel_rfl) (by kernel_rfl) (entG_len t ht) (entG_sc t) h
theorem app13e {t : Ent} (ht : t.x.length = 64) {h : Heap} {c : Col} {kr : Nat} {lgv : AV} {k : Nat} {l : List Ent} (hl : ∀ u ∈ l,u.x.length = 64) (hn : l.length < 4000) (hL : RLog h c kr lgv l) (hk : h.get k = some (.cells (entG t) 0 false)) :
  ∃ h',appE Try.prog 99 lgv (.slice k 0 1 1) h = some (.eslice h.next 0 0 (l.length + 1),h') /\ h'.next = h.next + 1 /\ h'.get h.next = some (.cells (blogC (l ++ [t])) 68 false) /\ ∀ j,j < h.next -> (c j ≠ kr \/ (∀ q,h.get j ≠ some (.cells q 68 false))) -> h'.get j = h.get j := by
 have e : blogC (l ++ [t]) = blogC l ++ entG t := by simp [blogC]
 rcases hL with ⟨rfl,rfl⟩ | ⟨L,hne,rfl,hLn,hLc,hg⟩
 ·refine ⟨_,app_nil el13e hk (entG_cut t ht) (entG_len t ht) (entG_sc t),by simp, ?_,fun j hj _ => ?_⟩
  ·rw [e]; simp (disch := omega) only [TH.down,uA,uB]; rfl
  ·simp (disch := omega) only [TH.down,uA,uB]
 ·refine ⟨_,app_es el13e hg (blogC_len hl) (by omega) hk (entG_cut t ht) (entG_len t ht) (entG_sc t),by simp (disch := omega) only [TH.down,uA,uB], ?_,fun j hj hj2 => ?_⟩
  ·rw [e]; simp (disch := first | omega | (simp only [SD.down,uA,uL] <;> omega) | fail) only [TQ.down,resE,oneV, ↓reduceIte,reduceCtorEq,uB,uE,uL,uA,uM,uS,vL,vK,vE,vA,vS]
  ·have : j ≠ L := by
    rintro rfl
    rcases hj2 with q | q
    ·exact q hLc
    ·exact q _ hg
   simp (disch := first | omega | (simp only [SD.down,uA,uL] <;> omega) | fail) only [TQ.down,resE,oneV, ↓reduceIte,reduceCtorEq,uB,uE,uL,uA,uM,uS,vL,vK,vE,vA,vS]
theorem RCellI.mono {h : Heap} {c : Col} {k cx N M : Nat} {x : Nat × List Nat} (I : RCellI h c k cx N x) (hN : N <= M) : RCellI h c k cx M x := by
 obtain ⟨lv,L,l,l1,c1,g1,hh,cK,hl,hl2⟩ := I
 exact ⟨lv,L,l,l1,c1,g1,hh,cK,Nat.le_trans hl hN,hl2⟩
theorem RefB.logged {h h' : Heap} {c c' : Col} {kr ρ Ms cx L : Nat} {stv : AV} {ps : List Nat} {b : RB} {t : Ent} (hr : 10 <= kr) (l1 : ρ < h.next) (c1 : c ρ = kr) (l2 : Ms < h.next) (c2 : c Ms = 0) (g2 : h.get Ms = some (.cells (ps.map (AV.ptr · 0)) 1 false)) (pl : ps.length = b.ms.length)
  (mm : ∀ (i p : Nat) (R : RS),ps[i]? = some p -> b.ms[i]? = some R -> RefM h c (kr + 2 + i) p R) (ce : RCellI h c (kr + 1) cx (b.log.length + 2) b.cell) (st : RSt h c stv b.steps)
  (f : Fr (· = kr) c h h') (e : ∀ j,j < h.next -> c' j = c j) (hL : L < h'.next) (cL : c' L = kr) (gL : h'.get L = some (.cells (blogC (b.log ++ [t])) 68 false)) (gρ : h'.get ρ = some (.cells [.eslice Ms 0 0 b.ms.length, .ptr cx 0,stv, .bool b.off, .eslice L 0 0 (b.log.length + 1)] 0 false)) :
  RefB h' c' kr ρ ps { b with log := b.log ++ [t] } :=
 ⟨Ms,cx,stv, .eslice L 0 0 (b.log.length + 1),Nat.lt_of_lt_of_le l1 f.le,(e _ l1).trans c1,Nat.lt_of_lt_of_le l2 f.le,(e _ l2).trans c2,gρ,(f.get Ms l2 (by omega)).trans g2,pl,fun i p R hp hR => (mm i p R hp hR).fr f (by omega) (by omega) e,by
  have := ce.fr (K := (· = kr)) f (by omega) e
  simpa using this,st.fr f (by omega) e, .inr ⟨L,by simp,by simp,hL,cL,gL⟩⟩
theorem RB.log_wf {b : RB} {N : Nat} (w : b.wf N) (t : Ent) (ht : t.x.length = 64) (hl : b.log.length < 2999) : ({ b with log := b.log ++ [t] } : RB).wf N := ⟨w.ms,w.msl,w.N,w.cell,w.cellm,w.stl,w.st,by simp; omega,fun u hu => by
 rcases List.mem_append.1 hu with q | q
 ·exact w.log u q
 ·simp at q; subst q; exact ht⟩
def RefBX (h : Heap) (c : Col) (kr ρ : Nat) (ps : List Nat) (b : RB) : Prop := ∃ (Ms cx : Nat) (stv lgv : AV),
 ρ < h.next /\ c ρ = kr /\ Ms < h.next /\ c Ms = 0 /\ h.get ρ = some (.cells [.eslice Ms 0 0 b.ms.length, .ptr cx 0,stv, .bool b.off,lgv] 0 false) /\ h.get Ms = some (.cells (ps.map (AV.ptr · 0)) 1 false) /\ ps.length = b.ms.length /\
 (∀ (i p : Nat) (R : RS),ps[i]? = some p -> b.ms[i]? = some R -> RefM h c (kr + 2 + i) p R) /\ RCellI h c (kr + 1) cx (b.log.length + 2) b.cell /\ RSt h c stv b.steps /\ RLog h c kr lgv b.log
theorem RefB.x {h : Heap} {c : Col} {kr ρ : Nat} {ps : List Nat} {b : RB} (I : RefB h c kr ρ ps b) : RefBX h c kr ρ ps b := by
 obtain ⟨Ms,cx,stv,lgv,l1,c1,l2,c2,g1,g2,pl,mm,ce,st,lg⟩ := I
 exact ⟨Ms,cx,stv,lgv,l1,c1,l2,c2,g1,g2,pl,mm,ce.mono (by omega),st,lg⟩
theorem RefBX.fr {K : Nat -> Prop} {h h' : Heap} {c c' : Col} {kr ρ : Nat} {ps : List Nat} {b : RB} (I : RefBX h c kr ρ ps b) (ml : b.ms.length <= 64) (f : Fr K c h h') (h0 : ¬ K 0) (hk : ∀ n,refK kr n -> ¬ K n) (e : ∀ j,j < h.next -> c' j = c j) : RefBX h' c' kr ρ ps b := by
 obtain ⟨Ms,cx,stv,lgv,l1,c1,l2,c2,g1,g2,pl,mm,ce,st,lg⟩ := I
 refine ⟨Ms,cx,stv,lgv,Nat.lt_of_lt_of_le l1 f.le,(e _ l1).trans c1,Nat.lt_of_lt_of_le l2 f.le,(e _ l2).trans c2,(f.get ρ l1 (by rw [c1]; exact hk _ ⟨by omega,by omega⟩)).trans g1,(f.get Ms l2 (by rw [c2]; exact h0)).trans g2,pl,fun i p R hp hR => (mm i p R hp hR).fr f (hk _ ⟨by omega, ?_⟩) h0 e,ce.fr f (hk _ ⟨by omega,by omega⟩) e,st.fr f h0 e,lg.fr f (hk _ ⟨by omega,by omega⟩) e⟩
 have := (List.getElem?_eq_some_iff.1 hR).1
 omega
theorem log_tail {HX : Heap} {C : Col} {kr ρ : Nat} {ps : List Nat} {b : RB} {t : Ent} {A X stv lgv : AV} {off : Bool} {N : Nat} (hr : 10 <= kr) (I : RefBX HX C kr ρ ps b) (w : b.wf N) (ht : t.x.length = 64) (g : HX.get ρ = some (.cells [A,X,stv, .bool off,lgv] 0 false)) (hC : ∀ j,HX.next <= j -> C j = 0) :
  okv lgv = some lgv /\ AV.same lgv lgv = true /\ ∃ H4,appE Try.prog 99 lgv (.slice HX.next 0 1 1) (HX.new (.cells (entG t) 0 false)) = some (.eslice (HX.next + 1) 0 0 (b.log.length + 1),H4) /\ H4.next = HX.next + 2 /\ H4.get ρ = some (.cells [A,X,stv, .bool off,lgv] 0 false) /\ (∀ j,j < HX.next -> C j ≠ kr -> H4.get j = HX.get j) /\
   RefB (H4.put ρ (some (.cells [A,X,stv, .bool off, .eslice (HX.next + 1) 0 0 (b.log.length + 1)] 0 false))) (pnt C (HX.next + 1) kr) kr ρ ps { b with log := b.log ++ [t] } /\ Fr (· = kr) C HX (H4.put ρ (some (.cells [A,X,stv, .bool off, .eslice (HX.next + 1) 0 0 (b.log.length + 1)] 0 false))) /\ (H4.put ρ (some (.cells [A,X,stv, .bool off, .eslice (HX.next + 1) 0 0 (b.log.length + 1)] 0 false))).next = HX.next + 2 := by
 obtain ⟨Ms,cx,stv2,lgv2,l1,c1,l2,c2,g1,g2,pl,mm,ce,st,lg⟩ := I
 rw [g] at g1
 cases g1
 obtain ⟨lok,lsm,llen⟩ := lg.ok
 have kn : Keeps HX (HX.new (.cells (entG t) 0 false)) := ⟨Nat.le_succ _,fun j hj => new_ne _ _ (by omega)⟩
 have lg2 := lg.fr (K := fun _ => False) (.of kn) id (fun _ _ => rfl)
 obtain ⟨H4,ea,n4,g4,f4⟩ := app13e ht w.log (by have := w.logl; omega) lg2 (new_same HX (.cells (entG t) 0 false))
 have en : (HX.new (.cells (entG t) 0 false)).next = HX.next + 1 := rfl
 rw [en] at ea n4 g4 f4
 have gρ : H4.get ρ = some (.cells [.eslice Ms 0 0 b.ms.length, .ptr cx 0,stv, .bool b.off,lgv] 0 false) := by
  have hq : ∀ q,(HX.new (.cells (entG t) 0 false)).get ρ ≠ some (.cells q 68 false) := fun q hq => by
   rw [kn.2 ρ l1,g] at hq
   have := congrArg (fun z => match z with | some (Blk.cells _ e _) => e | _ => 0) hq
   simp at this
  rw [f4 ρ (by omega) (.inr hq),kn.2 ρ l1,g]
 have fk : ∀ j,j < HX.next -> C j ≠ kr -> H4.get j = HX.get j := fun j hj hc => by rw [f4 j (by omega) (.inl hc),kn.2 j hj]
 have pn : (H4.put ρ (some (.cells [.eslice Ms 0 0 b.ms.length, .ptr cx 0,stv, .bool b.off, .eslice (HX.next + 1) 0 0 (b.log.length + 1)] 0 false))).next = HX.next + 2 := by simp (disch := omega) only [TH.down,uA,uB]; exact n4
 have fr : Fr (· = kr) C HX (H4.put ρ (some (.cells [.eslice Ms 0 0 b.ms.length, .ptr cx 0,stv, .bool b.off, .eslice (HX.next + 1) 0 0 (b.log.length + 1)] 0 false))) := ⟨by omega,fun j hj hq => by
  have : j ≠ ρ := fun e => hq (by rw [e,c1])
  simp (disch := omega) only [TH.down,uA,uB]
  exact fk j hj hq⟩
 have gL : (H4.put ρ (some (.cells [.eslice Ms 0 0 b.ms.length, .ptr cx 0,stv, .bool b.off, .eslice (HX.next + 1) 0 0 (b.log.length + 1)] 0 false))).get (HX.next + 1) = some (.cells (blogC (b.log ++ [t])) 68 false) := by simp (disch := omega) only [TH.down,uA,uB]; exact g4
 refine ⟨lok,lsm,H4,ea,n4,gρ,fk, ?_,fr,pn⟩
 exact RefB.logged hr l1 c1 l2 c2 g2 pl mm ce st fr (fun j hj => pnt_lt (by omega)) (by omega) (pnt_ge (Nat.le_refl _)) gL (by simp (disch := omega) only [TH.down,uA,uB])
theorem log_end {h H1 HX H5 H6 : Heap} {c C C5 : Col} {kr ρ : Nat} {ps : List Nat} {b : RB} (hr : 10 <= kr) (ml : b.ms.length <= 64) (hc : ∀ j,j < h.next -> C j = c j) (e5 : ∀ j,j < HX.next -> C5 j = C j) (f2 : Fr (refK kr) c h H1) (fx : Fr (refK kr) C H1 HX) (fl : Fr (· = kr) C HX H5) (n6 : H6.next = H5.next) (g6 : ∀ j,j < H5.next -> (h.next <= j /\ C5 j = 5) \/ H6.get j = H5.get j) (J : RefB H5 C5 kr ρ ps b) : RefB H6 C5 kr ρ ps b /\ Fr (refK kr) c h H6 /\ ∀ j,j < h.next -> C5 j = c j := by
 have n1 := f2.le
 have n2 := fx.le
 have n3 := fl.le
 refine ⟨J.fr (K := (· = 5)) (c' := C5) ml ⟨by omega,fun j hj hq => (g6 j hj).resolve_left fun x => hq x.2⟩ (by omega) (fun n hn e => by have := hn.1; omega) fun _ _ => rfl,⟨by omega,fun j hj hq => ?_⟩,fun j hj => (e5 j (by omega)).trans (hc j hj)⟩
 rw [(g6 j (by omega)).resolve_left (fun x => by omega),fl.get j (by omega) (fun e => hq (by rw [<- hc j hj,e]; exact ⟨by omega,by omega⟩)),fx.get j (by omega) (by rw [hc j hj]; exact hq)]
 exact f2.get j hj hq
theorem eS (k m i e e' : Int) (x : List Nat) (hx : x.length = 64) : (entG ⟨k,m,i,x,e⟩).set 67 (.int .i64 e') = entG ⟨k,m,i,x,e'⟩ := entG_err ⟨k,m,i,x,e⟩ hx e'
theorem eL' (k m i e : Int) (x : List Nat) (hx : x.length = 64) : (entG ⟨k,m,i,x,e⟩).length = 68 := entG_len _ hx
theorem eO (k m i e e' : Int) (x : List Nat) (hx : x.length = 64) : overE 67 [.int .i64 e'] (entG ⟨k,m,i,x,e⟩) = some (entG ⟨k,m,i,x,e'⟩) := by
 rw [overE_one (by rw [eL' k m i e x hx]; omega)]
 rw [isSc_int,scE_true,eS k m i e e' x hx]
theorem eL (k m i e : Int) (x : List Nat) (hx : x.length = 64) : (entG ⟨k,m,i,x,e⟩).length = 68 := entG_len _ hx
theorem eC (k m i e : Int) (x : List Nat) (hx : x.length = 64) : cutE 0 68 (entG ⟨k,m,i,x,e⟩) = some (entG ⟨k,m,i,x,e⟩) := entG_cut _ hx
theorem eZ (k m i e : Int) (x : List Nat) (hx : x.length = 64) : overE 0 (entG ⟨k,m,i,x,e⟩) entZ = some (entG ⟨k,m,i,x,e⟩) := entG_overZ _ hx
theorem e67 (k m i e : Int) (x : List Nat) (hx : x.length = 64) : (entG ⟨k,m,i,x,e⟩)[67]? = some (.int .i64 e) := entG_67 _ hx
theorem eD (k m i e : Int) (x : List Nat) (hx : x.length = 64) : cutE 3 64 (entG ⟨k,m,i,x,e⟩) = some (B x) := entG_d _ hx
theorem eX (k m i e : Int) (x y : List Nat) (hx : x.length = 64) (hy : y.length = 64) : overE 3 (B y) (entG ⟨k,m,i,x,e⟩) = some (entG ⟨k,m,i,y,e⟩) := entG_data ⟨k,m,i,x,e⟩ y hx hy
theorem RB.ioR_off {b : RB} (ho : b.ahead.off = true) (t : Ent) (act : RB -> Int × List Nat × RB) : b.ioR t act = ({ t with e := 13 }, { b.ahead with log := b.log ++ [{ t with e := 13 }] }) := by
 unfold RB.ioR
 rw [if_pos ho]
theorem RB.ioR_on {b : RB} (ho : b.ahead.off = false) (t : Ent) (act : RB -> Int × List Nat × RB) : b.ioR t act = ({ t with x := (act b.ahead).2.1,e := (act b.ahead).1 }, { (act b.ahead).2.2 with log := b.log ++ [{ t with x := (act b.ahead).2.1,e := (act b.ahead).1 }] }) := by
 unfold RB.ioR
 rw [if_neg (by rw [ho]; decide)]
theorem entG_fold2 (k m : Int) : (entZ.set 0 (AV.int IntKind.i64 k)).set 1 (AV.int IntKind.i64 m) = entG ⟨k,m,0,zz,0⟩ := rfl
theorem RB.set_wf {b : RB} {N n : Nat} {R : RS} (w : b.wf N) (wR : R.wf (N + 1)) (hN : N + 1 < 3000) : ({ b with ms := b.ms.set n R } : RB).wf (N + 1) := ⟨fun T hT => by
 rcases List.mem_or_eq_of_mem_set hT with q | q
 ·exact (w.ms T q).mono (by omega)
 ·rw [q]; exact wR,by simpa using w.msl,hN,w.cell,w.cellm,w.stl,w.st,w.logl,w.log⟩
theorem RS.write_wf {R : RS} {N : Nat} (w : R.wf N) (i : Int) {s : List Nat} (hs : s.length = 64) : (R.write i s).1.wf (N + 1) := by
 have hsz := w.sz
 unfold RS.write
 split
 ·refine ⟨w.n0,w.dur,fun x hx => ?_,by simp; omega,w.mkl,fun l hl => ⟨(w.mks l hl).1,Nat.le_trans (w.mks l hl).2 (by omega)⟩⟩
  rcases List.mem_append.1 hx with q | q
  ·exact w.lg x q
  ·simp at q; subst q; exact hs
 ·exact w.mono (by omega)
theorem RS.flush_wf {R : RS} {N : Nat} (w : R.wf N) : R.flush.1.wf (N + 1) := by
 have hsz := w.sz
 unfold RS.flush
 split
 ·exact w.mono (by omega)
 ·exact ⟨w.n0,fun x hx => (List.mem_append.1 hx).elim (w.dur x) (w.lg x),(fun x hx => by cases hx),by simp; omega,w.mkl,fun l hl => ⟨(w.mks l hl).1,Nat.le_trans (w.mks l hl).2 (by omega)⟩⟩
theorem rb_read (d : Nat) (h : Heap) (c : Col) (kr ρ : Nat) (ps : List Nat) (b : RB) (N : Nat) (hr : 10 <= kr) (I : RefB h c kr ρ ps b) (w : b.wf N) (hN : N + cntS b.log.length b.steps < 2990) (hpk : ∀ s ∈ b.steps,s.picks.length <= 140737488351232) (hll : b.log.length < 2990) (m i : Int) :
  G (callD env (d + 8) 87 [.ptr ρ 0, .int .i64 m, .int .i64 i] h) fun v h' => v = .tup [.agg (B (b.read m i).1.x), .int .i64 (b.read m i).1.e] /\ ∃ C',RefB h' C' kr ρ ps (b.read m i).2 /\ (b.read m i).2.wf (N + cntS b.log.length b.steps + 1) /\ (b.read m i).1.x.length = 64 /\ Fr (refK kr) c h h' /\ ∀ j,j < h.next -> C' j = c j := by
 refine G.gen fun Q hX => ?_
 have hz := zz_len
 have ezl := entZ_len
 rw [callD_run (E := env) [(8, .fl [(4,0,1)]),(9, .fl [(3,0,1)])] (by kernel_rfl) Try.func87 rfl (by rw [Try.ntmps87]; simp) (by kernel_rfl)]; simp (disch := first | omega | (simp only [SD.down,uA,uL] <;> omega) | fail) only [Try.ntmps87,Try.results87,env_P,env_L,zz_fold,entZ_fold,entG_fold,hz,ezl,TQ.down,resE,oneV, ↓reduceIte,reduceCtorEq,uB,uE,uL,uA,uM,uS,vL,vK,vE,vA,vS]
 have kp : Keeps h (h.new (Blk.cells (B zz) 0 false)) := ⟨by simp (disch := omega) only [TH.down,uA,uB]; omega,fun j hj => by simp (disch := omega) only [TH.down,uA,uB]⟩
 have gz : (h.new (Blk.cells (B zz) 0 false)).get h.next = some (.cells (B zz) 0 false) := by simp (disch := omega) only [TH.down,uA,uB]
 have gn : (h.new (Blk.cells (B zz) 0 false)).next = h.next + 1 := by simp (disch := omega) only [TH.down,uA,uB]
 have I0 := I.fr (c' := pnt c h.next 5) w.msl (.of (K := fun _ => False) kp) id (fun _ _ => id) pnt_o
 generalize (h.new (Blk.cells (B zz) 0 false)) = H at kp gz gn I0 ⊢
 refine G.call (rb_ahead (d + 1) H (pnt c h.next 5) kr ρ ps b N hr I0 w hN hpk) ?_
 rintro v H1 ⟨rfl,J,wa,f1⟩
 have fl := f1.le
 have f2 : Fr (refK kr) c h H1 := (Fr.of kp).trans f1 pnt_o
 obtain ⟨a1,a2,a3,a4⟩ := aheadRL_same b.log.length b.steps b
 have a3 : b.ahead.log = b.log := a3
 have hC1 : ∀ j,H.next <= j -> pnt (pnt c h.next 5) H.next 0 j = 0 := fun j hj => pnt_ge hj
 have hC0 : ∀ j,j < h.next -> pnt (pnt c h.next 5) H.next 0 j = c j := fun j hj => (pnt_lt (by omega)).trans (pnt_lt hj)
 have hC5 : ∀ j,h.next <= j -> j < H.next -> pnt (pnt c h.next 5) H.next 0 j = 5 := fun j h1 h2 => (pnt_lt h2).trans (pnt_ge h1)
 have gz1 := (f1.get h.next (by omega) (by rw [pnt_ge (Nat.le_refl _)]; exact fun x => by have := x.1; omega)).trans gz
 generalize pnt (pnt c h.next 5) H.next 0 = C at J hC1 hC0 hC5
 have J0 := J
 obtain ⟨Ms,cx,stv,lgv,l1,c1,l2,c2,g1,g2,pl,mm,ce,st,lg⟩ := J
 obtain ⟨lok,lsm,llen⟩ := lg.ok
 have ml : b.ahead.ms.length <= 64 := wa.msl
 have hzρ : h.next ≠ ρ := fun e => by have := hC5 h.next (by omega) (by omega); rw [e,c1] at this; omega
 cases ho : b.ahead.off with
 | true =>
  rw [ho] at g1
  have er : b.read m i = (⟨1,m,i,zz,13⟩, { b.ahead with log := b.ahead.log ++ [⟨1,m,i,zz,13⟩] }) := by
   unfold RB.read; rw [RB.ioR_off ho,a3]
  rw [er] at hX
  simp (disch := first | omega | (simp only [SD.down,uA,uL] <;> omega) | fail) only [zz_fold,entZ_fold,entG_fold,hz,ezl,eO,eL,eC,eZ,e67,eD,eX,in103,Try.f103,lncP,lnoP,lneP,lok,lsm,env_P,env_L,g1,  TQ.down,resE,oneV, ↓reduceIte,reduceCtorEq,uB,uE,uL,uA,uM,uS,vL,vK,vE,vA,vS]
  have kx : Keeps H1 ((H1.new (Blk.cells entZ 0 false)).put H1.next (some (Blk.cells (entG ⟨1,m,i,zz,13⟩) 0 false))) := ⟨by simp (disch := omega) only [TH.down,uA,uB]; omega,fun j hj => by simp (disch := omega) only [TH.down,uA,uB]⟩
  have gx : ((H1.new (Blk.cells entZ 0 false)).put H1.next (some (Blk.cells (entG ⟨1,m,i,zz,13⟩) 0 false))).get H1.next = some (Blk.cells (entG ⟨1,m,i,zz,13⟩) 0 false) := by simp (disch := omega) only [TH.down,uA,uB]
  have nx : ((H1.new (Blk.cells entZ 0 false)).put H1.next (some (Blk.cells (entG ⟨1,m,i,zz,13⟩) 0 false))).next = H1.next + 1 := by simp (disch := omega) only [TH.down,uA,uB]
  generalize ((H1.new (Blk.cells entZ 0 false)).put H1.next (some (Blk.cells (entG ⟨1,m,i,zz,13⟩) 0 false))) = HX at kx gx nx ⊢
  have JX := J0.fr ml (.of (K := fun _ => False) kx) id (fun _ _ => id) fun _ _ => rfl
  have gX1 := (kx.2 ρ l1).trans g1
  have gXz := (kx.2 h.next (by omega)).trans gz1
  obtain ⟨_,_,H4,ea,n4,g4,fk,JL,frL,nL⟩ := log_tail (t := ⟨1,m,i,zz,13⟩) hr JX.x wa hz gX1 (fun j hj => hC1 j (by omega))
  have g4x := (fk H1.next (by omega) (by rw [hC1 _ (by omega)]; omega)).trans gx
  have g4z := (fk h.next (by omega) (by rw [hC5 _ (by omega) (by omega)]; omega)).trans gXz
  simp (disch := first | omega | (simp only [SD.down,uA,uL] <;> omega) | fail) only [bs13e,cls_append,ap13e,ea,g4,g4x,g4z,gX1,gx,hz,zz_fold,cutB_all,over_B,eD,e67,eL,eC,eZ,lok,lsm,env_P,env_L,TQ.down,resE,oneV, ↓reduceIte,reduceCtorEq,uB,uE,uL,uA,uM,uS,vL,vK,vE,vA,vS]
  subst hX
  obtain ⟨e1,e2,e3⟩ := log_end (H6 := ((H4.put ρ (some (Blk.cells [AV.eslice Ms 0 0 b.ahead.ms.length,AV.ptr cx 0,stv,AV.bool true,AV.eslice (HX.next + 1) 0 0 (b.ahead.log.length + 1)] 0 false))).put h.next (some (Blk.cells (B zz) 0 false)))) hr (by exact ml) hC0 (fun j hj => pnt_lt (by omega)) f2 (.of kx) frL (by simp (disch := omega) only [TH.down,uA,uB]) (fun j hj => by
   by_cases e : j = h.next
   ·exact .inl ⟨by omega,by rw [e,pnt_lt (by omega)]; exact hC5 _ (by omega) (by omega)⟩
   ·exact .inr (by simp (disch := omega) only [TH.down,uA,uB])) JL
  exact G.ok ⟨rfl,_,e1,RB.log_wf (wa.mono (by omega) (by omega)) _ hz (by show b.ahead.log.length < _; rw [a3]; omega),hz,e2,e3⟩
 | false =>
  have g1' := g1
  rw [ho] at g1
  by_cases hm0 : m < 0
  ·have dm : decide (m < 0) = true := decide_eq_true hm0
   have er : b.read m i = (⟨1,m,i,zz,2⟩, { b.ahead with log := b.ahead.log ++ [⟨1,m,i,zz,2⟩] }) := by
    unfold RB.read atActR; rw [RB.ioR_on ho,if_pos hm0,a3]
   rw [er] at hX
   simp (disch := first | omega | (simp only [SD.down,uA,uL] <;> omega) | fail) only [zz_fold,entZ_fold,entG_fold,hz,ezl,eO,eL,eC,eZ,e67,eD,eX,in103,Try.f103,lncP,lnoP,lneP,lok,lsm,env_P,env_L,g1,dm,TQ.down,resE,oneV, ↓reduceIte,reduceCtorEq,uB,uE,uL,uA,uM,uS,vL,vK,vE,vA,vS]
   have kx : Keeps H1 ((H1.new (Blk.cells entZ 0 false)).put H1.next (some (Blk.cells (entG ⟨1,m,i,zz,2⟩) 0 false))) := ⟨by simp (disch := omega) only [TH.down,uA,uB]; omega,fun j hj => by simp (disch := omega) only [TH.down,uA,uB]⟩
   have gx : ((H1.new (Blk.cells entZ 0 false)).put H1.next (some (Blk.cells (entG ⟨1,m,i,zz,2⟩) 0 false))).get H1.next = some (Blk.cells (entG ⟨1,m,i,zz,2⟩) 0 false) := by simp (disch := omega) only [TH.down,uA,uB]
   have nx : ((H1.new (Blk.cells entZ 0 false)).put H1.next (some (Blk.cells (entG ⟨1,m,i,zz,2⟩) 0 false))).next = H1.next + 1 := by simp (disch := omega) only [TH.down,uA,uB]
   generalize ((H1.new (Blk.cells entZ 0 false)).put H1.next (some (Blk.cells (entG ⟨1,m,i,zz,2⟩) 0 false))) = HX at kx gx nx ⊢
   have JX := J0.fr ml (.of (K := fun _ => False) kx) id (fun _ _ => id) fun _ _ => rfl
   have gX1 := (kx.2 ρ l1).trans g1
   have gXz := (kx.2 h.next (by omega)).trans gz1
   obtain ⟨_,_,H4,ea,n4,g4,fk,JL,frL,nL⟩ := log_tail (t := ⟨1,m,i,zz,2⟩) hr JX.x wa hz gX1 (fun j hj => hC1 j (by omega))
   have g4x := (fk H1.next (by omega) (by rw [hC1 _ (by omega)]; omega)).trans gx
   have g4z := (fk h.next (by omega) (by rw [hC5 _ (by omega) (by omega)]; omega)).trans gXz
   simp (disch := first | omega | (simp only [SD.down,uA,uL] <;> omega) | fail) only [bs13e,cls_append,ap13e,ea,g4,g4x,g4z,gX1,gx,hz,zz_fold,cutB_all,over_B,eD,e67,eL,eC,eZ,lok,lsm,env_P,env_L,TQ.down,resE,oneV, ↓reduceIte,reduceCtorEq,uB,uE,uL,uA,uM,uS,vL,vK,vE,vA,vS]
   subst hX
   obtain ⟨e1,e2,e3⟩ := log_end (H6 := ((H4.put ρ (some (Blk.cells [AV.eslice Ms 0 0 b.ahead.ms.length,AV.ptr cx 0,stv,AV.bool false,AV.eslice (HX.next + 1) 0 0 (b.ahead.log.length + 1)] 0 false))).put h.next (some (Blk.cells (B zz) 0 false)))) hr (by exact ml) hC0 (fun j hj => pnt_lt (by omega)) f2 (.of kx) frL (by simp (disch := omega) only [TH.down,uA,uB]) (fun j hj => by
    by_cases e : j = h.next
    ·exact .inl ⟨by omega,by rw [e,pnt_lt (by omega)]; exact hC5 _ (by omega) (by omega)⟩
    ·exact .inr (by simp (disch := omega) only [TH.down,uA,uB])) JL
   exact G.ok ⟨rfl,_,e1,RB.log_wf (wa.mono (by omega) (by omega)) _ hz (by show b.ahead.log.length < _; rw [a3]; omega),hz,e2,e3⟩
  have dm : decide (m < 0) = false := decide_eq_false hm0
  obtain ⟨n,rfl⟩ : ∃ n : Nat,m = (n : Int) := ⟨m.toNat,by omega⟩
  by_cases hm1 : b.ahead.ms.length <= n
  ·have dm1 : decide ((b.ahead.ms.length : Int) <= (n : Int)) = true := decide_eq_true (by omega)
   have hnone : b.ahead.ms[n]? = none := List.getElem?_eq_none hm1
   have er : b.read n i = (⟨1,(n : Int),i,zz,2⟩, { b.ahead with log := b.ahead.log ++ [⟨1,(n : Int),i,zz,2⟩] }) := by
    unfold RB.read atActR; rw [RB.ioR_on ho,if_neg hm0,a3]; simp only [Int.toNat_natCast,hnone]
   rw [er] at hX
   simp (disch := first | omega | (simp only [SD.down,uA,uL] <;> omega) | fail) only [zz_fold,entZ_fold,entG_fold,hz,ezl,eO,eL,eC,eZ,e67,eD,eX,in103,Try.f103,lncP,lnoP,lneP,lok,lsm,env_P,env_L,g1,dm,dm1,TQ.down,resE,oneV, ↓reduceIte,reduceCtorEq,uB,uE,uL,uA,uM,uS,vL,vK,vE,vA,vS]
   have kx : Keeps H1 ((H1.new (Blk.cells entZ 0 false)).put H1.next (some (Blk.cells (entG ⟨1,(n : Int),i,zz,2⟩) 0 false))) := ⟨by simp (disch := omega) only [TH.down,uA,uB]; omega,fun j hj => by simp (disch := omega) only [TH.down,uA,uB]⟩
   have gx : ((H1.new (Blk.cells entZ 0 false)).put H1.next (some (Blk.cells (entG ⟨1,(n : Int),i,zz,2⟩) 0 false))).get H1.next = some (Blk.cells (entG ⟨1,(n : Int),i,zz,2⟩) 0 false) := by simp (disch := omega) only [TH.down,uA,uB]
   have nx : ((H1.new (Blk.cells entZ 0 false)).put H1.next (some (Blk.cells (entG ⟨1,(n : Int),i,zz,2⟩) 0 false))).next = H1.next + 1 := by simp (disch := omega) only [TH.down,uA,uB]
   generalize ((H1.new (Blk.cells entZ 0 false)).put H1.next (some (Blk.cells (entG ⟨1,(n : Int),i,zz,2⟩) 0 false))) = HX at kx gx nx ⊢
   have JX := J0.fr ml (.of (K := fun _ => False) kx) id (fun _ _ => id) fun _ _ => rfl
   have gX1 := (kx.2 ρ l1).trans g1
   have gXz := (kx.2 h.next (by omega)).trans gz1
   obtain ⟨_,_,H4,ea,n4,g4,fk,JL,frL,nL⟩ := log_tail (t := ⟨1,(n : Int),i,zz,2⟩) hr JX.x wa hz gX1 (fun j hj => hC1 j (by omega))
   have g4x := (fk H1.next (by omega) (by rw [hC1 _ (by omega)]; omega)).trans gx
   have g4z := (fk h.next (by omega) (by rw [hC5 _ (by omega) (by omega)]; omega)).trans gXz
   simp (disch := first | omega | (simp only [SD.down,uA,uL] <;> omega) | fail) only [bs13e,cls_append,ap13e,ea,g4,g4x,g4z,gX1,gx,hz,zz_fold,cutB_all,over_B,eD,e67,eL,eC,eZ,lok,lsm,env_P,env_L,TQ.down,resE,oneV, ↓reduceIte,reduceCtorEq,uB,uE,uL,uA,uM,uS,vL,vK,vE,vA,vS]
   subst hX
   obtain ⟨e1,e2,e3⟩ := log_end (H6 := ((H4.put ρ (some (Blk.cells [AV.eslice Ms 0 0 b.ahead.ms.length,AV.ptr cx 0,stv,AV.bool false,AV.eslice (HX.next + 1) 0 0 (b.ahead.log.length + 1)] 0 false))).put h.next (some (Blk.cells (B zz) 0 false)))) hr (by exact ml) hC0 (fun j hj => pnt_lt (by omega)) f2 (.of kx) frL (by simp (disch := omega) only [TH.down,uA,uB]) (fun j hj => by
    by_cases e : j = h.next
    ·exact .inl ⟨by omega,by rw [e,pnt_lt (by omega)]; exact hC5 _ (by omega) (by omega)⟩
    ·exact .inr (by simp (disch := omega) only [TH.down,uA,uB])) JL
   exact G.ok ⟨rfl,_,e1,RB.log_wf (wa.mono (by omega) (by omega)) _ hz (by show b.ahead.log.length < _; rw [a3]; omega),hz,e2,e3⟩
  have dm1 : decide ((b.ahead.ms.length : Int) <= (n : Int)) = false := decide_eq_false (by omega)
  have hnl : n < b.ahead.ms.length := by omega
  obtain ⟨R,hR⟩ : ∃ R,b.ahead.ms[n]? = some R := ⟨_,List.getElem?_eq_getElem hnl⟩
  obtain ⟨p,hp⟩ : ∃ p,ps[n]? = some p := ⟨_,List.getElem?_eq_getElem (by omega)⟩
  have hpm : (ps.map (AV.ptr · 0))[n]? = some (.ptr p 0) := by rw [List.getElem?_map,hp]; rfl
  have wR := wa.ms R (List.mem_of_getElem? hR)
  have JM := mm n p R hp hR
  have er : b.read n i = (⟨1,n,i,(R.read i).1,(R.read i).2⟩, { b.ahead with log := b.ahead.log ++ [⟨1,n,i,(R.read i).1,(R.read i).2⟩] }) := by
   have : b.ahead.ms.set n R = b.ahead.ms := List.ext_getElem? fun q => by
    rw [List.getElem?_set]
    by_cases e : n = q
    ·subst e
     rw [if_pos rfl,if_pos hnl,hR]
    ·rw [if_neg e]
   unfold RB.read atActR; rw [RB.ioR_on ho,if_neg hm0,a3]; simp only [Int.toNat_natCast,hR,amReadR,this]
  rw [er] at hX
  have rl := RS.read_len wR i
  simp (disch := first | omega | (simp only [SD.down,uA,uL] <;> omega) | fail) only [zz_fold,entZ_fold,entG_fold,hz,ezl,eO,eL,eC,eZ,e67,eD,eX,in103,Try.f103,lncP,lnoP,lneP,lok,lsm,env_P,env_L,g1,g2,hpm,dm,dm1,TQ.down,resE,oneV, ↓reduceIte,reduceCtorEq,uB,uE,uL,uA,uM,uS,vL,vK,vE,vA,vS]
  have kx : Keeps H1 ((H1.new (Blk.cells entZ 0 false)).put H1.next (some (Blk.cells (entG ⟨1,(n : Int),i,zz,0⟩) 0 false))) := ⟨by simp (disch := omega) only [TH.down,uA,uB]; omega,fun j hj => by simp (disch := omega) only [TH.down,uA,uB]⟩
  have gx : ((H1.new (Blk.cells entZ 0 false)).put H1.next (some (Blk.cells (entG ⟨1,(n : Int),i,zz,0⟩) 0 false))).get H1.next = some (Blk.cells (entG ⟨1,(n : Int),i,zz,0⟩) 0 false) := by simp (disch := omega) only [TH.down,uA,uB]
  have nx : ((H1.new (Blk.cells entZ 0 false)).put H1.next (some (Blk.cells (entG ⟨1,(n : Int),i,zz,0⟩) 0 false))).next = H1.next + 1 := by simp (disch := omega) only [TH.down,uA,uB]
  generalize ((H1.new (Blk.cells entZ 0 false)).put H1.next (some (Blk.cells (entG ⟨1,(n : Int),i,zz,0⟩) 0 false))) = HZ at kx gx nx ⊢
  refine G.call (r_read (d + 2) HZ C (kr + 2 + n) p (N + cntS b.log.length b.steps) R (JM.fr (K := fun _ => False) (.of kx) id id fun _ _ => rfl) wR (by omega) i) ?_
  rintro v H2 ⟨rfl,k2⟩
  generalize hrd : R.read i = rd at rl hX ⊢
  obtain ⟨y,e⟩ := rd
  have rl : y.length = 64 := rl
  have k2n := k2.1
  have gx2 := (k2.2 H1.next (by omega)).trans gx
  have k12 := kx.trans k2
  have g12 := (k12.2 ρ l1).trans g1
  simp (disch := first | omega | (simp only [SD.down,uA,uL] <;> omega) | fail) only [zz_fold,entZ_fold,entG_fold,hz,ezl,eO,eL,eC,eZ,e67,eD,eX,in103,Try.f103,lncP,lnoP,lneP,lok,lsm,env_P,env_L,g12,gx2,rl,cutB_all,over_B,TQ.down,resE,oneV, ↓reduceIte,reduceCtorEq,uB,uE,uL,uA,uM,uS,vL,vK,vE,vA,vS]
  have kX : Keeps H1 (((H2.new (Blk.cells (B zz) 0 false)).put H2.next (some (Blk.cells (B y) 0 false))).put H1.next (some (Blk.cells (entG ⟨1,(n : Int),i,y,e⟩) 0 false))) := ⟨by simp (disch := omega) only [TH.down,uA,uB]; omega,fun j hj => by simp (disch := omega) only [TH.down,uA,uB]; exact k12.2 j hj⟩
  have gX : (((H2.new (Blk.cells (B zz) 0 false)).put H2.next (some (Blk.cells (B y) 0 false))).put H1.next (some (Blk.cells (entG ⟨1,(n : Int),i,y,e⟩) 0 false))).get H1.next = some (Blk.cells (entG ⟨1,(n : Int),i,y,e⟩) 0 false) := by simp (disch := omega) only [TH.down,uA,uB]
  have nX : (((H2.new (Blk.cells (B zz) 0 false)).put H2.next (some (Blk.cells (B y) 0 false))).put H1.next (some (Blk.cells (entG ⟨1,(n : Int),i,y,e⟩) 0 false))).next = H2.next + 1 := by simp (disch := omega) only [TH.down,uA,uB]
  clear gx kx
  generalize (((H2.new (Blk.cells (B zz) 0 false)).put H2.next (some (Blk.cells (B y) 0 false))).put H1.next (some (Blk.cells (entG ⟨1,(n : Int),i,y,e⟩) 0 false))) = HX at kX gX nX ⊢
  have kx := kX
  have gx := gX
  have JX := J0.fr ml (.of (K := fun _ => False) kx) id (fun _ _ => id) fun _ _ => rfl
  have gX1 := (kx.2 ρ l1).trans g1
  have gXz := (kx.2 h.next (by omega)).trans gz1
  obtain ⟨_,_,H4,ea,n4,g4,fk,JL,frL,nL⟩ := log_tail (t := ⟨1,(n : Int),i,y,e⟩) hr JX.x wa rl gX1 (fun j hj => hC1 j (by omega))
  have g4x := (fk H1.next (by omega) (by rw [hC1 _ (by omega)]; omega)).trans gx
  have g4z := (fk h.next (by omega) (by rw [hC5 _ (by omega) (by omega)]; omega)).trans gXz
  simp (disch := first | omega | (simp only [SD.down,uA,uL] <;> omega) | fail) only [bs13e,cls_append,ap13e,ea,g4,g4x,g4z,gX1,gx,hz,zz_fold,cutB_all,over_B,eD,e67,eL,eC,eZ,lok,lsm,rl,env_P,env_L,TQ.down,resE,oneV, ↓reduceIte,reduceCtorEq,uB,uE,uL,uA,uM,uS,vL,vK,vE,vA,vS]
  subst hX
  obtain ⟨e1,e2,e3⟩ := log_end (H6 := ((H4.put ρ (some (Blk.cells [AV.eslice Ms 0 0 b.ahead.ms.length,AV.ptr cx 0,stv,AV.bool false,AV.eslice (HX.next + 1) 0 0 (b.ahead.log.length + 1)] 0 false))).put h.next (some (Blk.cells (B y) 0 false)))) hr (by exact ml) hC0 (fun j hj => pnt_lt (by omega)) f2 (.of kx) frL (by simp (disch := omega) only [TH.down,uA,uB]) (fun j hj => by
   by_cases e : j = h.next
   ·exact .inl ⟨by omega,by rw [e,pnt_lt (by omega)]; exact hC5 _ (by omega) (by omega)⟩
   ·exact .inr (by simp (disch := omega) only [TH.down,uA,uB])) JL
  exact G.ok ⟨rfl,_,e1,RB.log_wf (wa.mono (by omega) (by omega)) _ rl (by show b.ahead.log.length < _; rw [a3]; omega),rl,e2,e3⟩
theorem rb_write (d : Nat) (h : Heap) (c : Col) (kr ρ : Nat) (ps : List Nat) (b : RB) (N : Nat) (hr : 10 <= kr) (I : RefB h c kr ρ ps b) (w : b.wf N) (hN : N + cntS b.log.length b.steps < 2990) (hpk : ∀ s ∈ b.steps,s.picks.length <= 140737488351232) (hll : b.log.length < 2990) (m i : Int) (s : List Nat) (hs : s.length = 64) :
  G (callD env (d + 8) 83 [.ptr ρ 0, .int .i64 m, .int .i64 i, .agg (B s)] h) fun v h' => v = .int .i64 (b.write m i s).1.e /\ ∃ C',RefB h' C' kr ρ ps (b.write m i s).2 /\ (b.write m i s).2.wf (N + cntS b.log.length b.steps + 1) /\ (b.write m i s).1.x.length = 64 /\ Fr (refK kr) c h h' /\ ∀ j,j < h.next -> C' j = c j := by
 refine G.gen fun Q hX => ?_
 have hz := zz_len
 have ezl := entZ_len
 rw [callD_run (E := env) [(6, .fl [(4,0,1)])] (by kernel_rfl) Try.func83 rfl (by rw [Try.ntmps83]; simp) (by kernel_rfl)]; simp (disch := first | omega | (simp only [SD.down,uA,uL] <;> omega) | fail) only [Try.ntmps83,Try.results83,env_P,env_L,zz_fold,entZ_fold,entG_fold,hz,ezl,hs,cutB_all,over_B,TQ.down,resE,oneV, ↓reduceIte,reduceCtorEq,uB,uE,uL,uA,uM,uS,vL,vK,vE,vA,vS]
 have kp : Keeps h (h.new (Blk.cells (B s) 0 false)) := ⟨by simp (disch := omega) only [TH.down,uA,uB]; omega,fun j hj => by simp (disch := omega) only [TH.down,uA,uB]⟩
 have gz : (h.new (Blk.cells (B s) 0 false)).get h.next = some (.cells (B s) 0 false) := by simp (disch := omega) only [TH.down,uA,uB]
 have gn : (h.new (Blk.cells (B s) 0 false)).next = h.next + 1 := by simp (disch := omega) only [TH.down,uA,uB]
 have I0 := I.fr (c' := pnt c h.next 5) w.msl (.of (K := fun _ => False) kp) id (fun _ _ => id) pnt_o
 generalize (h.new (Blk.cells (B s) 0 false)) = H at kp gz gn I0 ⊢
 refine G.call (rb_ahead (d + 1) H (pnt c h.next 5) kr ρ ps b N hr I0 w hN hpk) ?_
 rintro v H1 ⟨rfl,J,wa,f1⟩
 have fl := f1.le
 have f2 : Fr (refK kr) c h H1 := (Fr.of kp).trans f1 pnt_o
 obtain ⟨a1,a2,a3,a4⟩ := aheadRL_same b.log.length b.steps b
 have a3 : b.ahead.log = b.log := a3
 have hC1 : ∀ j,H.next <= j -> pnt (pnt c h.next 5) H.next 0 j = 0 := fun j hj => pnt_ge hj
 have hC0 : ∀ j,j < h.next -> pnt (pnt c h.next 5) H.next 0 j = c j := fun j hj => (pnt_lt (by omega)).trans (pnt_lt hj)
 have hC5 : ∀ j,h.next <= j -> j < H.next -> pnt (pnt c h.next 5) H.next 0 j = 5 := fun j h1 h2 => (pnt_lt h2).trans (pnt_ge h1)
 have gz1 := (f1.get h.next (by omega) (by rw [pnt_ge (Nat.le_refl _)]; exact fun x => by have := x.1; omega)).trans gz
 generalize pnt (pnt c h.next 5) H.next 0 = C at J hC1 hC0 hC5
 have J0 := J
 obtain ⟨Ms,cx,stv,lgv,l1,c1,l2,c2,g1,g2,pl,mm,ce,st,lg⟩ := J
 obtain ⟨lok,lsm,llen⟩ := lg.ok
 have ml : b.ahead.ms.length <= 64 := wa.msl
 cases ho : b.ahead.off with
 | true =>
  rw [ho] at g1
  have er : b.write m i s = (⟨2,m,i,s,13⟩, { b.ahead with log := b.ahead.log ++ [⟨2,m,i,s,13⟩] }) := by
   unfold RB.write; rw [RB.ioR_off ho,a3]
  rw [er] at hX
  simp (disch := first | omega | (simp only [SD.down,uA,uL] <;> omega) | fail) only [zz_fold,entZ_fold,entG_fold,hz,ezl,eO,eL,eC,eZ,e67,eD,eX,gz1,hs,cutB_all,over_B,in103,Try.f103,lncP,lnoP,lneP,lok,lsm,env_P,env_L,g1,  TQ.down,resE,oneV, ↓reduceIte,reduceCtorEq,uB,uE,uL,uA,uM,uS,vL,vK,vE,vA,vS]
  have kx : Keeps H1 ((H1.new (Blk.cells entZ 0 false)).put H1.next (some (Blk.cells (entG ⟨2,m,i,s,13⟩) 0 false))) := ⟨by simp (disch := omega) only [TH.down,uA,uB]; omega,fun j hj => by simp (disch := omega) only [TH.down,uA,uB]⟩
  have gx : ((H1.new (Blk.cells entZ 0 false)).put H1.next (some (Blk.cells (entG ⟨2,m,i,s,13⟩) 0 false))).get H1.next = some (Blk.cells (entG ⟨2,m,i,s,13⟩) 0 false) := by simp (disch := omega) only [TH.down,uA,uB]
  have nx : ((H1.new (Blk.cells entZ 0 false)).put H1.next (some (Blk.cells (entG ⟨2,m,i,s,13⟩) 0 false))).next = H1.next + 1 := by simp (disch := omega) only [TH.down,uA,uB]
  generalize ((H1.new (Blk.cells entZ 0 false)).put H1.next (some (Blk.cells (entG ⟨2,m,i,s,13⟩) 0 false))) = HX at kx gx nx ⊢
  have JX := J0.fr ml (.of (K := fun _ => False) kx) id (fun _ _ => id) fun _ _ => rfl
  have gX1 := (kx.2 ρ l1).trans g1
  obtain ⟨_,_,H4,ea,n4,g4,fk,JL,frL,nL⟩ := log_tail (t := ⟨2,m,i,s,13⟩) hr JX.x wa hs gX1 (fun j hj => hC1 j (by omega))
  have g4x := (fk H1.next (by omega) (by rw [hC1 _ (by omega)]; omega)).trans gx
  simp (disch := first | omega | (simp only [SD.down,uA,uL] <;> omega) | fail) only [bs13e,cls_append,ap13e,ea,g4,g4x,gX1,gx,hz,zz_fold,cutB_all,over_B,eD,e67,eL,eC,eZ,lok,lsm,gz1,hs,cutB_all,over_B,  env_P,env_L,TQ.down,resE,oneV, ↓reduceIte,reduceCtorEq,uB,uE,uL,uA,uM,uS,vL,vK,vE,vA,vS]
  subst hX
  obtain ⟨e1,e2,e3⟩ := log_end (H6 := (H4.put ρ (some (Blk.cells [AV.eslice Ms 0 0 b.ahead.ms.length,AV.ptr cx 0,stv,AV.bool true,AV.eslice (HX.next + 1) 0 0 (b.ahead.log.length + 1)] 0 false)))) hr (by exact ml) hC0 (fun j hj => pnt_lt (by omega)) f2 (.of kx) frL (by simp (disch := omega) only [TH.down,uA,uB]) (fun j hj => by
   exact .inr rfl) JL
  exact G.ok ⟨rfl,_,e1,RB.log_wf (wa.mono (by omega) (by omega)) _ hs (by show b.ahead.log.length < _; rw [a3]; omega),hs,e2,e3⟩
 | false =>
  have g1' := g1
  rw [ho] at g1
  by_cases hm0 : m < 0
  ·have dm : decide (m < 0) = true := decide_eq_true hm0
   have er : b.write m i s = (⟨2,m,i,s,2⟩, { b.ahead with log := b.ahead.log ++ [⟨2,m,i,s,2⟩] }) := by
    unfold RB.write atActR; rw [RB.ioR_on ho,if_pos hm0,a3]
   rw [er] at hX
   simp (disch := first | omega | (simp only [SD.down,uA,uL] <;> omega) | fail) only [zz_fold,entZ_fold,entG_fold,hz,ezl,eO,eL,eC,eZ,e67,eD,eX,gz1,hs,cutB_all,over_B,in103,Try.f103,lncP,lnoP,lneP,lok,lsm,env_P,env_L,g1,dm,TQ.down,resE,oneV, ↓reduceIte,reduceCtorEq,uB,uE,uL,uA,uM,uS,vL,vK,vE,vA,vS]
   have kx : Keeps H1 ((H1.new (Blk.cells entZ 0 false)).put H1.next (some (Blk.cells (entG ⟨2,m,i,s,2⟩) 0 false))) := ⟨by simp (disch := omega) only [TH.down,uA,uB]; omega,fun j hj => by simp (disch := omega) only [TH.down,uA,uB]⟩
   have gx : ((H1.new (Blk.cells entZ 0 false)).put H1.next (some (Blk.cells (entG ⟨2,m,i,s,2⟩) 0 false))).get H1.next = some (Blk.cells (entG ⟨2,m,i,s,2⟩) 0 false) := by simp (disch := omega) only [TH.down,uA,uB]
   have nx : ((H1.new (Blk.cells entZ 0 false)).put H1.next (some (Blk.cells (entG ⟨2,m,i,s,2⟩) 0 false))).next = H1.next + 1 := by simp (disch := omega) only [TH.down,uA,uB]
   generalize ((H1.new (Blk.cells entZ 0 false)).put H1.next (some (Blk.cells (entG ⟨2,m,i,s,2⟩) 0 false))) = HX at kx gx nx ⊢
   have JX := J0.fr ml (.of (K := fun _ => False) kx) id (fun _ _ => id) fun _ _ => rfl
   have gX1 := (kx.2 ρ l1).trans g1
   obtain ⟨_,_,H4,ea,n4,g4,fk,JL,frL,nL⟩ := log_tail (t := ⟨2,m,i,s,2⟩) hr JX.x wa hs gX1 (fun j hj => hC1 j (by omega))
   have g4x := (fk H1.next (by omega) (by rw [hC1 _ (by omega)]; omega)).trans gx
   simp (disch := first | omega | (simp only [SD.down,uA,uL] <;> omega) | fail) only [bs13e,cls_append,ap13e,ea,g4,g4x,gX1,gx,hz,zz_fold,cutB_all,over_B,eD,e67,eL,eC,eZ,lok,lsm,gz1,hs,cutB_all,over_B,  env_P,env_L,TQ.down,resE,oneV, ↓reduceIte,reduceCtorEq,uB,uE,uL,uA,uM,uS,vL,vK,vE,vA,vS]
   subst hX
   obtain ⟨e1,e2,e3⟩ := log_end (H6 := (H4.put ρ (some (Blk.cells [AV.eslice Ms 0 0 b.ahead.ms.length,AV.ptr cx 0,stv,AV.bool false,AV.eslice (HX.next + 1) 0 0 (b.ahead.log.length + 1)] 0 false)))) hr (by exact ml) hC0 (fun j hj => pnt_lt (by omega)) f2 (.of kx) frL (by simp (disch := omega) only [TH.down,uA,uB]) (fun j hj => by
    exact .inr rfl) JL
   exact G.ok ⟨rfl,_,e1,RB.log_wf (wa.mono (by omega) (by omega)) _ hs (by show b.ahead.log.length < _; rw [a3]; omega),hs,e2,e3⟩
  have dm : decide (m < 0) = false := decide_eq_false hm0
  obtain ⟨n,rfl⟩ : ∃ n : Nat,m = (n : Int) := ⟨m.toNat,by omega⟩
  by_cases hm1 : b.ahead.ms.length <= n
  ·have dm1 : decide ((b.ahead.ms.length : Int) <= (n : Int)) = true := decide_eq_true (by omega)
   have hnone : b.ahead.ms[n]? = none := List.getElem?_eq_none hm1
   have er : b.write n i s = (⟨2,(n : Int),i,s,2⟩, { b.ahead with log := b.ahead.log ++ [⟨2,(n : Int),i,s,2⟩] }) := by
    unfold RB.write atActR; rw [RB.ioR_on ho,if_neg hm0,a3]; simp only [Int.toNat_natCast,hnone]
   rw [er] at hX
   simp (disch := first | omega | (simp only [SD.down,uA,uL] <;> omega) | fail) only [zz_fold,entZ_fold,entG_fold,hz,ezl,eO,eL,eC,eZ,e67,eD,eX,gz1,hs,cutB_all,over_B,in103,Try.f103,lncP,lnoP,lneP,lok,lsm,env_P,env_L,g1,dm,dm1,TQ.down,resE,oneV, ↓reduceIte,reduceCtorEq,uB,uE,uL,uA,uM,uS,vL,vK,vE,vA,vS]
   have kx : Keeps H1 ((H1.new (Blk.cells entZ 0 false)).put H1.next (some (Blk.cells (entG ⟨2,(n : Int),i,s,2⟩) 0 false))) := ⟨by simp (disch := omega) only [TH.down,uA,uB]; omega,fun j hj => by simp (disch := omega) only [TH.down,uA,uB]⟩
   have gx : ((H1.new (Blk.cells entZ 0 false)).put H1.next (some (Blk.cells (entG ⟨2,(n : Int),i,s,2⟩) 0 false))).get H1.next = some (Blk.cells (entG ⟨2,(n : Int),i,s,2⟩) 0 false) := by simp (disch := omega) only [TH.down,uA,uB]
   have nx : ((H1.new (Blk.cells entZ 0 false)).put H1.next (some (Blk.cells (entG ⟨2,(n : Int),i,s,2⟩) 0 false))).next = H1.next + 1 := by simp (disch := omega) only [TH.down,uA,uB]
   generalize ((H1.new (Blk.cells entZ 0 false)).put H1.next (some (Blk.cells (entG ⟨2,(n : Int),i,s,2⟩) 0 false))) = HX at kx gx nx ⊢
   have JX := J0.fr ml (.of (K := fun _ => False) kx) id (fun _ _ => id) fun _ _ => rfl
   have gX1 := (kx.2 ρ l1).trans g1
   obtain ⟨_,_,H4,ea,n4,g4,fk,JL,frL,nL⟩ := log_tail (t := ⟨2,(n : Int),i,s,2⟩) hr JX.x wa hs gX1 (fun j hj => hC1 j (by omega))
   have g4x := (fk H1.next (by omega) (by rw [hC1 _ (by omega)]; omega)).trans gx
   simp (disch := first | omega | (simp only [SD.down,uA,uL] <;> omega) | fail) only [bs13e,cls_append,ap13e,ea,g4,g4x,gX1,gx,hz,zz_fold,cutB_all,over_B,eD,e67,eL,eC,eZ,lok,lsm,gz1,hs,cutB_all,over_B,  env_P,env_L,TQ.down,resE,oneV, ↓reduceIte,reduceCtorEq,uB,uE,uL,uA,uM,uS,vL,vK,vE,vA,vS]
   subst hX
   obtain ⟨e1,e2,e3⟩ := log_end (H6 := (H4.put ρ (some (Blk.cells [AV.eslice Ms 0 0 b.ahead.ms.length,AV.ptr cx 0,stv,AV.bool false,AV.eslice (HX.next + 1) 0 0 (b.ahead.log.length + 1)] 0 false)))) hr (by exact ml) hC0 (fun j hj => pnt_lt (by omega)) f2 (.of kx) frL (by simp (disch := omega) only [TH.down,uA,uB]) (fun j hj => by
    exact .inr rfl) JL
   exact G.ok ⟨rfl,_,e1,RB.log_wf (wa.mono (by omega) (by omega)) _ hs (by show b.ahead.log.length < _; rw [a3]; omega),hs,e2,e3⟩
  have dm1 : decide ((b.ahead.ms.length : Int) <= (n : Int)) = false := decide_eq_false (by omega)
  have hnl : n < b.ahead.ms.length := by omega
  obtain ⟨R,hR⟩ : ∃ R,b.ahead.ms[n]? = some R := ⟨_,List.getElem?_eq_getElem hnl⟩
  obtain ⟨p,hp⟩ : ∃ p,ps[n]? = some p := ⟨_,List.getElem?_eq_getElem (by omega)⟩
  have hpm : (ps.map (AV.ptr · 0))[n]? = some (.ptr p 0) := by rw [List.getElem?_map,hp]; rfl
  have wR := wa.ms R (List.mem_of_getElem? hR)
  have JM := mm n p R hp hR
  have er : b.write n i s = (⟨2,(n : Int),i,s,(R.write i s).2⟩, { b.ahead with ms := b.ahead.ms.set n (R.write i s).1,log := b.ahead.log ++ [⟨2,(n : Int),i,s,(R.write i s).2⟩] }) := by
   unfold RB.write atActR; rw [RB.ioR_on ho,if_neg hm0,a3]; simp only [Int.toNat_natCast,hR,amWriteR]
  rw [er] at hX
  simp (disch := first | omega | (simp only [SD.down,uA,uL] <;> omega) | fail) only [zz_fold,entZ_fold,entG_fold,hz,ezl,eO,eL,eC,eZ,e67,eD,eX,gz1,hs,cutB_all,over_B,in103,Try.f103,lncP,lnoP,lneP,lok,lsm,env_P,env_L,g1,g2,hpm,dm,dm1,TQ.down,resE,oneV, ↓reduceIte,reduceCtorEq,uB,uE,uL,uA,uM,uS,vL,vK,vE,vA,vS]
  have kx : Keeps H1 ((H1.new (Blk.cells entZ 0 false)).put H1.next (some (Blk.cells (entG ⟨2,(n : Int),i,s,0⟩) 0 false))) := ⟨by simp (disch := omega) only [TH.down,uA,uB]; omega,fun j hj => by simp (disch := omega) only [TH.down,uA,uB]⟩
  have gx : ((H1.new (Blk.cells entZ 0 false)).put H1.next (some (Blk.cells (entG ⟨2,(n : Int),i,s,0⟩) 0 false))).get H1.next = some (Blk.cells (entG ⟨2,(n : Int),i,s,0⟩) 0 false) := by simp (disch := omega) only [TH.down,uA,uB]
  have nx : ((H1.new (Blk.cells entZ 0 false)).put H1.next (some (Blk.cells (entG ⟨2,(n : Int),i,s,0⟩) 0 false))).next = H1.next + 1 := by simp (disch := omega) only [TH.down,uA,uB]
  generalize ((H1.new (Blk.cells entZ 0 false)).put H1.next (some (Blk.cells (entG ⟨2,(n : Int),i,s,0⟩) 0 false))) = HZ at kx gx nx ⊢
  have e2 : ∀ j,j < H1.next -> pnt (pnt C H1.next 5) (H1.next + 1) 0 j = C j := fun j hj => (pnt_lt (by omega)).trans (pnt_lt hj)
  have e25 : pnt (pnt C H1.next 5) (H1.next + 1) 0 H1.next = 5 := (pnt_lt (by omega)).trans (pnt_ge (Nat.le_refl _))
  have e20 : ∀ j,H1.next + 1 <= j -> pnt (pnt C H1.next 5) (H1.next + 1) 0 j = 0 := fun j hj => pnt_ge hj
  have eP : pnt (pnt (pnt C H1.next 5) (H1.next + 1) 0) HZ.next 0 = pnt (pnt C H1.next 5) (H1.next + 1) 0 := pnt_pnt (by omega)
  generalize pnt (pnt C H1.next 5) (H1.next + 1) 0 = C2 at e2 e25 e20 eP
  have JZ := J0.fr (c' := C2) ml (.of (K := fun _ => False) kx) id (fun _ _ => id) e2
  have JM2 := JM.fr (c' := C2) (.of (K := fun _ => False) kx) id id e2
  refine G.call (r_write (d + 3) HZ C2 (kr + 2 + n) p (N + cntS b.log.length b.steps) R JM2 wR (by omega) (by omega) i s hs) ?_
  rintro v H2 ⟨rfl,JW,fW⟩
  rw [eP] at JW
  have wR2 : (R.write i s).1.wf (N + cntS b.log.length b.steps + 1) := RS.write_wf wR i hs
  generalize hrw : R.write i s = rw at wR2 hX JW ⊢
  obtain ⟨R2,e⟩ := rw
  have wR2 : R2.wf (N + cntS b.log.length b.steps + 1) := wR2
  have JW : RefM H2 C2 (kr + 2 + n) p R2 := JW
  have J2 := JZ.setM ml hr hp hR fW (fun _ _ => rfl) JW
  have w2 := RB.set_wf (n := n) wa wR2 (by omega)
  have fWl := fW.le
  have gx2 := (fW.get H1.next (by omega) (by rw [e25]; omega)).trans gx
  have g12 := (fW.get ρ (by omega) (by rw [e2 ρ l1,c1]; omega)).trans ((kx.2 ρ l1).trans g1)
  simp (disch := first | omega | (simp only [SD.down,uA,uL] <;> omega) | fail) only [zz_fold,entZ_fold,entG_fold,hz,ezl,eO,eL,eC,eZ,e67,eD,eX,gz1,hs,cutB_all,over_B,in103,Try.f103,lncP,lnoP,lneP,lok,lsm,env_P,env_L,g12,gx2,TQ.down,resE,oneV, ↓reduceIte,reduceCtorEq,uB,uE,uL,uA,uM,uS,vL,vK,vE,vA,vS]
  have hx1 : H1.next ≠ ρ := by omega
  have fX : Fr (· = 5) C2 H2 (H2.put H1.next (some (Blk.cells (entG ⟨2,(n : Int),i,s,e⟩) 0 false))) := ⟨by simp (disch := omega) only [TH.down,uA,uB]; omega,fun j hj hq => by
   have : j ≠ H1.next := fun q => hq (by rw [q]; exact e25)
   simp (disch := omega) only [TH.down,uA,uB]⟩
  have gX : (H2.put H1.next (some (Blk.cells (entG ⟨2,(n : Int),i,s,e⟩) 0 false))).get H1.next = some (Blk.cells (entG ⟨2,(n : Int),i,s,e⟩) 0 false) := by simp (disch := omega) only [TH.down,uA,uB]
  have nX : (H2.put H1.next (some (Blk.cells (entG ⟨2,(n : Int),i,s,e⟩) 0 false))).next = H2.next := by simp (disch := omega) only [TH.down,uA,uB]
  have gXo : ∀ j,j ≠ H1.next -> (H2.put H1.next (some (Blk.cells (entG ⟨2,(n : Int),i,s,e⟩) 0 false))).get j = H2.get j := fun j hj => get_put_ne hj
  clear gx
  generalize (H2.put H1.next (some (Blk.cells (entG ⟨2,(n : Int),i,s,e⟩) 0 false))) = HX at fX gX nX gXo ⊢
  have gx := gX
  have JX := J2.fr (K := (· = 5)) (c' := C2) (by simpa using ml) fX (by omega) (fun n hn e => by have := hn.1; omega) fun _ _ => rfl
  have gX1 := (fX.get ρ (by omega) (by rw [e2 ρ l1,c1]; omega)).trans g12
  have hcr : ∀ j,j < H1.next -> C2 j = C j := e2
  have fxx : Fr (refK kr) C2 H1 HX := ⟨by omega,fun j hj hq => by
   rw [gXo j (by omega),fW.get j (by omega) (fun q => hq (by rw [q]; exact ⟨by omega,by omega⟩))]
   exact kx.2 j hj⟩
  obtain ⟨_,_,H4,ea,n4,g4,fk,JL,frL,nL⟩ := log_tail (t := ⟨2,(n : Int),i,s,e⟩) hr JX.x w2 hs gX1 (fun j hj => e20 j (by omega))
  have g4x := (fk H1.next (by omega) (by rw [e25]; omega)).trans gx
  simp (disch := first | omega | (simp only [SD.down,uA,uL] <;> omega) | fail) only [bs13e,cls_append,ap13e,ea,g4,g4x,gX1,gx,hz,zz_fold,cutB_all,over_B,eD,e67,eL,eC,eZ,lok,lsm,hs,env_P,env_L,TQ.down,resE,oneV, ↓reduceIte,reduceCtorEq,uB,uE,uL,uA,uM,uS,vL,vK,vE,vA,vS]
  subst hX
  obtain ⟨e1,e2,e3⟩ := log_end (H6 := (H4.put ρ (some (Blk.cells [AV.eslice Ms 0 0 b.ahead.ms.length,AV.ptr cx 0,stv,AV.bool false,AV.eslice (HX.next + 1) 0 0 (b.ahead.log.length + 1)] 0 false)))) hr (by simpa using ml) (fun j hj => (e2 j (by omega)).trans (hC0 j hj)) (fun j hj => pnt_lt (by omega)) f2 fxx frL (by simp (disch := omega) only [TH.down,uA,uB]) (fun j hj => by
   exact .inr rfl) JL
  exact G.ok ⟨rfl,_,e1,RB.log_wf w2 _ hs (by show b.ahead.log.length < _; rw [a3]; omega),hs,e2,e3⟩
theorem rb_flush (d : Nat) (h : Heap) (c : Col) (kr ρ : Nat) (ps : List Nat) (b : RB) (N : Nat) (hr : 10 <= kr) (I : RefB h c kr ρ ps b) (w : b.wf N) (hN : N + cntS b.log.length b.steps < 2990) (hpk : ∀ s ∈ b.steps,s.picks.length <= 140737488351232) (hll : b.log.length < 2990) (m : Int) :
  G (callD env (d + 8) 84 [.ptr ρ 0, .int .i64 m] h) fun v h' => v = .int .i64 (b.flush m).1.e /\ ∃ C',RefB h' C' kr ρ ps (b.flush m).2 /\ (b.flush m).2.wf (N + cntS b.log.length b.steps + 1) /\ (b.flush m).1.x.length = 64 /\ Fr (refK kr) c h h' /\ ∀ j,j < h.next -> C' j = c j := by
 refine G.gen fun Q hX => ?_
 have hz := zz_len
 have ezl := entZ_len
 rw [callD_run (E := env) [(6, .fl [(4,0,1)])] (by kernel_rfl) Try.func84 rfl (by rw [Try.ntmps84]; simp) (by kernel_rfl)]; simp (disch := first | omega | (simp only [SD.down,uA,uL] <;> omega) | fail) only [Try.ntmps84,Try.results84,env_P,env_L,zz_fold,entZ_fold,entG_fold2,hz,ezl,TQ.down,resE,oneV, ↓reduceIte,reduceCtorEq,uB,uE,uL,uA,uM,uS,vL,vK,vE,vA,vS]
 have kp : Keeps h h := .refl h
 have I0 := I.fr (c' := pnt c h.next 5) w.msl (.of (K := fun _ => False) kp) id (fun _ _ => id) pnt_o
 have gn : h.next = h.next := rfl
 refine G.call (rb_ahead (d + 1) h (pnt c h.next 5) kr ρ ps b N hr I0 w hN hpk) ?_
 rintro v H1 ⟨rfl,J,wa,f1⟩
 have fl := f1.le
 have f2 : Fr (refK kr) c h H1 := (Fr.of kp).trans f1 pnt_o
 obtain ⟨a1,a2,a3,a4⟩ := aheadRL_same b.log.length b.steps b
 have a3 : b.ahead.log = b.log := a3
 have hC1 : ∀ j,h.next <= j -> pnt (pnt c h.next 5) h.next 0 j = 0 := fun j hj => pnt_ge hj
 have hC0 : ∀ j,j < h.next -> pnt (pnt c h.next 5) h.next 0 j = c j := fun j hj => (pnt_lt (by omega)).trans (pnt_lt hj)
 have hC5 : ∀ j,h.next <= j -> j < h.next -> pnt (pnt c h.next 5) h.next 0 j = 5 := fun j h1 h2 => (pnt_lt h2).trans (pnt_ge h1)
 generalize pnt (pnt c h.next 5) h.next 0 = C at J hC1 hC0 hC5
 have J0 := J
 obtain ⟨Ms,cx,stv,lgv,l1,c1,l2,c2,g1,g2,pl,mm,ce,st,lg⟩ := J
 obtain ⟨lok,lsm,llen⟩ := lg.ok
 have ml : b.ahead.ms.length <= 64 := wa.msl
 cases ho : b.ahead.off with
 | true =>
  rw [ho] at g1
  have er : b.flush m = (⟨3,m,0,zz,13⟩, { b.ahead with log := b.ahead.log ++ [⟨3,m,0,zz,13⟩] }) := by
   unfold RB.flush; rw [RB.ioR_off ho,a3]
  rw [er] at hX
  simp (disch := first | omega | (simp only [SD.down,uA,uL] <;> omega) | fail) only [zz_fold,entZ_fold,entG_fold2,hz,ezl,eO,eL,eC,eZ,e67,eD,eX,in103,Try.f103,lncP,lnoP,lneP,lok,lsm,env_P,env_L,g1,  TQ.down,resE,oneV, ↓reduceIte,reduceCtorEq,uB,uE,uL,uA,uM,uS,vL,vK,vE,vA,vS]
  have kx : Keeps H1 ((H1.new (Blk.cells entZ 0 false)).put H1.next (some (Blk.cells (entG ⟨3,m,0,zz,13⟩) 0 false))) := ⟨by simp (disch := omega) only [TH.down,uA,uB]; omega,fun j hj => by simp (disch := omega) only [TH.down,uA,uB]⟩
  have gx : ((H1.new (Blk.cells entZ 0 false)).put H1.next (some (Blk.cells (entG ⟨3,m,0,zz,13⟩) 0 false))).get H1.next = some (Blk.cells (entG ⟨3,m,0,zz,13⟩) 0 false) := by simp (disch := omega) only [TH.down,uA,uB]
  have nx : ((H1.new (Blk.cells entZ 0 false)).put H1.next (some (Blk.cells (entG ⟨3,m,0,zz,13⟩) 0 false))).next = H1.next + 1 := by simp (disch := omega) only [TH.down,uA,uB]
  generalize ((H1.new (Blk.cells entZ 0 false)).put H1.next (some (Blk.cells (entG ⟨3,m,0,zz,13⟩) 0 false))) = HX at kx gx nx ⊢
  have JX := J0.fr ml (.of (K := fun _ => False) kx) id (fun _ _ => id) fun _ _ => rfl
  have gX1 := (kx.2 ρ l1).trans g1
  obtain ⟨_,_,H4,ea,n4,g4,fk,JL,frL,nL⟩ := log_tail (t := ⟨3,m,0,zz,13⟩) hr JX.x wa hz gX1 (fun j hj => hC1 j (by omega))
  have g4x := (fk H1.next (by omega) (by rw [hC1 _ (by omega)]; omega)).trans gx
  simp (disch := first | omega | (simp only [SD.down,uA,uL] <;> omega) | fail) only [bs13e,cls_append,ap13e,ea,g4,g4x,gX1,gx,hz,zz_fold,cutB_all,over_B,eD,e67,eL,eC,eZ,lok,lsm,env_P,env_L,TQ.down,resE,oneV, ↓reduceIte,reduceCtorEq,uB,uE,uL,uA,uM,uS,vL,vK,vE,vA,vS]
  subst hX
  obtain ⟨e1,e2,e3⟩ := log_end (H6 := (H4.put ρ (some (Blk.cells [AV.eslice Ms 0 0 b.ahead.ms.length,AV.ptr cx 0,stv,AV.bool true,AV.eslice (HX.next + 1) 0 0 (b.ahead.log.length + 1)] 0 false)))) hr (by exact ml) hC0 (fun j hj => pnt_lt (by omega)) f2 (.of kx) frL (by simp (disch := omega) only [TH.down,uA,uB]) (fun j hj => by
   exact .inr rfl) JL
  exact G.ok ⟨rfl,_,e1,RB.log_wf (wa.mono (by omega) (by omega)) _ hz (by show b.ahead.log.length < _; rw [a3]; omega),hz,e2,e3⟩
 | false =>
  have g1' := g1
  rw [ho] at g1
  by_cases hm0 : m < 0
  ·have dm : decide (m < 0) = true := decide_eq_true hm0
   have er : b.flush m = (⟨3,m,0,zz,2⟩, { b.ahead with log := b.ahead.log ++ [⟨3,m,0,zz,2⟩] }) := by
    unfold RB.flush atActR; rw [RB.ioR_on ho,if_pos hm0,a3]
   rw [er] at hX
   simp (disch := first | omega | (simp only [SD.down,uA,uL] <;> omega) | fail) only [zz_fold,entZ_fold,entG_fold2,hz,ezl,eO,eL,eC,eZ,e67,eD,eX,in103,Try.f103,lncP,lnoP,lneP,lok,lsm,env_P,env_L,g1,dm,TQ.down,resE,oneV, ↓reduceIte,reduceCtorEq,uB,uE,uL,uA,uM,uS,vL,vK,vE,vA,vS]
   have kx : Keeps H1 ((H1.new (Blk.cells entZ 0 false)).put H1.next (some (Blk.cells (entG ⟨3,m,0,zz,2⟩) 0 false))) := ⟨by simp (disch := omega) only [TH.down,uA,uB]; omega,fun j hj => by simp (disch := omega) only [TH.down,uA,uB]⟩
   have gx : ((H1.new (Blk.cells entZ 0 false)).put H1.next (some (Blk.cells (entG ⟨3,m,0,zz,2⟩) 0 false))).get H1.next = some (Blk.cells (entG ⟨3,m,0,zz,2⟩) 0 false) := by simp (disch := omega) only [TH.down,uA,uB]
   have nx : ((H1.new (Blk.cells entZ 0 false)).put H1.next (some (Blk.cells (entG ⟨3,m,0,zz,2⟩) 0 false))).next = H1.next + 1 := by simp (disch := omega) only [TH.down,uA,uB]
   generalize ((H1.new (Blk.cells entZ 0 false)).put H1.next (some (Blk.cells (entG ⟨3,m,0,zz,2⟩) 0 false))) = HX at kx gx nx ⊢
   have JX := J0.fr ml (.of (K := fun _ => False) kx) id (fun _ _ => id) fun _ _ => rfl
   have gX1 := (kx.2 ρ l1).trans g1
   obtain ⟨_,_,H4,ea,n4,g4,fk,JL,frL,nL⟩ := log_tail (t := ⟨3,m,0,zz,2⟩) hr JX.x wa hz gX1 (fun j hj => hC1 j (by omega))
   have g4x := (fk H1.next (by omega) (by rw [hC1 _ (by omega)]; omega)).trans gx
   simp (disch := first | omega | (simp only [SD.down,uA,uL] <;> omega) | fail) only [bs13e,cls_append,ap13e,ea,g4,g4x,gX1,gx,hz,zz_fold,cutB_all,over_B,eD,e67,eL,eC,eZ,lok,lsm,env_P,env_L,TQ.down,resE,oneV, ↓reduceIte,reduceCtorEq,uB,uE,uL,uA,uM,uS,vL,vK,vE,vA,vS]
   subst hX
   obtain ⟨e1,e2,e3⟩ := log_end (H6 := (H4.put ρ (some (Blk.cells [AV.eslice Ms 0 0 b.ahead.ms.length,AV.ptr cx 0,stv,AV.bool false,AV.eslice (HX.next + 1) 0 0 (b.ahead.log.length + 1)] 0 false)))) hr (by exact ml) hC0 (fun j hj => pnt_lt (by omega)) f2 (.of kx) frL (by simp (disch := omega) only [TH.down,uA,uB]) (fun j hj => by
    exact .inr rfl) JL
   exact G.ok ⟨rfl,_,e1,RB.log_wf (wa.mono (by omega) (by omega)) _ hz (by show b.ahead.log.length < _; rw [a3]; omega),hz,e2,e3⟩
  have dm : decide (m < 0) = false := decide_eq_false hm0
  obtain ⟨n,rfl⟩ : ∃ n : Nat,m = (n : Int) := ⟨m.toNat,by omega⟩
  by_cases hm1 : b.ahead.ms.length <= n
  ·have dm1 : decide ((b.ahead.ms.length : Int) <= (n : Int)) = true := decide_eq_true (by omega)
   have hnone : b.ahead.ms[n]? = none := List.getElem?_eq_none hm1
   have er : b.flush n = (⟨3,(n : Int),0,zz,2⟩, { b.ahead with log := b.ahead.log ++ [⟨3,(n : Int),0,zz,2⟩] }) := by
    unfold RB.flush atActR; rw [RB.ioR_on ho,if_neg hm0,a3]; simp only [Int.toNat_natCast,hnone]
   rw [er] at hX
   simp (disch := first | omega | (simp only [SD.down,uA,uL] <;> omega) | fail) only [zz_fold,entZ_fold,entG_fold2,hz,ezl,eO,eL,eC,eZ,e67,eD,eX,in103,Try.f103,lncP,lnoP,lneP,lok,lsm,env_P,env_L,g1,dm,dm1,TQ.down,resE,oneV, ↓reduceIte,reduceCtorEq,uB,uE,uL,uA,uM,uS,vL,vK,vE,vA,vS]
   have kx : Keeps H1 ((H1.new (Blk.cells entZ 0 false)).put H1.next (some (Blk.cells (entG ⟨3,(n : Int),0,zz,2⟩) 0 false))) := ⟨by simp (disch := omega) only [TH.down,uA,uB]; omega,fun j hj => by simp (disch := omega) only [TH.down,uA,uB]⟩
   have gx : ((H1.new (Blk.cells entZ 0 false)).put H1.next (some (Blk.cells (entG ⟨3,(n : Int),0,zz,2⟩) 0 false))).get H1.next = some (Blk.cells (entG ⟨3,(n : Int),0,zz,2⟩) 0 false) := by simp (disch := omega) only [TH.down,uA,uB]
   have nx : ((H1.new (Blk.cells entZ 0 false)).put H1.next (some (Blk.cells (entG ⟨3,(n : Int),0,zz,2⟩) 0 false))).next = H1.next + 1 := by simp (disch := omega) only [TH.down,uA,uB]
   generalize ((H1.new (Blk.cells entZ 0 false)).put H1.next (some (Blk.cells (entG ⟨3,(n : Int),0,zz,2⟩) 0 false))) = HX at kx gx nx ⊢
   have JX := J0.fr ml (.of (K := fun _ => False) kx) id (fun _ _ => id) fun _ _ => rfl
   have gX1 := (kx.2 ρ l1).trans g1
   obtain ⟨_,_,H4,ea,n4,g4,fk,JL,frL,nL⟩ := log_tail (t := ⟨3,(n : Int),0,zz,2⟩) hr JX.x wa hz gX1 (fun j hj => hC1 j (by omega))
   have g4x := (fk H1.next (by omega) (by rw [hC1 _ (by omega)]; omega)).trans gx
   simp (disch := first | omega | (simp only [SD.down,uA,uL] <;> omega) | fail) only [bs13e,cls_append,ap13e,ea,g4,g4x,gX1,gx,hz,zz_fold,cutB_all,over_B,eD,e67,eL,eC,eZ,lok,lsm,env_P,env_L,TQ.down,resE,oneV, ↓reduceIte,reduceCtorEq,uB,uE,uL,uA,uM,uS,vL,vK,vE,vA,vS]
   subst hX
   obtain ⟨e1,e2,e3⟩ := log_end (H6 := (H4.put ρ (some (Blk.cells [AV.eslice Ms 0 0 b.ahead.ms.length,AV.ptr cx 0,stv,AV.bool false,AV.eslice (HX.next + 1) 0 0 (b.ahead.log.length + 1)] 0 false)))) hr (by exact ml) hC0 (fun j hj => pnt_lt (by omega)) f2 (.of kx) frL (by simp (disch := omega) only [TH.down,uA,uB]) (fun j hj => by
    exact .inr rfl) JL
   exact G.ok ⟨rfl,_,e1,RB.log_wf (wa.mono (by omega) (by omega)) _ hz (by show b.ahead.log.length < _; rw [a3]; omega),hz,e2,e3⟩
  have dm1 : decide ((b.ahead.ms.length : Int) <= (n : Int)) = false := decide_eq_false (by omega)
  have hnl : n < b.ahead.ms.length := by omega
  obtain ⟨R,hR⟩ : ∃ R,b.ahead.ms[n]? = some R := ⟨_,List.getElem?_eq_getElem hnl⟩
  obtain ⟨p,hp⟩ : ∃ p,ps[n]? = some p := ⟨_,List.getElem?_eq_getElem (by omega)⟩
  have hpm : (ps.map (AV.ptr · 0))[n]? = some (.ptr p 0) := by rw [List.getElem?_map,hp]; rfl
  have wR := wa.ms R (List.mem_of_getElem? hR)
  have JM := mm n p R hp hR
  have er : b.flush n = (⟨3,(n : Int),0,zz,(R.flush).2⟩, { b.ahead with ms := b.ahead.ms.set n (R.flush).1,log := b.ahead.log ++ [⟨3,(n : Int),0,zz,(R.flush).2⟩] }) := by
   unfold RB.flush atActR; rw [RB.ioR_on ho,if_neg hm0,a3]; simp only [Int.toNat_natCast,hR,amFlushR]
  rw [er] at hX
  simp (disch := first | omega | (simp only [SD.down,uA,uL] <;> omega) | fail) only [zz_fold,entZ_fold,entG_fold2,hz,ezl,eO,eL,eC,eZ,e67,eD,eX,in103,Try.f103,lncP,lnoP,lneP,lok,lsm,env_P,env_L,g1,g2,hpm,dm,dm1,TQ.down,resE,oneV, ↓reduceIte,reduceCtorEq,uB,uE,uL,uA,uM,uS,vL,vK,vE,vA,vS]
  have kx : Keeps H1 ((H1.new (Blk.cells entZ 0 false)).put H1.next (some (Blk.cells (entG ⟨3,(n : Int),0,zz,0⟩) 0 false))) := ⟨by simp (disch := omega) only [TH.down,uA,uB]; omega,fun j hj => by simp (disch := omega) only [TH.down,uA,uB]⟩
  have gx : ((H1.new (Blk.cells entZ 0 false)).put H1.next (some (Blk.cells (entG ⟨3,(n : Int),0,zz,0⟩) 0 false))).get H1.next = some (Blk.cells (entG ⟨3,(n : Int),0,zz,0⟩) 0 false) := by simp (disch := omega) only [TH.down,uA,uB]
  have nx : ((H1.new (Blk.cells entZ 0 false)).put H1.next (some (Blk.cells (entG ⟨3,(n : Int),0,zz,0⟩) 0 false))).next = H1.next + 1 := by simp (disch := omega) only [TH.down,uA,uB]
  generalize ((H1.new (Blk.cells entZ 0 false)).put H1.next (some (Blk.cells (entG ⟨3,(n : Int),0,zz,0⟩) 0 false))) = HZ at kx gx nx ⊢
  have e2 : ∀ j,j < H1.next -> pnt (pnt C H1.next 5) (H1.next + 1) 0 j = C j := fun j hj => (pnt_lt (by omega)).trans (pnt_lt hj)
  have e25 : pnt (pnt C H1.next 5) (H1.next + 1) 0 H1.next = 5 := (pnt_lt (by omega)).trans (pnt_ge (Nat.le_refl _))
  have e20 : ∀ j,H1.next + 1 <= j -> pnt (pnt C H1.next 5) (H1.next + 1) 0 j = 0 := fun j hj => pnt_ge hj
  have eP : pnt (pnt (pnt C H1.next 5) (H1.next + 1) 0) HZ.next 0 = pnt (pnt C H1.next 5) (H1.next + 1) 0 := pnt_pnt (by omega)
  generalize pnt (pnt C H1.next 5) (H1.next + 1) 0 = C2 at e2 e25 e20 eP
  have JZ := J0.fr (c' := C2) ml (.of (K := fun _ => False) kx) id (fun _ _ => id) e2
  have JM2 := JM.fr (c' := C2) (.of (K := fun _ => False) kx) id id e2
  refine G.call (r_flush (d + 3) HZ C2 (kr + 2 + n) p (N + cntS b.log.length b.steps) R JM2 wR (by omega) (by omega)) ?_
  rintro v H2 ⟨rfl,JW,fW⟩
  rw [eP] at JW
  have wR2 : (R.flush).1.wf (N + cntS b.log.length b.steps + 1) := RS.flush_wf wR
  generalize hrw : R.flush = rw at wR2 hX JW ⊢
  obtain ⟨R2,e⟩ := rw
  have wR2 : R2.wf (N + cntS b.log.length b.steps + 1) := wR2
  have JW : RefM H2 C2 (kr + 2 + n) p R2 := JW
  have J2 := JZ.setM ml hr hp hR fW (fun _ _ => rfl) JW
  have w2 := RB.set_wf (n := n) wa wR2 (by omega)
  have fWl := fW.le
  have gx2 := (fW.get H1.next (by omega) (by rw [e25]; omega)).trans gx
  have g12 := (fW.get ρ (by omega) (by rw [e2 ρ l1,c1]; omega)).trans ((kx.2 ρ l1).trans g1)
  simp (disch := first | omega | (simp only [SD.down,uA,uL] <;> omega) | fail) only [zz_fold,entZ_fold,entG_fold2,hz,ezl,eO,eL,eC,eZ,e67,eD,eX,in103,Try.f103,lncP,lnoP,lneP,lok,lsm,env_P,env_L,g12,gx2,TQ.down,resE,oneV, ↓reduceIte,reduceCtorEq,uB,uE,uL,uA,uM,uS,vL,vK,vE,vA,vS]
  have hx1 : H1.next ≠ ρ := by omega
  have fX : Fr (· = 5) C2 H2 (H2.put H1.next (some (Blk.cells (entG ⟨3,(n : Int),0,zz,e⟩) 0 false))) := ⟨by simp (disch := omega) only [TH.down,uA,uB]; omega,fun j hj hq => by
   have : j ≠ H1.next := fun q => hq (by rw [q]; exact e25)
   simp (disch := omega) only [TH.down,uA,uB]⟩
  have gX : (H2.put H1.next (some (Blk.cells (entG ⟨3,(n : Int),0,zz,e⟩) 0 false))).get H1.next = some (Blk.cells (entG ⟨3,(n : Int),0,zz,e⟩) 0 false) := by simp (disch := omega) only [TH.down,uA,uB]
  have nX : (H2.put H1.next (some (Blk.cells (entG ⟨3,(n : Int),0,zz,e⟩) 0 false))).next = H2.next := by simp (disch := omega) only [TH.down,uA,uB]
  have gXo : ∀ j,j ≠ H1.next -> (H2.put H1.next (some (Blk.cells (entG ⟨3,(n : Int),0,zz,e⟩) 0 false))).get j = H2.get j := fun j hj => get_put_ne hj
  clear gx
  generalize (H2.put H1.next (some (Blk.cells (entG ⟨3,(n : Int),0,zz,e⟩) 0 false))) = HX at fX gX nX gXo ⊢
  have gx := gX
  have JX := J2.fr (K := (· = 5)) (c' := C2) (by simpa using ml) fX (by omega) (fun n hn e => by have := hn.1; omega) fun _ _ => rfl
  have gX1 := (fX.get ρ (by omega) (by rw [e2 ρ l1,c1]; omega)).trans g12
  have hcr : ∀ j,j < H1.next -> C2 j = C j := e2
  have fxx : Fr (refK kr) C2 H1 HX := ⟨by omega,fun j hj hq => by
   rw [gXo j (by omega),fW.get j (by omega) (fun q => hq (by rw [q]; exact ⟨by omega,by omega⟩))]
   exact kx.2 j hj⟩
  obtain ⟨_,_,H4,ea,n4,g4,fk,JL,frL,nL⟩ := log_tail (t := ⟨3,(n : Int),0,zz,e⟩) hr JX.x w2 hz gX1 (fun j hj => e20 j (by omega))
  have g4x := (fk H1.next (by omega) (by rw [e25]; omega)).trans gx
  simp (disch := first | omega | (simp only [SD.down,uA,uL] <;> omega) | fail) only [bs13e,cls_append,ap13e,ea,g4,g4x,gX1,gx,hz,zz_fold,cutB_all,over_B,eD,e67,eL,eC,eZ,lok,lsm,env_P,env_L,TQ.down,resE,oneV, ↓reduceIte,reduceCtorEq,uB,uE,uL,uA,uM,uS,vL,vK,vE,vA,vS]
  subst hX
  obtain ⟨e1,e2,e3⟩ := log_end (H6 := (H4.put ρ (some (Blk.cells [AV.eslice Ms 0 0 b.ahead.ms.length,AV.ptr cx 0,stv,AV.bool false,AV.eslice (HX.next + 1) 0 0 (b.ahead.log.length + 1)] 0 false)))) hr (by simpa using ml) (fun j hj => (e2 j (by omega)).trans (hC0 j hj)) (fun j hj => pnt_lt (by omega)) f2 fxx frL (by simp (disch := omega) only [TH.down,uA,uB]) (fun j hj => by
   exact .inr rfl) JL
  exact G.ok ⟨rfl,_,e1,RB.log_wf w2 _ hz (by show b.ahead.log.length < _; rw [a3]; omega),hz,e2,e3⟩
theorem RefBX.x {h : Heap} {c : Col} {kr ρ : Nat} {ps : List Nat} {b : RB} (I : RefBX h c kr ρ ps b) : RefBX h c kr ρ ps b := I
theorem pad_set (lb : List Nat) (q x : Nat) (hl : lb.length = 32) (hx : lb[q]? = some x) : (B (lb.take q ++ List.replicate (64 - q) 0)).set q (b8 x) = B (lb.take (q + 1) ++ List.replicate (64 - (q + 1)) 0) := by
 have hq : q < 32 := by rw [<- hl]; exact (List.getElem?_eq_some_iff.1 hx).1
 have hlt : (lb.take q).length = q := by rw [List.length_take]; omega
 rw [List.take_add_one,hx]
 have e1 : List.replicate (64 - q) 0 = 0 :: List.replicate (64 - (q + 1)) 0 := by
  rw [show 64 - q = (64 - (q + 1)) + 1 by omega,List.replicate_succ]
 rw [e1]
 unfold B
 rw [List.map_append,List.set_append_right _ _ (by rw [List.length_map,hlt]; omega),List.length_map,hlt,Nat.sub_self,List.map_cons,List.set_cons_zero]
 simp
theorem rb_sector (d : Nat) (h : Heap) (lb : List Nat) (hlb : lb.length = 32) : 
  G (callD env (d + 1) 106 [.agg (B lb)] h) fun v h' => v = .agg (B (pad lb)) /\ Keeps h h' := by
 refine G.gen fun Q hX => ?_
 have hz := zz_len
 rw [callD_run (E := env) [] (by kernel_rfl) Try.func106 rfl (by rw [Try.ntmps106]; simp) (by kernel_rfl)]; simp (disch := first | omega | (simp only [SD.down,uA,uL] <;> omega) | fail) only [Try.ntmps106,Try.results106,env_P,env_L,zz_fold,hz,hlb,cutB_all,over_B,TQ.down,resE,oneV, ↓reduceIte,reduceCtorEq,uB,uE,uL,uA,uM,uS,vL,vK,vE,vA,vS]
 rw [run_loop]
 refine loop_ind (fun j σ hh => ∃ q,q + j = 32 /\ σ 1 = .ptr h.next 0 /\ σ 2 = .ptr (h.next + 1) 0 /\ σ 3 = .ptr (h.next + 2) 0 /\ σ 4 = .int .i64 (q : Int) /\ hh.next = h.next + 3 /\ hh.get h.next = some (.cells (B lb) 0 false) /\ hh.get (h.next + 1) = some (.cells (B zz) 0 false) /\ hh.get (h.next + 2) = some (.cells (B (lb.take q ++ List.replicate (64 - q) 0)) 0 false) /\ Keeps h hh) ?_ ?_ 32 _ _ _ (by simp) ?_
 ·rintro mm σ hh ⟨q,hq,s1,s2,s3,s4,hn,g0,g1,g2,kp⟩
  obtain rfl : q = 32 := by omega
  have ep : lb.take 32 ++ List.replicate (64 - 32) 0 = pad lb := by rw [List.take_of_length_le (by omega)]; rfl
  rw [ep] at g2
  have pl := pad_len hlb
  simp (disch := first | omega | (simp only [SD.down,uA,uL] <;> omega) | fail) only [run_it,s1,s2,s3,s4,g0,g1,g2,pl,hz,zz_fold,cutB_all,over_B,env_P,env_L,TQ.down,resE,oneV, ↓reduceIte,reduceCtorEq,uB,uE,uL,uA,uM,uS,vL,vK,vE,vA,vS]
  subst hX
  exact G.ok ⟨rfl,⟨by simp (disch := omega) only [TH.down,uA,uB]; omega,fun j hj => by simp (disch := omega) only [TH.down,uA,uB]; exact kp.2 j hj⟩⟩
 ·rintro j mm σ hh ⟨q,hq,s1,s2,s3,s4,hn,g0,g1,g2,kp⟩ ih
  have dq : decide ((q : Int) < 32) = true := decide_eq_true (by omega)
  obtain ⟨x,hx⟩ : ∃ x,lb[q]? = some x := ⟨_,List.getElem?_eq_getElem (by omega)⟩
  have gb : (B lb)[q]? = some (b8 x) := by rw [B,List.getElem?_map,hx]; rfl
  have es := pad_set lb q x hlb hx
  have ll : (B (lb.take q ++ List.replicate (64 - q) 0)).length = 64 := by rw [B_len,List.length_append,List.length_take,List.length_replicate]; omega
  have hq32 : q < 32 := by omega
  simp (disch := first | omega | (simp only [SD.down,uA,uL] <;> omega) | fail) only [run_it,s1,s2,s3,s4,g0,g1,g2,dq,gb,es,env_P,env_L,TQ.down,resE,oneV, ↓reduceIte,reduceCtorEq,uB,uE,uL,uA,uM,uS,vL,vK,vE,vA,vS]
  exact ih _ _ ⟨q + 1,by omega,by simp (disch := omega) only [s1,TH.down,uA,uB],by simp (disch := omega) only [s2,TH.down,uA,uB],by simp (disch := omega) only [s3,TH.down,uA,uB],by simp (disch := omega) only [TH.down,uA,uB],by simp (disch := omega) only [TH.down,uA,uB]; exact hn,by simp (disch := omega) only [TH.down,uA,uB]; exact g0,by simp (disch := omega) only [TH.down,uA,uB]; exact g1,by simp (disch := omega) only [TH.down,uA,uB],⟨by simp (disch := omega) only [TH.down,uA,uB]; omega,fun j hj => by simp (disch := omega) only [TH.down,uA,uB]; exact kp.2 j hj⟩⟩
 ·exact ⟨0,by omega,by simp (disch := first | omega | (simp only [SD.down,uA,uL] <;> omega) | fail) only [TQ.down,resE,oneV, ↓reduceIte,reduceCtorEq,uB,uE,uL,uA,uM,uS,vL,vK,vE,vA,vS],by simp (disch := first | omega | (simp only [SD.down,uA,uL] <;> omega) | fail) only [TQ.down,resE,oneV, ↓reduceIte,reduceCtorEq,uB,uE,uL,uA,uM,uS,vL,vK,vE,vA,vS],by simp (disch := first | omega | (simp only [SD.down,uA,uL] <;> omega) | fail) only [TQ.down,resE,oneV, ↓reduceIte,reduceCtorEq,uB,uE,uL,uA,uM,uS,vL,vK,vE,vA,vS],by simp (disch := first | omega | (simp only [SD.down,uA,uL] <;> omega) | fail) only [TQ.down,resE,oneV, ↓reduceIte,reduceCtorEq,uB,uE,uL,uA,uM,uS,vL,vK,vE,vA,vS],by simp (disch := first | omega | (simp only [SD.down,uA,uL] <;> omega) | fail) only [TQ.down,resE,oneV, ↓reduceIte,reduceCtorEq,uB,uE,uL,uA,uM,uS,vL,vK,vE,vA,vS],by simp (disch := first | omega | (simp only [SD.down,uA,uL] <;> omega) | fail) only [TQ.down,resE,oneV, ↓reduceIte,reduceCtorEq,uB,uE,uL,uA,uM,uS,vL,vK,vE,vA,vS],by simp (disch := first | omega | (simp only [SD.down,uA,uL] <;> omega) | fail) only [TQ.down,resE,oneV, ↓reduceIte,reduceCtorEq,uB,uE,uL,uA,uM,uS,vL,vK,vE,vA,vS],by simp (disch := first | omega | (simp only [SD.down,uA,uL] <;> omega) | fail) only [TQ.down,resE,oneV, ↓reduceIte,reduceCtorEq,uB,uE,uL,uA,uM,uS,vL,vK,vE,vA,vS]; rfl,⟨by simp (disch := first | omega | (simp only [SD.down,uA,uL] <;> omega) | fail) only [TQ.down,resE,oneV, ↓reduceIte,reduceCtorEq,uB,uE,uL,uA,uM,uS,vL,vK,vE,vA,vS]; omega,fun j hj => by simp (disch := first | omega | (simp only [SD.down,uA,uL] <;> omega) | fail) only [TQ.down,resE,oneV, ↓reduceIte,reduceCtorEq,uB,uE,uL,uA,uM,uS,vL,vK,vE,vA,vS]⟩⟩
theorem rb_cell (d : Nat) (h : Heap) (c : Col) (kr ρ : Nat) (ps : List Nat) (b : RB) (N : Nat) (hr : 10 <= kr) (I : RefB h c kr ρ ps b) (w : b.wf N) (hN : N + cntS b.log.length b.steps < 2990) (hpk : ∀ s ∈ b.steps,s.picks.length <= 140737488351232) (hll : b.log.length < 2990)  :
  G (callD env (d + 8) 85 [.ptr ρ 0] h) fun v h' => v = .tup [.agg (cC b.cellV.1 b.cellV.2), .int .i64 b.cellR.1.e] /\ ∃ C',RefB h' C' kr ρ ps (b.cellR).2 /\ (b.cellR).2.wf (N + cntS b.log.length b.steps + 1) /\ (b.cellR).1.x.length = 64 /\ Fr (refK kr) c h h' /\ ∀ j,j < h.next -> C' j = c j := by
 refine G.gen fun Q hX => ?_
 have hz := zz_len
 have ezl := entZ_len
 have czl : czz.length = 32 := by simp [czz]
 rw [callD_run (E := env) [(8, .fl [(4,0,1)]),(9, .fl [(2,0,1)])] (by kernel_rfl) Try.func85 rfl (by rw [Try.ntmps85]; simp) (by kernel_rfl)]; simp (disch := first | omega | (simp only [SD.down,uA,uL] <;> omega) | fail) only [Try.ntmps85,Try.results85,env_P,env_L,zz_fold,entZ_fold,hz,ezl,c33_fold,cz_fold,TQ.down,resE,oneV, ↓reduceIte,reduceCtorEq,uB,uE,uL,uA,uM,uS,vL,vK,vE,vA,vS]
 have kp : Keeps h (h.new (Blk.cells (cC 0 czz) 0 false)) := ⟨by simp (disch := omega) only [TH.down,uA,uB]; omega,fun j hj => by simp (disch := omega) only [TH.down,uA,uB]⟩
 have gz : (h.new (Blk.cells (cC 0 czz) 0 false)).get h.next = some (Blk.cells (cC 0 czz) 0 false) := by simp (disch := omega) only [TH.down,uA,uB]
 have gn : (h.new (Blk.cells (cC 0 czz) 0 false)).next = h.next + 1 := by simp (disch := omega) only [TH.down,uA,uB]
 have I0 := I.fr (c' := pnt c h.next 5) w.msl (.of (K := fun _ => False) kp) id (fun _ _ => id) pnt_o
 generalize (h.new (Blk.cells (cC 0 czz) 0 false)) = H at kp gz gn I0 ⊢
 refine G.call (rb_ahead (d + 1) H (pnt c h.next 5) kr ρ ps b N hr I0 w hN hpk) ?_
 rintro v H1 ⟨rfl,J,wa,f1⟩
 have fl := f1.le
 have f2 : Fr (refK kr) c h H1 := (Fr.of kp).trans f1 pnt_o
 obtain ⟨a1,a2,a3,a4⟩ := aheadRL_same b.log.length b.steps b
 have a3 : b.ahead.log = b.log := a3
 have hC1 : ∀ j,H.next <= j -> pnt (pnt c h.next 5) H.next 0 j = 0 := fun j hj => pnt_ge hj
 have hC0 : ∀ j,j < h.next -> pnt (pnt c h.next 5) H.next 0 j = c j := fun j hj => (pnt_lt (by omega)).trans (pnt_lt hj)
 have hC5 : ∀ j,h.next <= j -> j < H.next -> pnt (pnt c h.next 5) H.next 0 j = 5 := fun j h1 h2 => (pnt_lt h2).trans (pnt_ge h1)
 have gz1 := (f1.get h.next (by omega) (by rw [pnt_ge (Nat.le_refl _)]; exact fun x => by have := x.1; omega)).trans gz
 generalize pnt (pnt c h.next 5) H.next 0 = C at J hC1 hC0 hC5
 have J0 := J
 obtain ⟨Ms,cx,stv,lgv,l1,c1,l2,c2,g1,g2,pl,mm,ce,st,lg⟩ := J
 obtain ⟨lok,lsm,llen⟩ := lg.ok
 have ml : b.ahead.ms.length <= 64 := wa.msl
 have hzρ : h.next ≠ ρ := fun e => by have := hC5 h.next (by omega) (by omega); rw [e,c1] at this; omega
 cases ho : b.ahead.off with
 | true =>
  rw [ho] at g1
  have er : b.cellR = (⟨4,0,0,zz,13⟩, { b.ahead with log := b.ahead.log ++ [⟨4,0,0,zz,13⟩] }) := by
   unfold RB.cellR tCell; rw [RB.ioR_off ho,a3]
  have ev : b.cellV = (0,czz) := if_pos ho
  rw [er,ev] at hX
  simp (disch := first | omega | (simp only [SD.down,uA,uL] <;> omega) | fail) only [c33_fold,cz_fold,czl,hz,ezl,zz_fold,entZ_fold,ent_fold1,eO,eL,eC,eZ,e67,eD,eX,cC_n,cC_len _ _ czl,cC_cut _ _ czl,cC_over _ _ _ czz czl czl,cutB_all,over_B,lok,lsm,env_P,env_L,g1,TQ.down,resE,oneV, ↓reduceIte,reduceCtorEq,uB,uE,uL,uA,uM,uS,vL,vK,vE,vA,vS]
  have kx : Keeps H1 ((((H1.new (Blk.cells entZ 0 false)).put H1.next (some (Blk.cells (entG ⟨4,0,0,zz,0⟩) 0 false))).new (Blk.cells (cC 0 czz) 0 false)).put H1.next (some (Blk.cells (entG ⟨4,0,0,zz,13⟩) 0 false))) := ⟨by simp (disch := first | omega | (simp only [SD.down,uA,uL] <;> omega) | fail) only [TQ.down,resE,oneV, ↓reduceIte,reduceCtorEq,uB,uE,uL,uA,uM,uS,vL,vK,vE,vA,vS]; omega,fun j hj => by simp (disch := first | omega | (simp only [SD.down,uA,uL] <;> omega) | fail) only [TQ.down,resE,oneV, ↓reduceIte,reduceCtorEq,uB,uE,uL,uA,uM,uS,vL,vK,vE,vA,vS]⟩
  have gx : ((((H1.new (Blk.cells entZ 0 false)).put H1.next (some (Blk.cells (entG ⟨4,0,0,zz,0⟩) 0 false))).new (Blk.cells (cC 0 czz) 0 false)).put H1.next (some (Blk.cells (entG ⟨4,0,0,zz,13⟩) 0 false))).get H1.next = some (Blk.cells (entG ⟨4,0,0,zz,13⟩) 0 false) := by simp (disch := omega) only [TH.down,uA,uB] <;> assumption
  have gc : ((((H1.new (Blk.cells entZ 0 false)).put H1.next (some (Blk.cells (entG ⟨4,0,0,zz,0⟩) 0 false))).new (Blk.cells (cC 0 czz) 0 false)).put H1.next (some (Blk.cells (entG ⟨4,0,0,zz,13⟩) 0 false))).get (H1.next + 1) = some (Blk.cells (cC 0 czz) 0 false) := by simp (disch := first | omega | (simp only [SD.down,uA,uL] <;> omega) | fail) only [TQ.down,resE,oneV, ↓reduceIte,reduceCtorEq,uB,uE,uL,uA,uM,uS,vL,vK,vE,vA,vS] <;> assumption
  have nx : ((((H1.new (Blk.cells entZ 0 false)).put H1.next (some (Blk.cells (entG ⟨4,0,0,zz,0⟩) 0 false))).new (Blk.cells (cC 0 czz) 0 false)).put H1.next (some (Blk.cells (entG ⟨4,0,0,zz,13⟩) 0 false))).next = H1.next + 2 := by simp (disch := omega) only [TH.down,uA,uB]
  generalize ((((H1.new (Blk.cells entZ 0 false)).put H1.next (some (Blk.cells (entG ⟨4,0,0,zz,0⟩) 0 false))).new (Blk.cells (cC 0 czz) 0 false)).put H1.next (some (Blk.cells (entG ⟨4,0,0,zz,13⟩) 0 false))) = HX at kx gx gc nx ⊢
  have JX := J0.fr ml (.of (K := fun _ => False) kx) id (fun _ _ => id) fun _ _ => rfl
  have gX1 := (kx.2 ρ l1).trans g1
  have gXz := (kx.2 h.next (by omega)).trans gz1
  obtain ⟨_,_,H4,ea,n4,g4,fk,JL,frL,nL⟩ := log_tail (t := ⟨4,0,0,zz,13⟩) hr JX.x wa hz gX1 (fun j hj => hC1 j (by omega))
  have g4x := (fk H1.next (by omega) (by rw [hC1 _ (by omega)]; omega)).trans gx
  have g4c := (fk (H1.next + 1) (by omega) (by rw [hC1 _ (by omega)]; omega)).trans gc
  have g4z := (fk h.next (by omega) (by rw [hC5 _ (by omega) (by omega)]; omega)).trans gXz
  simp (disch := first | omega | (simp only [SD.down,uA,uL] <;> omega) | fail) only [bs13e,cls_append,ap13e,ea,g4,g4x,g4z,gX1,gx,g4c,gc,c33_fold,cz_fold,czl,hz,ezl,zz_fold,entZ_fold,ent_fold1,eO,eL,eC,eZ,e67,eD,eX,cC_n,cC_len _ _ czl,cC_cut _ _ czl,cC_over _ _ _ czz czl czl,cutB_all,over_B,lok,lsm,env_P,env_L,TQ.down,resE,oneV, ↓reduceIte,reduceCtorEq,uB,uE,uL,uA,uM,uS,vL,vK,vE,vA,vS]
  subst hX
  obtain ⟨e1,e2,e3⟩ := log_end (H6 := ((H4.put ρ (some (Blk.cells [AV.eslice Ms 0 0 b.ahead.ms.length,AV.ptr cx 0,stv,AV.bool true,AV.eslice (HX.next + 1) 0 0 (b.ahead.log.length + 1)] 0 false))).put h.next (some (Blk.cells (cC 0 czz) 0 false)))) hr (by exact ml) hC0 (fun j hj => pnt_lt (by omega)) f2 (.of kx) frL (by simp (disch := omega) only [TH.down,uA,uB]) (fun j hj => by
   by_cases e : j = h.next
   ·exact .inl ⟨by omega,by rw [e,pnt_lt (by omega)]; exact hC5 _ (by omega) (by omega)⟩
   ·exact .inr (by simp (disch := omega) only [TH.down,uA,uB])) JL
  exact G.ok ⟨rfl,_,e1,RB.log_wf (RB.wf.mono wa (by omega) (by omega)) _ hz (by show b.ahead.log.length < _; rw [a3]; omega),hz,e2,e3⟩
 | false =>
  rw [ho] at g1
  have er : b.cellR = (⟨4,0,0,pad b.ahead.cell.2,0⟩, { b.ahead with log := b.ahead.log ++ [⟨4,0,0,pad b.ahead.cell.2,0⟩] }) := by
   unfold RB.cellR tCell; rw [RB.ioR_on ho,a3]; rfl
  have ev : b.cellV = b.ahead.cell := if_neg (by rw [ho]; decide)
  rw [er,ev] at hX
  simp (disch := first | omega | (simp only [SD.down,uA,uL] <;> omega) | fail) only [c33_fold,cz_fold,czl,hz,ezl,zz_fold,entZ_fold,ent_fold1,eO,eL,eC,eZ,e67,eD,eX,cC_n,cC_len _ _ czl,cC_cut _ _ czl,cC_over _ _ _ czz czl czl,cutB_all,over_B,lok,lsm,env_P,env_L,g1,TQ.down,resE,oneV, ↓reduceIte,reduceCtorEq,uB,uE,uL,uA,uM,uS,vL,vK,vE,vA,vS]
  have kx : Keeps H1 (((H1.new (Blk.cells entZ 0 false)).put H1.next (some (Blk.cells (entG ⟨4,0,0,zz,0⟩) 0 false))).new (Blk.cells (cC 0 czz) 0 false)) := ⟨by simp (disch := first | omega | (simp only [SD.down,uA,uL] <;> omega) | fail) only [TQ.down,resE,oneV, ↓reduceIte,reduceCtorEq,uB,uE,uL,uA,uM,uS,vL,vK,vE,vA,vS]; omega,fun j hj => by simp (disch := first | omega | (simp only [SD.down,uA,uL] <;> omega) | fail) only [TQ.down,resE,oneV, ↓reduceIte,reduceCtorEq,uB,uE,uL,uA,uM,uS,vL,vK,vE,vA,vS]⟩
  have gx : (((H1.new (Blk.cells entZ 0 false)).put H1.next (some (Blk.cells (entG ⟨4,0,0,zz,0⟩) 0 false))).new (Blk.cells (cC 0 czz) 0 false)).get H1.next = some (Blk.cells (entG ⟨4,0,0,zz,0⟩) 0 false) := by simp (disch := first | omega | (simp only [SD.down,uA,uL] <;> omega) | fail) only [TQ.down,resE,oneV, ↓reduceIte,reduceCtorEq,uB,uE,uL,uA,uM,uS,vL,vK,vE,vA,vS] <;> assumption
  have gc : (((H1.new (Blk.cells entZ 0 false)).put H1.next (some (Blk.cells (entG ⟨4,0,0,zz,0⟩) 0 false))).new (Blk.cells (cC 0 czz) 0 false)).get (H1.next + 1) = some (Blk.cells (cC 0 czz) 0 false) := by simp (disch := first | omega | (simp only [SD.down,uA,uL] <;> omega) | fail) only [TQ.down,resE,oneV, ↓reduceIte,reduceCtorEq,uB,uE,uL,uA,uM,uS,vL,vK,vE,vA,vS] <;> assumption
  have nx : (((H1.new (Blk.cells entZ 0 false)).put H1.next (some (Blk.cells (entG ⟨4,0,0,zz,0⟩) 0 false))).new (Blk.cells (cC 0 czz) 0 false)).next = H1.next + 2 := by simp (disch := omega) only [TH.down,uA,uB]
  generalize (((H1.new (Blk.cells entZ 0 false)).put H1.next (some (Blk.cells (entG ⟨4,0,0,zz,0⟩) 0 false))).new (Blk.cells (cC 0 czz) 0 false)) = HZ at kx gx gc nx ⊢
  obtain ⟨lv,K,l,m1,cm,gcx,hh,cK,hll',hl',h0'⟩ := ce
  have ct : b.ahead.cell.2.length = 32 := wa.cell
  refine G.call (cc_read (d + 6) HZ cx b.ahead.cell.1 b.ahead.cell.2 lv ((kx.2 cx m1).trans gcx) ct (by omega)) ?_
  rintro v H2 ⟨rfl,k2⟩
  have k2n := k2.1
  have g12 := (k2.2 ρ (by omega)).trans ((kx.2 ρ l1).trans g1)
  have gx2 := (k2.2 H1.next (by omega)).trans gx
  have gc2 := (k2.2 (H1.next + 1) (by omega)).trans gc
  have pl := pad_len ct
  generalize hcl : b.ahead.cell = xc at ct pl hX ⊢
  obtain ⟨n,t⟩ := xc
  have ct : t.length = 32 := ct
  have pl : (pad t).length = 64 := pl
  simp (disch := first | omega | (simp only [SD.down,uA,uL] <;> omega) | fail) only [g12,gx2,gc2,ct,cC_l _ _ _ czl ct,cC_over _ _ _ czz ct czl,cC_cut _ _ ct,cC_len _ _ ct,cC_lab _ _ ct,c33_fold,cz_fold,czl,hz,ezl,zz_fold,entZ_fold,ent_fold1,eO,eL,eC,eZ,e67,eD,eX,cC_n,cC_len _ _ czl,cC_cut _ _ czl,cC_over _ _ _ czz czl czl,cutB_all,over_B,lok,lsm,env_P,env_L,TQ.down,resE,oneV, ↓reduceIte,reduceCtorEq,uB,uE,uL,uA,uM,uS,vL,vK,vE,vA,vS]
  clear gx gc
  have k12 := kx.trans k2
  clear kx
  have kx : Keeps H1 (H2.put (H1.next + 1) (some (Blk.cells (cC n t) 0 false))) := ⟨by simp (disch := omega) only [TH.down,uA,uB]; omega,fun j hj => by simp (disch := omega) only [TH.down,uA,uB]; exact k12.2 j hj⟩
  have gx : (H2.put (H1.next + 1) (some (Blk.cells (cC n t) 0 false))).get H1.next = some (Blk.cells (entG ⟨4,0,0,zz,0⟩) 0 false) := by simp (disch := omega) only [TH.down,uA,uB] <;> assumption
  have gc : (H2.put (H1.next + 1) (some (Blk.cells (cC n t) 0 false))).get (H1.next + 1) = some (Blk.cells (cC n t) 0 false) := by simp (disch := omega) only [TH.down,uA,uB] <;> assumption
  have nY : (H2.put (H1.next + 1) (some (Blk.cells (cC n t) 0 false))).next = H2.next := by simp (disch := omega) only [TH.down,uA,uB]
  generalize (H2.put (H1.next + 1) (some (Blk.cells (cC n t) 0 false))) = HY at kx gx gc nY ⊢
  refine G.call (rb_sector (d + 6) HY t ct) ?_
  rintro v H3 ⟨rfl,k3⟩
  have k3n := k3.1
  have g13 := (k3.2 ρ (by omega)).trans ((kx.2 ρ l1).trans g1)
  have gx3 := (k3.2 H1.next (by omega)).trans gx
  have gc3 := (k3.2 (H1.next + 1) (by omega)).trans gc
  have k13 := kx.trans k3
  simp (disch := first | omega | (simp only [SD.down,uA,uL] <;> omega) | fail) only [g13,gx3,gc3,ct,pl,eX,cC_cut _ _ ct,cC_len _ _ ct,c33_fold,cz_fold,czl,hz,ezl,zz_fold,entZ_fold,ent_fold1,eO,eL,eC,eZ,e67,eD,eX,cC_n,cC_len _ _ czl,cC_cut _ _ czl,cC_over _ _ _ czz czl czl,cutB_all,over_B,lok,lsm,env_P,env_L,TQ.down,resE,oneV, ↓reduceIte,reduceCtorEq,uB,uE,uL,uA,uM,uS,vL,vK,vE,vA,vS]
  clear gx gc kx
  have kx : Keeps H1 (H3.put H1.next (some (Blk.cells (entG ⟨4,0,0,pad t,0⟩) 0 false))) := ⟨by simp (disch := omega) only [TH.down,uA,uB]; omega,fun j hj => by simp (disch := omega) only [TH.down,uA,uB]; exact k13.2 j hj⟩
  have gx : (H3.put H1.next (some (Blk.cells (entG ⟨4,0,0,pad t,0⟩) 0 false))).get H1.next = some (Blk.cells (entG ⟨4,0,0,pad t,0⟩) 0 false) := by simp (disch := omega) only [TH.down,uA,uB] <;> assumption
  have gc : (H3.put H1.next (some (Blk.cells (entG ⟨4,0,0,pad t,0⟩) 0 false))).get (H1.next + 1) = some (Blk.cells (cC n t) 0 false) := by simp (disch := omega) only [TH.down,uA,uB] <;> assumption
  have nX : (H3.put H1.next (some (Blk.cells (entG ⟨4,0,0,pad t,0⟩) 0 false))).next = H3.next := by simp (disch := omega) only [TH.down,uA,uB]
  generalize (H3.put H1.next (some (Blk.cells (entG ⟨4,0,0,pad t,0⟩) 0 false))) = HX at kx gx gc nX ⊢
  have JX := J0.fr ml (.of (K := fun _ => False) kx) id (fun _ _ => id) fun _ _ => rfl
  have gX1 := (kx.2 ρ l1).trans g1
  have gXz := (kx.2 h.next (by omega)).trans gz1
  obtain ⟨_,_,H4,ea,n4,g4,fk,JL,frL,nL⟩ := log_tail (t := ⟨4,0,0,pad t,0⟩) hr JX.x wa pl gX1 (fun j hj => hC1 j (by omega))
  have g4x := (fk H1.next (by omega) (by rw [hC1 _ (by omega)]; omega)).trans gx
  have g4c := (fk (H1.next + 1) (by omega) (by rw [hC1 _ (by omega)]; omega)).trans gc
  have g4z := (fk h.next (by omega) (by rw [hC5 _ (by omega) (by omega)]; omega)).trans gXz
  simp (disch := first | omega | (simp only [SD.down,uA,uL] <;> omega) | fail) only [bs13e,cls_append,ap13e,ea,g4,g4x,g4z,gX1,gx,g4c,gc,ct,pl,cC_l _ _ _ czl ct,cC_over _ _ _ czz ct czl,cC_cut _ _ ct,cC_len _ _ ct,c33_fold,cz_fold,czl,hz,ezl,zz_fold,entZ_fold,ent_fold1,eO,eL,eC,eZ,e67,eD,eX,cC_n,cC_len _ _ czl,cC_cut _ _ czl,cC_over _ _ _ czz czl czl,cutB_all,over_B,lok,lsm,env_P,env_L,TQ.down,resE,oneV, ↓reduceIte,reduceCtorEq,uB,uE,uL,uA,uM,uS,vL,vK,vE,vA,vS]
  subst hX
  obtain ⟨e1,e2,e3⟩ := log_end (H6 := ((H4.put ρ (some (Blk.cells [AV.eslice Ms 0 0 b.ahead.ms.length,AV.ptr cx 0,stv,AV.bool false,AV.eslice (HX.next + 1) 0 0 (b.ahead.log.length + 1)] 0 false))).put h.next (some (Blk.cells (cC n t) 0 false)))) hr (by exact ml) hC0 (fun j hj => pnt_lt (by omega)) f2 (.of kx) frL (by simp (disch := omega) only [TH.down,uA,uB]) (fun j hj => by
   by_cases e : j = h.next
   ·exact .inl ⟨by omega,by rw [e,pnt_lt (by omega)]; exact hC5 _ (by omega) (by omega)⟩
   ·exact .inr (by simp (disch := omega) only [TH.down,uA,uB])) JL
  exact G.ok ⟨rfl,_,e1,RB.log_wf (RB.wf.mono wa (by omega) (by omega)) _ pl (by show b.ahead.log.length < _; rw [a3]; omega),pl,e2,e3⟩
theorem rb_adv (d : Nat) (h : Heap) (c : Col) (kr ρ : Nat) (ps : List Nat) (b : RB) (N : Nat) (hr : 10 <= kr) (I : RefB h c kr ρ ps b) (w : b.wf N) (hN : N + cntS b.log.length b.steps < 2990) (hpk : ∀ s ∈ b.steps,s.picks.length <= 140737488351232) (hll : b.log.length < 2990) (lb : List Nat) (hlb : lb.length = 32) :
  G (callD env (d + 8) 86 [.ptr ρ 0, .agg (B lb)] h) fun v h' => v = .tup [.int .u64 (b.advV : Int), .int .i64 (b.advR lb).1.e] /\ ∃ C',RefB h' C' kr ρ ps (b.advR lb).2 /\ (b.advR lb).2.wf (N + cntS b.log.length b.steps + 1) /\ (b.advR lb).1.x.length = 64 /\ Fr (refK kr) c h h' /\ ∀ j,j < h.next -> C' j = c j := by
 refine G.gen fun Q hX => ?_
 have hz := zz_len
 have ezl := entZ_len
 have pdl := pad_len hlb
 rw [callD_run (E := env) [(7, .fl [(4,0,1)])] (by kernel_rfl) Try.func86 rfl (by rw [Try.ntmps86]; simp) (by kernel_rfl)]; simp (disch := first | omega | (simp only [SD.down,uA,uL] <;> omega) | fail) only [Try.ntmps86,Try.results86,env_P,env_L,zz_fold,entZ_fold,hz,ezl,hlb,cutB_all,over_B,TQ.down,resE,oneV, ↓reduceIte,reduceCtorEq,uB,uE,uL,uA,uM,uS,vL,vK,vE,vA,vS]
 have kp : Keeps h (h.new (Blk.cells (B lb) 0 false)) := ⟨by simp (disch := omega) only [TH.down,uA,uB]; omega,fun j hj => by simp (disch := omega) only [TH.down,uA,uB]⟩
 have gz : (h.new (Blk.cells (B lb) 0 false)).get h.next = some (Blk.cells (B lb) 0 false) := by simp (disch := omega) only [TH.down,uA,uB]
 have gn : (h.new (Blk.cells (B lb) 0 false)).next = h.next + 1 := by simp (disch := omega) only [TH.down,uA,uB]
 have I0 := I.fr (c' := pnt c h.next 5) w.msl (.of (K := fun _ => False) kp) id (fun _ _ => id) pnt_o
 generalize (h.new (Blk.cells (B lb) 0 false)) = H at kp gz gn I0 ⊢
 refine G.call (rb_ahead (d + 1) H (pnt c h.next 5) kr ρ ps b N hr I0 w hN hpk) ?_
 rintro v H1 ⟨rfl,J,wa,f1⟩
 have fl := f1.le
 have f2 : Fr (refK kr) c h H1 := (Fr.of kp).trans f1 pnt_o
 obtain ⟨a1,a2,a3,a4⟩ := aheadRL_same b.log.length b.steps b
 have a3 : b.ahead.log = b.log := a3
 have hC1 : ∀ j,H.next <= j -> pnt (pnt c h.next 5) H.next 0 j = 0 := fun j hj => pnt_ge hj
 have hC0 : ∀ j,j < h.next -> pnt (pnt c h.next 5) H.next 0 j = c j := fun j hj => (pnt_lt (by omega)).trans (pnt_lt hj)
 have hC5 : ∀ j,h.next <= j -> j < H.next -> pnt (pnt c h.next 5) H.next 0 j = 5 := fun j h1 h2 => (pnt_lt h2).trans (pnt_ge h1)
 have gz1 := (f1.get h.next (by omega) (by rw [pnt_ge (Nat.le_refl _)]; exact fun x => by have := x.1; omega)).trans gz
 generalize pnt (pnt c h.next 5) H.next 0 = C at J hC1 hC0 hC5
 have J0 := J
 obtain ⟨Ms,cx,stv,lgv,l1,c1,l2,c2,g1,g2,pl,mm,ce,st,lg⟩ := J
 obtain ⟨lok,lsm,llen⟩ := lg.ok
 have ml : b.ahead.ms.length <= 64 := wa.msl
 have hzρ : h.next ≠ ρ := fun e => by have := hC5 h.next (by omega) (by omega); rw [e,c1] at this; omega
 simp (disch := first | omega | (simp only [SD.down,uA,uL] <;> omega) | fail) only [gz1,hlb,cutB_all,over_B,env_P,env_L,TQ.down,resE,oneV, ↓reduceIte,reduceCtorEq,uB,uE,uL,uA,uM,uS,vL,vK,vE,vA,vS]
 refine G.call (rb_sector (d + 6) H1 lb hlb) ?_
 rintro v H2 ⟨rfl,k2⟩
 have k2n := k2.1
 have gρ2 := (k2.2 ρ l1).trans g1
 have gz2 := (k2.2 h.next (by omega)).trans gz1
 cases ho : b.ahead.off with
 | true =>
  rw [ho] at gρ2
  have er : b.advR lb = (⟨5,0,0,pad lb,13⟩, { b.ahead with log := b.ahead.log ++ [⟨5,0,0,pad lb,13⟩] }) := by
   unfold RB.advR tAdv; rw [RB.ioR_off ho,a3]
  have ev : b.advV = 0 := if_pos ho
  rw [er,ev] at hX
  simp (disch := first | omega | (simp only [SD.down,uA,uL] <;> omega) | fail) only [hlb,pdl,hz,ezl,zz_fold,entZ_fold,ent_fold1,eO,eL,eC,eZ,e67,eD,eX,cutB_all,over_B,lok,lsm,env_P,env_L,gρ2,gz2,TQ.down,resE,oneV, ↓reduceIte,reduceCtorEq,uB,uE,uL,uA,uM,uS,vL,vK,vE,vA,vS]
  have kx : Keeps H1 ((H2.new (Blk.cells entZ 0 false)).put H2.next (some (Blk.cells (entG ⟨5,0,0,pad lb,13⟩) 0 false))) := ⟨by simp (disch := omega) only [TH.down,uA,uB]; omega,fun j hj => by simp (disch := omega) only [TH.down,uA,uB]; exact k2.2 j hj⟩
  have gx : ((H2.new (Blk.cells entZ 0 false)).put H2.next (some (Blk.cells (entG ⟨5,0,0,pad lb,13⟩) 0 false))).get H2.next = some (Blk.cells (entG ⟨5,0,0,pad lb,13⟩) 0 false) := by simp (disch := omega) only [TH.down,uA,uB] <;> assumption
  have nx : ((H2.new (Blk.cells entZ 0 false)).put H2.next (some (Blk.cells (entG ⟨5,0,0,pad lb,13⟩) 0 false))).next = H2.next + 1 := by simp (disch := omega) only [TH.down,uA,uB]
  generalize ((H2.new (Blk.cells entZ 0 false)).put H2.next (some (Blk.cells (entG ⟨5,0,0,pad lb,13⟩) 0 false))) = HX at kx gx nx ⊢
  have JX := J0.fr ml (.of (K := fun _ => False) kx) id (fun _ _ => id) fun _ _ => rfl
  have gX1 := (kx.2 ρ l1).trans g1
  rw [ho] at gX1
  obtain ⟨_,_,H4,ea,n4,g4,fk,JL,frL,nL⟩ := log_tail (t := ⟨5,0,0,pad lb,13⟩) hr JX.x wa pdl gX1 (fun j hj => hC1 j (by omega))
  have g4x := (fk H2.next (by omega) (by rw [hC1 _ (by omega)]; omega)).trans gx
  simp (disch := first | omega | (simp only [SD.down,uA,uL] <;> omega) | fail) only [bs13e,cls_append,ap13e,ea,g4,g4x,gX1,gx,  hlb,pdl,hz,ezl,zz_fold,entZ_fold,ent_fold1,eO,eL,eC,eZ,e67,eD,eX,cutB_all,over_B,lok,lsm,env_P,env_L,TQ.down,resE,oneV, ↓reduceIte,reduceCtorEq,uB,uE,uL,uA,uM,uS,vL,vK,vE,vA,vS]
  subst hX
  obtain ⟨e1,e2,e3⟩ := log_end (H6 := (H4.put ρ (some (Blk.cells [AV.eslice Ms 0 0 b.ahead.ms.length,AV.ptr cx 0,stv,AV.bool true,AV.eslice (HX.next + 1) 0 0 (b.ahead.log.length + 1)] 0 false)))) hr (by exact ml) hC0 (fun j hj => pnt_lt (by omega)) f2 (.of kx) frL (by simp (disch := omega) only [TH.down,uA,uB]) (fun j hj => by
   exact .inr rfl) JL
  exact G.ok ⟨rfl,_,e1,RB.log_wf (RB.wf.mono wa (by omega) (by omega)) _ pdl (by show b.ahead.log.length < _; rw [a3]; omega),pdl,e2,e3⟩
 | false =>
  rw [ho] at gρ2
  simp (disch := first | omega | (simp only [SD.down,uA,uL] <;> omega) | fail) only [hlb,pdl,hz,ezl,zz_fold,entZ_fold,ent_fold1,eO,eL,eC,eZ,e67,eD,eX,cutB_all,over_B,lok,lsm,env_P,env_L,gρ2,gz2,TQ.down,resE,oneV, ↓reduceIte,reduceCtorEq,uB,uE,uL,uA,uM,uS,vL,vK,vE,vA,vS]
  have kx : Keeps H1 ((H2.new (Blk.cells entZ 0 false)).put H2.next (some (Blk.cells (entG ⟨5,0,0,pad lb,0⟩) 0 false))) := ⟨by simp (disch := omega) only [TH.down,uA,uB]; omega,fun j hj => by simp (disch := omega) only [TH.down,uA,uB]; exact k2.2 j hj⟩
  have gx : ((H2.new (Blk.cells entZ 0 false)).put H2.next (some (Blk.cells (entG ⟨5,0,0,pad lb,0⟩) 0 false))).get H2.next = some (Blk.cells (entG ⟨5,0,0,pad lb,0⟩) 0 false) := by simp (disch := omega) only [TH.down,uA,uB] <;> assumption
  have nx : ((H2.new (Blk.cells entZ 0 false)).put H2.next (some (Blk.cells (entG ⟨5,0,0,pad lb,0⟩) 0 false))).next = H2.next + 1 := by simp (disch := omega) only [TH.down,uA,uB]
  generalize ((H2.new (Blk.cells entZ 0 false)).put H2.next (some (Blk.cells (entG ⟨5,0,0,pad lb,0⟩) 0 false))) = HZ at kx gx nx ⊢
  have q2 : ∀ j,j < H2.next -> pnt (pnt C H2.next 5) (H2.next + 1) 0 j = C j := fun j hj => (pnt_lt (by omega)).trans (pnt_lt hj)
  have q25 : pnt (pnt C H2.next 5) (H2.next + 1) 0 H2.next = 5 := (pnt_lt (by omega)).trans (pnt_ge (Nat.le_refl _))
  generalize pnt (pnt C H2.next 5) (H2.next + 1) 0 = Cz at q2 q25
  have JZ := J0.fr (c' := Cz) ml (.of (K := fun _ => False) kx) id (fun _ _ => id) (fun j hj => q2 j (by omega))
  obtain ⟨Ms',cx',stv',lgv',u1,v1,u2,v2,G1,G2,pl',mm',ce',st',lg'⟩ := JZ
  have gρZ := (kx.2 ρ l1).trans g1
  rw [gρZ] at G1
  cases G1
  have cxl : cx < HZ.next := by obtain ⟨_,_,_,q,_⟩ := ce'; exact q
  refine G.call (cc_adv (d + 5) HZ Cz (kr + 1) cx (b.ahead.log.length + 1) b.ahead.cell ce' wa.cell (by rw [a3]; omega) wa.cellm lb hlb) ?_
  rintro v H3 ⟨rfl,ceA,fA⟩
  have fAl := fA.le
  have e2 : ∀ j,j < H2.next -> pnt (pnt Cz HZ.next (kr + 1)) H3.next 0 j = C j := fun j hj => (pnt_lt (by omega)).trans ((pnt_lt (by omega)).trans (q2 j hj))
  have e25 : pnt (pnt Cz HZ.next (kr + 1)) H3.next 0 H2.next = 5 := (pnt_lt (by omega)).trans ((pnt_lt (by omega)).trans q25)
  have e20 : ∀ j,H3.next <= j -> pnt (pnt Cz HZ.next (kr + 1)) H3.next 0 j = 0 := fun j hj => pnt_ge hj
  have eZ2 : ∀ j,j < HZ.next -> pnt (pnt Cz HZ.next (kr + 1)) H3.next 0 j = Cz j := fun j hj => (pnt_lt (by omega)).trans (pnt_lt hj)
  have ce3 := ceA.fr (K := fun _ => False) (c' := pnt (pnt Cz HZ.next (kr + 1)) H3.next 0) (.refl _ _ _) id (fun j hj => pnt_lt hj)
  generalize pnt (pnt Cz HZ.next (kr + 1)) H3.next 0 = C2 at e2 e25 e20 eZ2 ce3
  have gx3 := (fA.get H2.next (by omega) (by rw [q25]; omega)).trans gx
  have gρ3 := (fA.get ρ (by omega) (by rw [q2 ρ (by omega),c1]; omega)).trans gρZ
  rw [ho] at gρ3
  have hx1 : H2.next ≠ ρ := by omega
  have kx0 := kx
  have gx0 := gx
  by_cases hm : b.ahead.cell.1 = 4611686018427387904
  ·have er : b.advR lb = (⟨5,0,0,pad lb,15⟩, { b.ahead with log := b.ahead.log ++ [⟨5,0,0,pad lb,15⟩] }) := by
    unfold RB.advR tAdv advActR; rw [RB.ioR_on ho,a3,if_pos hm]
   have ev : b.advV = 0 := by unfold RB.advV; rw [if_neg (by rw [ho]; decide),if_pos hm]
   rw [er,ev] at hX
   rw [if_pos hm] at ce3 ⊢
   simp (disch := first | omega | (simp only [SD.down,uA,uL] <;> omega) | fail) only [hlb,pdl,hz,ezl,zz_fold,entZ_fold,ent_fold1,eO,eL,eC,eZ,e67,eD,eX,cutB_all,over_B,lok,lsm,env_P,env_L,gρ3,gx3,TQ.down,resE,oneV, ↓reduceIte,reduceCtorEq,uB,uE,uL,uA,uM,uS,vL,vK,vE,vA,vS]
   have JB : RefBX H3 C2 kr ρ ps b.ahead := ⟨Ms,cx,stv,lgv,by omega,(eZ2 ρ (by omega)).trans v1,by omega,(eZ2 Ms (by omega)).trans v2,by rw [gρ3,ho],(fA.get Ms (by omega) (by rw [v2]; omega)).trans G2,pl',fun i p R hp hR => (mm' i p R hp hR).fr fA (by omega) (by omega) eZ2,ce3,st'.fr fA (by omega) eZ2,lg'.fr fA (by omega) eZ2⟩
   have fX : Fr (· = 5) C2 H3 (H3.put H2.next (some (Blk.cells (entG ⟨5,0,0,pad lb,15⟩) 0 false))) := ⟨by simp (disch := omega) only [TH.down,uA,uB]; omega,fun j hj hq => by
    have : j ≠ H2.next := fun q => hq (by rw [q]; exact e25)
    simp (disch := omega) only [TH.down,uA,uB]⟩
   have gX : (H3.put H2.next (some (Blk.cells (entG ⟨5,0,0,pad lb,15⟩) 0 false))).get H2.next = some (Blk.cells (entG ⟨5,0,0,pad lb,15⟩) 0 false) := by simp (disch := omega) only [TH.down,uA,uB]
   have nX : (H3.put H2.next (some (Blk.cells (entG ⟨5,0,0,pad lb,15⟩) 0 false))).next = H3.next := by simp (disch := omega) only [TH.down,uA,uB]
   have gXo : ∀ j,j ≠ H2.next -> (H3.put H2.next (some (Blk.cells (entG ⟨5,0,0,pad lb,15⟩) 0 false))).get j = H3.get j := fun j hj => get_put_ne hj
   clear gx
   generalize (H3.put H2.next (some (Blk.cells (entG ⟨5,0,0,pad lb,15⟩) 0 false))) = HX at fX gX nX gXo ⊢
   have gx := gX
   have JX := JB.fr (K := (· = 5)) (c' := C2) ml fX (by omega) (fun n hn e => by have := hn.1; omega) fun _ _ => rfl
   have gX1 := (fX.get ρ (by omega) (by rw [e2 ρ (by omega),c1]; omega)).trans gρ3
   have fxx : Fr (refK kr) C2 H1 HX := ⟨by omega,fun j hj hq => by
    rw [gXo j (by omega),fA.get j (by omega) (fun q => hq (by rw [e2 j (by omega),<- q2 j (by omega),q]; exact ⟨by omega,by omega⟩))]
    exact kx0.2 j hj⟩
   obtain ⟨_,_,H4,ea,n4,g4,fk,JL,frL,nL⟩ := log_tail (t := ⟨5,0,0,pad lb,15⟩) hr JX.x wa pdl gX1 (fun j hj => e20 j (by omega))
   have g4x := (fk H2.next (by omega) (by rw [e25]; omega)).trans gx
   simp (disch := first | omega | (simp only [SD.down,uA,uL] <;> omega) | fail) only [bs13e,cls_append,ap13e,ea,g4,g4x,gX1,gx,  hlb,pdl,hz,ezl,zz_fold,entZ_fold,ent_fold1,eO,eL,eC,eZ,e67,eD,eX,cutB_all,over_B,lok,lsm,env_P,env_L,TQ.down,resE,oneV, ↓reduceIte,reduceCtorEq,uB,uE,uL,uA,uM,uS,vL,vK,vE,vA,vS]
   subst hX
   obtain ⟨e1,e2,e3⟩ := log_end (H6 := (H4.put ρ (some (Blk.cells [AV.eslice Ms 0 0 b.ahead.ms.length,AV.ptr cx 0,stv,AV.bool false,AV.eslice (HX.next + 1) 0 0 (b.ahead.log.length + 1)] 0 false)))) hr (by exact ml) (fun j hj => (e2 j (by omega)).trans (hC0 j hj)) (fun j hj => pnt_lt (by omega)) f2 fxx frL (by simp (disch := omega) only [TH.down,uA,uB]) (fun j hj => by
    exact .inr rfl) JL
   exact G.ok ⟨rfl,_,e1,RB.log_wf (RB.wf.mono wa (by omega) (by omega)) _ pdl (by show b.ahead.log.length < _; rw [a3]; omega),pdl,e2,e3⟩
  ·have er : b.advR lb = (⟨5,0,0,pad lb,0⟩, { b.ahead with cell := (b.ahead.cell.1 + 1,lb),log := b.ahead.log ++ [⟨5,0,0,pad lb,0⟩] }) := by
    unfold RB.advR tAdv advActR; rw [RB.ioR_on ho,a3,if_neg hm]
   have ev : b.advV = b.ahead.cell.1 + 1 := by unfold RB.advV; rw [if_neg (by rw [ho]; decide),if_neg hm]
   rw [er,ev] at hX
   rw [if_neg hm] at ce3 ⊢
   simp (disch := first | omega | (simp only [SD.down,uA,uL] <;> omega) | fail) only [hlb,pdl,hz,ezl,zz_fold,entZ_fold,ent_fold1,eO,eL,eC,eZ,e67,eD,eX,cutB_all,over_B,lok,lsm,env_P,env_L,gρ3,gx3,TQ.down,resE,oneV, ↓reduceIte,reduceCtorEq,uB,uE,uL,uA,uM,uS,vL,vK,vE,vA,vS]
   have wc : ({ b.ahead with cell := (b.ahead.cell.1 + 1,lb) } : RB).wf (N + cntS b.log.length b.steps) := ⟨wa.ms,wa.msl,wa.N,hlb,by have := wa.cellm; show b.ahead.cell.1 + 1 <= _; omega,wa.stl,wa.st,wa.logl,wa.log⟩
   have JB : RefBX H3 C2 kr ρ ps { b.ahead with cell := (b.ahead.cell.1 + 1,lb) } := ⟨Ms,cx,stv,lgv,by omega,(eZ2 ρ (by omega)).trans v1,by omega,(eZ2 Ms (by omega)).trans v2,by rw [gρ3,ho],(fA.get Ms (by omega) (by rw [v2]; omega)).trans G2,pl',fun i p R hp hR => (mm' i p R hp hR).fr fA (by omega) (by omega) eZ2,ce3,st'.fr fA (by omega) eZ2,lg'.fr fA (by omega) eZ2⟩
   have fX : Fr (· = 5) C2 H3 (H3.put H2.next (some (Blk.cells (entG ⟨5,0,0,pad lb,0⟩) 0 false))) := ⟨by simp (disch := omega) only [TH.down,uA,uB]; omega,fun j hj hq => by
    have : j ≠ H2.next := fun q => hq (by rw [q]; exact e25)
    simp (disch := omega) only [TH.down,uA,uB]⟩
   have gX : (H3.put H2.next (some (Blk.cells (entG ⟨5,0,0,pad lb,0⟩) 0 false))).get H2.next = some (Blk.cells (entG ⟨5,0,0,pad lb,0⟩) 0 false) := by simp (disch := omega) only [TH.down,uA,uB]
   have nX : (H3.put H2.next (some (Blk.cells (entG ⟨5,0,0,pad lb,0⟩) 0 false))).next = H3.next := by simp (disch := omega) only [TH.down,uA,uB]
   have gXo : ∀ j,j ≠ H2.next -> (H3.put H2.next (some (Blk.cells (entG ⟨5,0,0,pad lb,0⟩) 0 false))).get j = H3.get j := fun j hj => get_put_ne hj
   clear gx
   generalize (H3.put H2.next (some (Blk.cells (entG ⟨5,0,0,pad lb,0⟩) 0 false))) = HX at fX gX nX gXo ⊢
   have gx := gX
   have JX := JB.fr (K := (· = 5)) (c' := C2) ml fX (by omega) (fun n hn e => by have := hn.1; omega) fun _ _ => rfl
   have gX1 := (fX.get ρ (by omega) (by rw [e2 ρ (by omega),c1]; omega)).trans gρ3
   have fxx : Fr (refK kr) C2 H1 HX := ⟨by omega,fun j hj hq => by
    rw [gXo j (by omega),fA.get j (by omega) (fun q => hq (by rw [e2 j (by omega),<- q2 j (by omega),q]; exact ⟨by omega,by omega⟩))]
    exact kx0.2 j hj⟩
   obtain ⟨_,_,H4,ea,n4,g4,fk,JL,frL,nL⟩ := log_tail (t := ⟨5,0,0,pad lb,0⟩) hr JX.x wc pdl gX1 (fun j hj => e20 j (by omega))
   have g4x := (fk H2.next (by omega) (by rw [e25]; omega)).trans gx
   simp (disch := first | omega | (simp only [SD.down,uA,uL] <;> omega) | fail) only [bs13e,cls_append,ap13e,ea,g4,g4x,gX1,gx,  hlb,pdl,hz,ezl,zz_fold,entZ_fold,ent_fold1,eO,eL,eC,eZ,e67,eD,eX,cutB_all,over_B,lok,lsm,env_P,env_L,TQ.down,resE,oneV, ↓reduceIte,reduceCtorEq,uB,uE,uL,uA,uM,uS,vL,vK,vE,vA,vS]
   subst hX
   obtain ⟨e1,e2,e3⟩ := log_end (H6 := (H4.put ρ (some (Blk.cells [AV.eslice Ms 0 0 b.ahead.ms.length,AV.ptr cx 0,stv,AV.bool false,AV.eslice (HX.next + 1) 0 0 (b.ahead.log.length + 1)] 0 false)))) hr (by exact ml) (fun j hj => (e2 j (by omega)).trans (hC0 j hj)) (fun j hj => pnt_lt (by omega)) f2 fxx frL (by simp (disch := omega) only [TH.down,uA,uB]) (fun j hj => by
    exact .inr rfl) JL
   exact G.ok ⟨rfl,_,e1,RB.log_wf (RB.wf.mono wc (by omega) (by omega)) _ pdl (by show b.ahead.log.length < _; rw [a3]; omega),pdl,e2,e3⟩
end Go.Proofs.Ytfjcfjfgamajkaa
