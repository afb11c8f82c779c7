/- Of this program, for all inputs: contracts. No condition but those in the theorems. -/
import Derived.Test.YtlnepbkeiianmaaZZ5
import Derived.Test.YtlnepbkeiianmaaXA
namespace Go.Proofs.Ytlnepbkeiianmaa
open Go Go.Ai Go.Aw Go.Proofs
open Nat renaming reduceBEq -> uB,reduceEqDiff -> uE,reduceLT -> uL,reduceAdd -> uA,reduceMul -> uM,reduceSub -> uS,reduceAnd -> uN,reduceXor -> uX,reduceOr -> uO
open Int renaming reduceMod -> vR,reduceDiv -> vD,reduceLT -> vL,reduceLE -> vK,reduceEq -> vE,reduceAdd -> vA,reduceMul -> vM,reduceToNat -> vT,reduceSub -> vS
set_option linter.unusedSimpArgs false
set_option linter.unusedVariables false
set_option maxRecDepth 10000
def PL (X : Heap) (lv : AV) (ps : List Nat) : Prop := (ps = [] /\ lv = .nilslice) \/ ∃ K,ps ≠ [] /\ lv = .eslice K 0 0 ps.length /\ K < X.next /\ X.get K = some (.cells (ps.map (AV.ptr · 0)) 1 false)
theorem PL.ok {X : Heap} {lv : AV} {ps : List Nat} (x : PL X lv ps) : okv lv = some lv /\ AV.same lv lv = true /\ lv.cells = [lv] /\ isSc lv = true := by
 rcases x with ⟨_,rfl⟩ | ⟨K,_,rfl,_⟩
 ·exact ⟨rfl,rfl,rfl,rfl⟩
 ·exact ⟨rfl,same_eslice ..,rfl,rfl⟩
theorem PL.keep {X Y : Heap} {lv : AV} {ps : List Nat} (x : PL X lv ps) (n : X.next <= Y.next) (g : ∀ j,j < X.next -> lv = .eslice j 0 0 ps.length -> Y.get j = X.get j) : PL Y lv ps := by
 rcases x with x | ⟨K,h0,rfl,h1,h2⟩
 ·exact .inl x
 ·exact .inr ⟨K,h0,rfl,Nat.lt_of_lt_of_le h1 n,(g K h1 rfl).trans h2⟩
theorem appP {T e : Nat} {ie : TypeInfo} {zv : Value} (E : Elem Try.prog T e 0 ie zv) {X : Heap} {lv : AV} {ps : List Nat} {p q : Nat} (x : PL X lv ps) (hn : ps.length < 4000) (hq : X.get q = some (.cells [.ptr p 0] 0 false)) :
  ∃ X',appE Try.prog T lv (.slice q 0 1 1) X = some (.eslice X.next 0 0 (ps.length + 1),X') /\ X'.next = X.next + 1 /\ X'.get X.next = some (.cells ((ps ++ [p]).map (AV.ptr · 0)) 1 false) /\ ∀ j,j < X.next -> lv ≠ .eslice j 0 0 ps.length -> X'.get j = X.get j := by
 rcases x with ⟨rfl,rfl⟩ | ⟨K,h0,rfl,h1,h2⟩
 ·refine ⟨_,app_nil E hq (cut_all rfl) rfl rfl,rfl,new_same _ _,fun j hj _ => new_ne _ _ (by omega)⟩
 ·refine ⟨_,app_es E h2 (by simp) (by omega) hq (cut_all rfl) rfl rfl,rfl, ?_,fun j hj hj2 => ?_⟩
  ·rw [List.map_append]
   exact new_same (X.put K none) _
  ·have : j ≠ K := fun e => hj2 (by rw [e])
   rw [new_ne _ _ (by show j ≠ X.next; omega),get_put_ne this]
theorem el70 : Elem Try.prog 70 78 0 ((Try.prog.info? 78).getD default) ((((Try.prog.info? 78).getD default).zero).getD default) := ⟨Try.underlying70,by kernel_rfl,by kernel_rfl,by kernel_rfl,by kernel_rfl,by decide +kernel⟩
theorem ap70 (call : CallK) (ρ : Operand -> AV) (dd : Option Tmp) (t : TypeId) (p : String) (a : Array Edge) (g : Option (Nat × Bool)) (h : Heap) (s x : Operand) : opE Try.prog call ρ ⟨dd, .call ⟨.builtin .append,#[s,x],#[70,70]⟩,t,p,a,g⟩ h = th (okv (ρ s)) fun u => th (okv (ρ x)) fun v => appE Try.prog 70 u v h := opE_append Try.underlying70 s x
theorem bsL1 (x : Nat) (h : Heap) : bsE Try.prog 39 1 [(0, .ptr x 0)] h = some (.slice h.next 0 1 1,h.new (.cells [.ptr x 0] 0 false)) := bsE_of (fun K => by kernel_rfl) h
theorem bsR1 (x : Nat) (h : Heap) : bsE Try.prog 70 1 [(0, .ptr x 0)] h = some (.slice h.next 0 1 1,h.new (.cells [.ptr x 0] 0 false)) := bsE_of (fun K => by kernel_rfl) h
structure KI (hh : Heap) (N : Nat) (C : Col) (kb kr s : Nat) (i : Nat) (ps qs : List Nat) (lv rv : AV) : Prop where
 pl : ps.length = i
 ql : qs.length = i
 le : N + 3 <= hh.next
 c0 : C N = 0
 cr : C (N + 1) = kr
 c2 : C (N + 2) = 0
 ls : (i = 0 /\ lv = .nilslice /\ rv = .nilslice) \/ ∃ Kl Kr,i ≠ 0 /\ lv = .eslice Kl 0 0 i /\ rv = .eslice Kr 0 0 i /\ Kl ≠ Kr /\ N + 2 < Kl /\ N + 2 < Kr /\ Kl < hh.next /\ Kr < hh.next /\ C Kl = 0 /\ C Kr = 0 /\ hh.get Kl = some (.cells (ps.map (AV.ptr · 0)) 1 false) /\ hh.get Kr = some (.cells (qs.map (AV.ptr · 0)) 1 false)
 mm : ∀ (k p : Nat),ps[k]? = some p -> MemI hh C (kb + 2 + k) p (MS.new s)
 rr : ∀ (k q : Nat),qs[k]? = some q -> q < hh.next /\ C q = kr + 2 + k /\ hh.get q = some (.cells (refG s .nilslice .nilslice .nilslice false false) 0 false)
theorem over41 (a b c d v : AV) (hv : isSc v = true) : overE 1 [v] [a,b,c,d] = some [a,v,c,d] := by
 unfold overE
 rw [if_pos ⟨by simp,by simp [allSc,hv]⟩]
 rfl
theorem over50 (a b c d e v : AV) (hv : isSc v = true) : overE 0 [v] [a,b,c,d,e] = some [v,b,c,d,e] := by
 unfold overE
 rw [if_pos ⟨by simp,by simp [allSc,hv]⟩]
 rfl
theorem sl_z_hi {P : Program} {t e n : Nat} (hu : P.underlying t = some (.slice e)) (hz : szE P e = some n) (a : Addr) {q : IntKind} : sliceE P t (.zslice a) none (some (.int q 0)) none = some (.zslice a) := by
 simp only [sliceE,sliceK,unK_E,hu,th_some,bndK_E,bndE,asIE,szK_E,hz,fN_eq]
 rfl
theorem stps_cut {l : List Stp} {us junk : List AV} {i : Nat} {s : Stp} {u : AV} (hl : ∀ s ∈ l,s.data.length = 64) (h1 : us.length = l.length) (hs : l[i]? = some s) (hu : us[i]? = some u) : cutE (i * 70) 70 (stpsC (l.zip us) ++ junk) = some (s.C u) := by
 have hzip : (l.zip us)[i]? = some (s,u) := by rw [List.getElem?_zip_eq_some]; exact ⟨hs,hu⟩
 have hzl : ∀ x ∈ l.zip us,(x.1.C x.2).length = 70 := fun x hx => x.1.C_len x.2 (hl _ (List.of_mem_zip hx).1)
 have hcut : cutE (i * 70) 70 (stpsC (l.zip us)) = some (s.C u) := flat_cut (fun x : Stp × AV => x.1.C x.2) 70 (l.zip us) i (s,u) hzl hzip
 have hle := cutE_len hcut
 rw [cutE_of hle] at hcut
 rw [cutE_of (by rw [List.length_append]; omega),List.drop_append_of_le_length (by omega),List.take_append_of_le_length (by rw [List.length_drop]; omega)]
 exact hcut
theorem el72 : Elem Try.prog 72 84 69 ((Try.prog.info? 84).getD default) ((((Try.prog.info? 84).getD default).zero).getD default) := ⟨Try.underlying72,by kernel_rfl,by kernel_rfl,by kernel_rfl,by kernel_rfl,by decide +kernel⟩
theorem ap72 (call : CallK) (ρ : Operand -> AV) (dd : Option Tmp) (t : TypeId) (p : String) (a : Array Edge) (g : Option (Nat × Bool)) (h : Heap) (s x : Operand) : opE Try.prog call ρ ⟨dd, .call ⟨.builtin .append,#[s,x],#[72,72]⟩,t,p,a,g⟩ h = th (okv (ρ s)) fun u => th (okv (ρ x)) fun v => appE Try.prog 72 u v h := opE_append Try.underlying72 s x
theorem bs72 (s : Stp) (u : AV) (hs : s.data.length = 64) (hu : isSc u = true) (h : Heap) : bsE Try.prog 72 1 [(0, .agg (s.C u))] h = some (.slice h.next 0 1 1,h.new (.cells (s.C u) 0 false)) := bs_one Try.underlying72 (s := 69) (by kernel_rfl) (z := ((zeroE Try.prog 84).getD .nilptr)) (by kernel_rfl) (by kernel_rfl) (by kernel_rfl) (s.C_len u hs) (s.C_sc u hu) h
theorem stp_mk (s : Stp) (hs : s.data.length = 64) : overE 5 (B s.data) (((((stpZ.set 0 (AV.int IntKind.i64 s.tm)).set 1 (AV.int IntKind.i64 s.kind)).set 2 (AV.int IntKind.i64 s.m)).set 3 (AV.int IntKind.i64 s.i)).set 4 (AV.int IntKind.i64 s.n)) = some (s.C .nilslice) := by
 have e : (((((stpZ.set 0 (AV.int IntKind.i64 s.tm)).set 1 (AV.int IntKind.i64 s.kind)).set 2 (AV.int IntKind.i64 s.m)).set 3 (AV.int IntKind.i64 s.i)).set 4 (AV.int IntKind.i64 s.n)) = AV.int IntKind.i64 s.tm :: AV.int IntKind.i64 s.kind :: AV.int IntKind.i64 s.m :: AV.int IntKind.i64 s.i :: AV.int IntKind.i64 s.n :: (B zz ++ [AV.nilslice]) := rfl
 rw [e]
 unfold overE
 rw [if_pos ⟨by simp [B_len,zz_len,hs],allSc_B _⟩]
 simp only [List.take_succ_cons,List.take_zero,B_len,hs]
 rw [show 5 + 64 = 64 + 1 + 1 + 1 + 1 + 1 from rfl]
 simp only [List.drop_succ_cons]
 rw [List.drop_append_of_le_length (by rw [B_len,zz_len]; omega),List.drop_of_length_le (by rw [B_len,zz_len]; omega)]
 simp [Stp.C]
theorem stp_pk (s : Stp) (u : AV) (hs : s.data.length = 64) (hu : isSc u = true) : overE 69 [u] (s.C .nilslice) = some (s.C u) := by
 rw [overE_one (by rw [s.C_len _ hs]; omega),hu,scE_true,<- s.C_set .nilslice u hs]
theorem PickA.cl {h : Heap} {u : AV} {l : List Nat} (x : PickA h u l) : u.cells = [u] := by
 rcases x with ⟨_,rfl | ⟨q,o,n,rfl⟩ | ⟨a,rfl⟩⟩ | ⟨K,o,n,C,ext,ro,_,rfl,_⟩ <;> rfl
theorem stp_pk2 (s : Stp) (u u' : AV) (hs : s.data.length = 64) (hu : isSc u' = true) : overE 69 [u'] (s.C u) = some (s.C u') := by
 rw [overE_one (by rw [s.C_len _ hs]; omega),hu,scE_true,<- s.C_set u u' hs]
def PickK (h : Heap) (u : AV) (l : List Nat) : Prop := PickA h u l /\ ∀ K o n,u = .slice K o l.length n -> l.length <= n
theorem PickK.cut {h : Heap} {u : AV} {l : List Nat} (x : PickK h u l) (n : Nat) (hn : n <= l.length) : ∃ u',sliceE Try.prog 33 u none (some (.int .i64 (n : Int))) none = some u' /\ PickA h u' (l.take n) := by
 obtain ⟨x,hc⟩ := x
 rcases x with ⟨rfl,y⟩ | ⟨K,o,m,cs,ext,ro,h0,rfl,h1,h2,h3⟩
 ·obtain rfl : n = 0 := by simpa using hn
  refine ⟨u, ?_, .inl ⟨rfl,y⟩⟩
  rcases y with rfl | ⟨q,o,n,rfl⟩ | ⟨a,rfl⟩
  ·exact sl_nil_hi Try.underlying33 sz5
  ·exact sl_s_hi Try.underlying33 sz5 ..
  ·exact sl_z_hi Try.underlying33 sz5 a
 ·have hm := hc K o m rfl
  refine ⟨_,sl_s_hiN Try.underlying33 sz5 K o l.length m n (by omega), ?_⟩
  have hlen : (l.take n).length = n := by rw [List.length_take]; omega
  by_cases h9 : n = 0
  ·subst h9; exact .inl ⟨rfl, .inr (.inl ⟨K,o,m,rfl⟩)⟩
  ·exact .inr ⟨K,o,m,cs,ext,ro,fun e => by rw [e] at hlen; simp at hlen; omega,by rw [hlen],h1,h2,by rw [hlen]; exact cut_take h3 rfl hn⟩
theorem PickA.len {h : Heap} {u : AV} {l : List Nat} (x : PickA h u l) : lenE Try.prog 33 u = some (.int .i64 (l.length : Int)) := by
 rcases x with ⟨rfl,rfl | ⟨q,o,n,rfl⟩ | ⟨a,rfl⟩⟩ | ⟨K,o,n,cs,ext,ro,_,rfl,_⟩
 ·exact len_nilslice Try.underlying33
 ·exact len_slice Try.underlying33 ..
 ·kernel_rfl
 ·exact len_slice Try.underlying33 ..
structure StK (h : Heap) (sv : AV) (l : List Stp) (us : List AV) : Prop where
 ok : okv sv = some sv
 same : AV.same sv sv = true
 len : lenE Try.prog 49 sv = some (.int .i64 (l.length : Int))
 ul : us.length = l.length
 at_ : ∀ (i : Nat) (s : Stp),l[i]? = some s -> ∃ K junk ext ro u,K < h.next /\ us[i]? = some u /\ h.get K = some (.cells (stpsC (l.zip us) ++ junk) ext ro) /\ indexAddrE Try.prog 49 sv (.int .i64 (i : Int)) = some (.ptr K (i * 70)) /\ PickK h u s.picks
def Stp.cut (s : Stp) : Stp := { s with picks := s.picks.take 300 }
def cutL (l : List Stp) : List Stp := (l.take 40).map Stp.cut
theorem cutL_len (l : List Stp) : (cutL l).length = min l.length 40 := by simp [cutL,Nat.min_comm]
theorem cutL_get {l : List Stp} {i : Nat} {s : Stp} (h : l[i]? = some s) (hi : i < 40) : (cutL l)[i]? = some s.cut := by
 simp [cutL,h,List.getElem?_take_of_lt hi]
theorem apT (call : CallK) (ρ : Operand -> AV) (dd : Option Tmp) (t : TypeId) (p : String) (a : Array Edge) (g : Option (Nat × Bool)) (h : Heap) (s x : Operand) : opE Try.prog call ρ ⟨dd, .call ⟨.builtin .append,#[s,x],#[49,49]⟩,t,p,a,g⟩ h = th (okv (ρ s)) fun u => th (okv (ρ x)) fun v => appE Try.prog 49 u v h := opE_append Try.underlying49 s x
theorem bsT (s : Stp) (u : AV) (hs : s.data.length = 64) (hu : isSc u = true) (h : Heap) : bsE Try.prog 49 1 [(0, .agg (s.C u))] h = some (.slice h.next 0 1 1,h.new (.cells (s.C u) 0 false)) := bs_one Try.underlying49 (s := 69) (by kernel_rfl) (z := ((zeroE Try.prog 64).getD .nilptr)) (by kernel_rfl) (by kernel_rfl) (by kernel_rfl) (s.C_len u hs) (s.C_sc u hu) h
theorem stp_69 {s : Stp} {u : AV} (hs : s.data.length = 64) : (s.C u)[69]? = some u := by
 show (B s.data ++ [u])[64]? = _
 rw [List.getElem?_append_right (by simp [B_len,hs])]
 simp [B_len,hs]
theorem stp_dat {s : Stp} {u : AV} (hs : s.data.length = 64) : cutE 5 64 (s.C u) = some (B s.data) := by
 rw [cutE_of (by rw [s.C_len _ hs]; omega)]
 show some ((B s.data ++ [u]).take 64) = _
 rw [List.take_append_of_le_length (by rw [B_len,hs]; omega),List.take_of_length_le (by rw [B_len,hs]; omega)]
theorem over42 (a b c d v : AV) (hv : isSc v = true) : overE 2 [v] [a,b,c,d] = some [a,b,v,d] := by
 unfold overE
 rw [if_pos ⟨by simp,by simp [allSc,hv]⟩]
 rfl
theorem over51 (a b c d e v : AV) (hv : isSc v = true) : overE 1 [v] [a,b,c,d,e] = some [a,v,c,d,e] := by
 unfold overE
 rw [if_pos ⟨by simp,by simp [allSc,hv]⟩]
 rfl
theorem over52 (a b c d e v : AV) (hv : isSc v = true) : overE 2 [v] [a,b,c,d,e] = some [a,b,v,d,e] := by
 unfold overE
 rw [if_pos ⟨by simp,by simp [allSc,hv]⟩]
 rfl
def BS.mkK (n s : Nat) (x : Nat × List Nat) (l : List Stp) : BS := ⟨List.replicate n (MS.new s),[x],l,false,[]⟩
def KitR (h hF : Heap) (C : Col) (kr ρ n s : Nat) (x : Nat × List Nat) (l : List Stp) : Prop := ∃ (Kr cx : Nat) (rtv : AV) (ws : List AV) (qs : List Nat),ρ < hF.next /\ C ρ = kr /\ hF.get ρ = some (Blk.cells [AV.eslice Kr 0 0 n,AV.ptr cx 0,rtv,AV.bool false,AV.nilslice] 0 false) /\ Kr < hF.next /\ C Kr = 0 /\ hF.get Kr = some (.cells (qs.map (AV.ptr · 0)) 1 false) /\ qs.length = n /\ (∀ (k q : Nat),qs[k]? = some q -> q < hF.next /\ C q = kr + 2 + k /\ hF.get q = some (.cells (refG s .nilslice .nilslice .nilslice false false) 0 false)) /\ RCellI hF C (kr + 1) cx 1 x /\ Own 70 h.next hF rtv (stpsC (l.zip ws)) l.length /\ (∀ K,blkE rtv = some K -> C K = 0) /\ ws.length = l.length /\ ∀ (k : Nat) (s : Stp) (u : AV),l[k]? = some s -> ws[k]? = some u -> PickA h u s.picks
set_option maxHeartbeats 8000000 in
theorem kit_made (d : Nat) (h : Heap) (c : Col) (kb kr n s n0 : Nat) (t0 : List Nat) (sv : AV) (l : List Stp) (us : List AV) (hsv : StK h sv l us) (hsd : ∀ s ∈ l,s.data.length = 64) (kb10 : 10 <= kb) (hkr : kb + 100 <= kr) (hn : 1 <= n) (hn64 : n <= 64) (hs : 1 <= s) (hs2 : s <= 2000) (ht : t0.length = 32) (hn0 : n0 <= 4611686018427387904) (Q : AV -> Heap -> Prop)
  (hQ : ∀ X β cp ρ Lb ps C h',X < h'.next -> C X = 0 -> h'.get X = some (.cells [.ptr β 0, .eslice Lb 0 0 n, .ptr cp 0, .ptr ρ 0] 0 false) -> Lb < h'.next -> C Lb = 0 -> h'.get Lb = some (.cells (ps.map (AV.ptr · 0)) 1 false) -> ps.length = n -> BusI h' C kb β cp ps (BS.mkK n s (n0,t0) (cutL l)) -> KitR h h' C kr ρ n s (n0,t0) (cutL l) -> Keeps h h' -> h.next <= X -> (∀ j,j < h.next -> C j = c j) -> Q (.ptr X 0) h') :
  G (callD env (d + 9) 7 [.int .i64 (n : Int), .int .i64 (s : Int), .agg (cC n0 t0),sv] h) Q := by
 have hzc := cC_len n0 t0 ht
 have hcc := cC_cut n0 t0 ht
 have bn0 : (AV.nilptr :: AV.nilslice :: (List.replicate 2 AV.nilptr).set 1 (AV.ptr (h.next + 1) 0)) = [.nilptr, .nilslice, .nilptr, .ptr (h.next + 1) 0] := rfl
 rw [callD_run (E := env) [(11, .fl [(3,0,3),(7,0,2),(10,0,2)]),(25, .fl [(3,0,2),(7,0,1),(10,0,1)])] (by kernel_rfl) Try.func7 rfl (by rw [Try.ntmps7]; simp) (by kernel_rfl)]; simp (maxSteps := 2000000) (implicitDefEqProofs := false) (disch := first | omega | (simp only [SD.down,uA,uL] <;> omega) | fail) only [Try.ntmps7,Try.results7,env_P,env_L,hzc,hcc,bn0,TQ.down,resE,oneV, ↓reduceIte,reduceCtorEq,uB,uE,uL,uA,uM,uS,uN,uX,uO,vR,vD,vL,vK,vE,vA,vM,vT,vS]
 have g0 : (((h.new (Blk.cells (cC n0 t0) 0 false)).new (Blk.cells [AV.nilslice,AV.nilptr,AV.nilslice,AV.bool false,AV.nilslice] 0 false)).new (Blk.cells [.nilptr, .nilslice, .nilptr, .ptr (h.next + 1) 0] 0 false)).get h.next = some (Blk.cells (cC n0 t0) 0 false) := by simp (maxSteps := 2000000) (implicitDefEqProofs := false) (disch := first | omega | (simp only [SD.down,uA,uL] <;> omega) | fail) only [TQ.down,resE,oneV, ↓reduceIte,reduceCtorEq,uB,uE,uL,uA,uM,uS,uN,uX,uO,vR,vD,vL,vK,vE,vA,vM,vT,vS]
 have g1 : (((h.new (Blk.cells (cC n0 t0) 0 false)).new (Blk.cells [AV.nilslice,AV.nilptr,AV.nilslice,AV.bool false,AV.nilslice] 0 false)).new (Blk.cells [.nilptr, .nilslice, .nilptr, .ptr (h.next + 1) 0] 0 false)).get (h.next + 1) = some (Blk.cells [AV.nilslice,AV.nilptr,AV.nilslice,AV.bool false,AV.nilslice] 0 false) := by simp (maxSteps := 2000000) (implicitDefEqProofs := false) (disch := first | omega | (simp only [SD.down,uA,uL] <;> omega) | fail) only [TQ.down,resE,oneV, ↓reduceIte,reduceCtorEq,uB,uE,uL,uA,uM,uS,uN,uX,uO,vR,vD,vL,vK,vE,vA,vM,vT,vS]
 have g2 : (((h.new (Blk.cells (cC n0 t0) 0 false)).new (Blk.cells [AV.nilslice,AV.nilptr,AV.nilslice,AV.bool false,AV.nilslice] 0 false)).new (Blk.cells [.nilptr, .nilslice, .nilptr, .ptr (h.next + 1) 0] 0 false)).get (h.next + 2) = some (Blk.cells [.nilptr, .nilslice, .nilptr, .ptr (h.next + 1) 0] 0 false) := by simp (maxSteps := 2000000) (implicitDefEqProofs := false) (disch := first | omega | (simp only [SD.down,uA,uL] <;> omega) | fail) only [TQ.down,resE,oneV, ↓reduceIte,reduceCtorEq,uB,uE,uL,uA,uM,uS,uN,uX,uO,vR,vD,vL,vK,vE,vA,vM,vT,vS]
 have n3 : (((h.new (Blk.cells (cC n0 t0) 0 false)).new (Blk.cells [AV.nilslice,AV.nilptr,AV.nilslice,AV.bool false,AV.nilslice] 0 false)).new (Blk.cells [.nilptr, .nilslice, .nilptr, .ptr (h.next + 1) 0] 0 false)).next = h.next + 3 := by simp (maxSteps := 2000000) (implicitDefEqProofs := false) (disch := first | omega | (simp only [SD.down,uA,uL] <;> omega) | fail) only [TQ.down,resE,oneV, ↓reduceIte,reduceCtorEq,uB,uE,uL,uA,uM,uS,uN,uX,uO,vR,vD,vL,vK,vE,vA,vM,vT,vS]
 have k0 : Keeps h (((h.new (Blk.cells (cC n0 t0) 0 false)).new (Blk.cells [AV.nilslice,AV.nilptr,AV.nilslice,AV.bool false,AV.nilslice] 0 false)).new (Blk.cells [.nilptr, .nilslice, .nilptr, .ptr (h.next + 1) 0] 0 false)) := (Keeps.refl h).post (by simp (maxSteps := 2000000) (implicitDefEqProofs := false) (disch := first | omega | (simp only [SD.down,uA,uL] <;> omega) | fail) only [TQ.down,resE,oneV, ↓reduceIte,reduceCtorEq,uB,uE,uL,uA,uM,uS,uN,uX,uO,vR,vD,vL,vK,vE,vA,vM,vT,vS] <;> omega) (fun j hj => by simp (maxSteps := 2000000) (implicitDefEqProofs := false) (disch := first | omega | (simp only [SD.down,uA,uL] <;> omega) | fail) only [TQ.down,resE,oneV, ↓reduceIte,reduceCtorEq,uB,uE,uL,uA,uM,uS,uN,uX,uO,vR,vD,vL,vK,vE,vA,vM,vT,vS])
 generalize (((h.new (Blk.cells (cC n0 t0) 0 false)).new (Blk.cells [AV.nilslice,AV.nilptr,AV.nilslice,AV.bool false,AV.nilslice] 0 false)).new (Blk.cells [.nilptr, .nilslice, .nilptr, .ptr (h.next + 1) 0] 0 false)) = H0 at g0 g1 g2 n3 k0 ⊢
 rw [run_loop]
 refine loop_ind (fun j σ hh => ∃ (i : Nat) (ps qs : List Nat) (lv rv : AV) (C : Col),i + j = n /\ σ 0 = .int .i64 (n : Int) /\ σ 1 = .int .i64 (s : Int) /\ σ 3 = sv /\ σ 6 = .ptr h.next 0 /\ σ 9 = .ptr (h.next + 2) 0 /\ σ 10 = .int .i64 (i : Int) /\ KI hh h.next C kb kr s i ps qs lv rv /\ hh.get h.next = some (Blk.cells (cC n0 t0) 0 false) /\ hh.get (h.next + 1) = some (Blk.cells [rv,AV.nilptr,AV.nilslice,AV.bool false,AV.nilslice] 0 false) /\ hh.get (h.next + 2) = some (Blk.cells [.nilptr,lv, .nilptr, .ptr (h.next + 1) 0] 0 false) /\ Keeps h hh /\ ∀ j,j < h.next -> C j = c j) ?_ ?_ n _ _ _ (by simp; omega) ?_
 ·rintro mm σ hh ⟨i,ps,qs,lv,rv,C,hi,s0,s1,s3,s6,s9,s10,M,gc,gr,gb,kh,hC⟩
  obtain rfl : i = n := by omega
  have hNA : h.next + 3 <= hh.next := M.le
  rcases M.ls with ⟨e1,_⟩ | ⟨Kl,Kr,_,rfl,rfl,el1,el2,el3,el4,el5,el6,el7,el8,el9⟩
  ·omega
  have ek := cnewN (d + 7) hh n0 t0 ht hn0
  simp (maxSteps := 2000000) (implicitDefEqProofs := false) (disch := first | omega | (simp only [SD.down,uA,uL] <;> omega) | fail) only [run_it,s0,s1,s3,s6,s9,s10,gc,hcc,ek,env_P,env_L,TQ.down,resE,oneV, ↓reduceIte,reduceCtorEq,uB,uE,uL,uA,uM,uS,uN,uX,uO,vR,vD,vL,vK,vE,vA,vM,vT,vS]
  have kC : Keeps hh (((hh.new (Blk.cells (cC n0 t0) 0 false)).new (Blk.cells (cC n0 t0) 0 false)).new (Blk.cells [AV.slice (hh.next + 1) 0 1 1] 0 false)) := (Keeps.refl hh).post (by simp (maxSteps := 2000000) (implicitDefEqProofs := false) (disch := first | omega | (simp only [SD.down,uA,uL] <;> omega) | fail) only [TQ.down,resE,oneV, ↓reduceIte,reduceCtorEq,uB,uE,uL,uA,uM,uS,uN,uX,uO,vR,vD,vL,vK,vE,vA,vM,vT,vS] <;> omega) (fun j hj => by simp (maxSteps := 2000000) (implicitDefEqProofs := false) (disch := first | omega | (simp only [SD.down,uA,uL] <;> omega) | fail) only [TQ.down,resE,oneV, ↓reduceIte,reduceCtorEq,uB,uE,uL,uA,uM,uS,uN,uX,uO,vR,vD,vL,vK,vE,vA,vM,vT,vS])
  have nC : (((hh.new (Blk.cells (cC n0 t0) 0 false)).new (Blk.cells (cC n0 t0) 0 false)).new (Blk.cells [AV.slice (hh.next + 1) 0 1 1] 0 false)).next = hh.next + 3 := by simp (maxSteps := 2000000) (implicitDefEqProofs := false) (disch := first | omega | (simp only [SD.down,uA,uL] <;> omega) | fail) only [TQ.down,resE,oneV, ↓reduceIte,reduceCtorEq,uB,uE,uL,uA,uM,uS,uN,uX,uO,vR,vD,vL,vK,vE,vA,vM,vT,vS]
  have gC1 : (((hh.new (Blk.cells (cC n0 t0) 0 false)).new (Blk.cells (cC n0 t0) 0 false)).new (Blk.cells [AV.slice (hh.next + 1) 0 1 1] 0 false)).get (hh.next + 1) = some (Blk.cells (cC n0 t0) 0 false) := by simp (maxSteps := 2000000) (implicitDefEqProofs := false) (disch := first | omega | (simp only [SD.down,uA,uL] <;> omega) | fail) only [TQ.down,resE,oneV, ↓reduceIte,reduceCtorEq,uB,uE,uL,uA,uM,uS,uN,uX,uO,vR,vD,vL,vK,vE,vA,vM,vT,vS]
  have gC2 : (((hh.new (Blk.cells (cC n0 t0) 0 false)).new (Blk.cells (cC n0 t0) 0 false)).new (Blk.cells [AV.slice (hh.next + 1) 0 1 1] 0 false)).get (hh.next + 2) = some (Blk.cells [AV.slice (hh.next + 1) 0 1 1] 0 false) := by simp (maxSteps := 2000000) (implicitDefEqProofs := false) (disch := first | omega | (simp only [SD.down,uA,uL] <;> omega) | fail) only [TQ.down,resE,oneV, ↓reduceIte,reduceCtorEq,uB,uE,uL,uA,uM,uS,uN,uX,uO,vR,vD,vL,vK,vE,vA,vM,vT,vS]
  generalize (((hh.new (Blk.cells (cC n0 t0) 0 false)).new (Blk.cells (cC n0 t0) 0 false)).new (Blk.cells [AV.slice (hh.next + 1) 0 1 1] 0 false)) = HC at kC nC gC1 gC2 ⊢
  have gcC := kC.at (by omega) gc
  first | refine G.call (rcnew (d + 7) HC n0 t0 ht hn0) ?_ | refine G.callC (rcnew (d + 7) HC n0 t0 ht hn0) ?_ | refine G.callL (rcnew (d + 7) HC n0 t0 ht hn0) ?_
  rintro v H2 ⟨cx,rfl,k2,cx1,cx2,hRC⟩
  have k2n := k2.1
  have gb2 := k2.at (by omega) (kC.at (by omega) gb)
  have gr2 := k2.at (by omega) (kC.at (by omega) gr)
  have ovb : overE 2 [AV.ptr (hh.next + 2) 0] [.nilptr, .eslice Kl 0 0 i, .nilptr, .ptr (h.next + 1) 0] = some [.nilptr, .eslice Kl 0 0 i, .ptr (hh.next + 2) 0, .ptr (h.next + 1) 0] := over42 _ _ _ _ _ rfl
  have ovr : overE 1 [AV.ptr cx 0] [AV.eslice Kr 0 0 i,AV.nilptr,AV.nilslice,AV.bool false,AV.nilslice] = some [AV.eslice Kr 0 0 i,AV.ptr cx 0,AV.nilslice,AV.bool false,AV.nilslice] := over51 _ _ _ _ _ _ rfl
  simp (maxSteps := 2000000) (implicitDefEqProofs := false) (disch := first | omega | (simp only [SD.down,uA,uL] <;> omega) | fail) only [gb2,gr2,ovb,ovr,s0,s1,s3,s6,s9,s10,env_P,env_L,TQ.down,resE,oneV, ↓reduceIte,reduceCtorEq,uB,uE,uL,uA,uM,uS,uN,uX,uO,vR,vD,vL,vK,vE,vA,vM,vT,vS]
  obtain ⟨HP,hHP⟩ : ∃ HP,HP = (H2.put (h.next + 2) (some (Blk.cells [.nilptr, .eslice Kl 0 0 i, .ptr (hh.next + 2) 0, .ptr (h.next + 1) 0] 0 false))).put (h.next + 1) (some (Blk.cells [AV.eslice Kr 0 0 i,AV.ptr cx 0,AV.nilslice,AV.bool false,AV.nilslice] 0 false)) := ⟨_,rfl⟩
  have nP : HP.next = H2.next := by rw [hHP]; simp (maxSteps := 2000000) (implicitDefEqProofs := false) (disch := first | omega | (simp only [SD.down,uA,uL] <;> omega) | fail) only [TQ.down,resE,oneV, ↓reduceIte,reduceCtorEq,uB,uE,uL,uA,uM,uS,uN,uX,uO,vR,vD,vL,vK,vE,vA,vM,vT,vS]
  have gbP : HP.get (h.next + 2) = some (Blk.cells [.nilptr, .eslice Kl 0 0 i, .ptr (hh.next + 2) 0, .ptr (h.next + 1) 0] 0 false) := by rw [hHP]; simp (maxSteps := 2000000) (implicitDefEqProofs := false) (disch := first | omega | (simp only [SD.down,uA,uL] <;> omega) | fail) only [TQ.down,resE,oneV, ↓reduceIte,reduceCtorEq,uB,uE,uL,uA,uM,uS,uN,uX,uO,vR,vD,vL,vK,vE,vA,vM,vT,vS]
  have grP : HP.get (h.next + 1) = some (Blk.cells [AV.eslice Kr 0 0 i,AV.ptr cx 0,AV.nilslice,AV.bool false,AV.nilslice] 0 false) := by rw [hHP]; simp (maxSteps := 2000000) (implicitDefEqProofs := false) (disch := first | omega | (simp only [SD.down,uA,uL] <;> omega) | fail) only [TQ.down,resE,oneV, ↓reduceIte,reduceCtorEq,uB,uE,uL,uA,uM,uS,uN,uX,uO,vR,vD,vL,vK,vE,vA,vM,vT,vS]
  have fP : ∀ j,j ≠ h.next + 1 -> j ≠ h.next + 2 -> HP.get j = H2.get j := fun j h1 h2 => by rw [hHP]; simp (maxSteps := 2000000) (implicitDefEqProofs := false) (disch := first | omega | (simp only [SD.down,uA,uL] <;> omega) | fail) only [TQ.down,resE,oneV, ↓reduceIte,reduceCtorEq,uB,uE,uL,uA,uM,uS,uN,uX,uO,vR,vD,vL,vK,vE,vA,vM,vT,vS]
  rw [<- hHP]
  have fA : ∀ j,j < hh.next -> j ≠ h.next + 1 -> j ≠ h.next + 2 -> HP.get j = hh.get j := fun j hj h1 h2 => by rw [fP j h1 h2,k2.2 j (by omega),kC.2 j hj]
  have khn := kh.1
  have khP : Keeps h HP := ⟨by omega,fun j hj => (fA j (by omega) (by omega) (by omega)).trans (kh.2 j hj)⟩
  have hcl := cutL_len l
  rw [run_loop]
  refine loop_ind (fun j τ hb => ∃ (q : Nat) (tv rtv : AV) (ws : List AV),q + j = (cutL l).length /\ τ 3 = sv /\ τ 9 = .ptr (h.next + 2) 0 /\ τ 13 = .ptr (hh.next + 2) 0 /\ τ 17 = tv /\ τ 18 = .int .i64 (q : Int) /\ HP.next <= hb.next /\ (∀ j,j < HP.next -> j ≠ h.next + 1 -> hb.get j = HP.get j) /\ hb.get (h.next + 1) = some (Blk.cells [AV.eslice Kr 0 0 i,AV.ptr cx 0,rtv,AV.bool false,AV.nilslice] 0 false) /\ ws.length = q /\ Own 70 HP.next hb tv (stpsC (((cutL l).take q).zip ws)) q /\ Own 70 HP.next hb rtv (stpsC (((cutL l).take q).zip ws)) q /\ (∀ K,blkE tv = some K -> blkE rtv ≠ some K) /\ ∀ (k : Nat) (s : Stp) (u : AV),((cutL l).take q)[k]? = some s -> ws[k]? = some u -> PickA h u s.picks) ?_ ?_ (cutL l).length _ _ _ (by simp [hcl]; omega) ?_
  ·rintro mm2 τ hb ⟨q,tv,rtv,ws,hq,t3,t9,t13,t17,t18,nb,fb,gbr,wl,ow,owr,odj,hpk⟩
   obtain rfl : q = (cutL l).length := by omega
   rw [List.take_of_length_le (Nat.le_refl _)] at ow owr hpk
   have gbb := (fb (h.next + 2) (by omega) (by omega)).trans gbP
   have khb : Keeps h hb := ⟨by omega,fun j hj => (fb j (by omega) (by omega)).trans (khP.2 j hj)⟩
   have f4 : ∀ j,j < hh.next -> j ≠ h.next + 1 -> j ≠ h.next + 2 -> hb.get j = hh.get j := fun j hj h1 h2 => (fb j (by omega) h1).trans (fA j hj h1 h2)
   have lp := M.pl
   have hst : StA hb tv (cutL l) := by
    rcases ow with ⟨z,rfl,_⟩ | ⟨K,rfl,o1,o2,o3,o4,o5⟩
    ·exact .inl ⟨List.eq_nil_of_length_eq_zero z, .inl rfl⟩
    ·exact .inr ⟨K,ws,[],70,false,fun e => by rw [e] at o5; simp at o5, .inr rfl,o2,wl,by rw [List.append_nil]; exact o3,fun k s u h1 h2 => (hpk k s u h1 h2).keep khb⟩
   have hsd' : ∀ s ∈ cutL l,s.data.length = 64 := fun s hs => by
    obtain ⟨s0,hs0,rfl⟩ := List.mem_map.1 hs
    exact hsd s0 (List.mem_of_mem_take hs0)
   have hpk' : ∀ s ∈ cutL l,s.picks.length <= 140737488351232 := fun s hs => by
    obtain ⟨s0,hs0,rfl⟩ := List.mem_map.1 hs
    show (s0.picks.take 300).length <= _
    rw [List.length_take]; omega
   have hmm : ∀ (k p : Nat),ps[k]? = some p -> p < hb.next /\ ∃ n a b lgv mk f hu,0 < n /\ hb.get p = some (.cells (memG n a b lgv mk f hu) 0 false) := fun k p hp => by
    obtain ⟨a,b,lgv,mk,y1,y2,y3,z1,z2,z3,_,_,_,g,_⟩ := M.mm k p hp
    have hne : p ≠ h.next + 1 := fun e => by have := M.cr; have hk := (List.getElem?_eq_some_iff.1 hp).1; rw [e] at z1; omega
    have hne2 : p ≠ h.next + 2 := fun e => by have := M.c2; rw [e] at z1; omega
    exact ⟨by omega,s,a,b,lgv,mk,false,false,hs,(f4 p y1 hne hne2).trans g⟩
   have f2b : ∀ j,j < H2.next -> j ≠ h.next + 1 -> j ≠ h.next + 2 -> hb.get j = H2.get j := fun j hj h1 h2 => (fb j (by omega) h1).trans (fP j h1 h2)
   have gcp : hb.get (hh.next + 2) = some (Blk.cells [AV.slice (hh.next + 1) 0 1 1] 0 false) := (f2b _ (by omega) (by omega) (by omega)).trans (k2.at (by omega) gC2)
   have gcc : hb.get (hh.next + 1) = some (Blk.cells (cC n0 t0) 0 false) := (f2b _ (by omega) (by omega) (by omega)).trans (k2.at (by omega) gC1)
   have his : HisIs hb (.slice (hh.next + 1) 0 1 1) (hh.next + 1) [(n0,t0)] := .inl ⟨(n0,t0),rfl,rfl,gcc,by omega⟩
   have hKl := (f4 Kl el4 (by omega) (by omega)).trans el8
   have hb9 := bnewN (d + 1) hb Kl ps (by omega) (by omega) (by omega) hKl hmm (hh.next + 2) (hh.next + 1) _ (n0,t0) (by omega) gcp his ht tv (cutL l) hsd' (by omega) hpk' hst kb
   rw [lp] at hb9
   have fin : ∀ (β Ms : Nat) (stv : AV) (h6 : Heap),hb.next <= β -> hb.next <= Ms -> β < h6.next -> Ms < h6.next -> β ≠ Ms -> h6.get β = some (.cells [.eslice Ms 0 0 i, .ptr (hh.next + 2) 0,stv, .bool false, .nilslice] 0 false) -> h6.get Ms = some (.cells (ps.map (AV.ptr · 0)) 1 false) -> Keeps hb h6 -> (∀ C : Col,(∀ j,hb.next <= j -> C j = kb) -> StI h6 C kb stv [β,Ms] (cutL l)) -> G (some (AV.ptr (h.next + 2) 0,h6.put (h.next + 2) (some (Blk.cells [.ptr β 0, .eslice Kl 0 0 i, .ptr (hh.next + 2) 0, .ptr (h.next + 1) 0] 0 false)))) Q := by
    intro β Ms stv h6 b1 b2 b3 b4 b5 b6 b7 b8 b9
    have n6 := b8.1
    obtain ⟨hF,hhF⟩ : ∃ hF,hF = h6.put (h.next + 2) (some (Blk.cells [.ptr β 0, .eslice Kl 0 0 i, .ptr (hh.next + 2) 0, .ptr (h.next + 1) 0] 0 false)) := ⟨_,rfl⟩
    rw [<- hhF]
    have nF : hF.next = h6.next := by rw [hhF]; simp (maxSteps := 2000000) (implicitDefEqProofs := false) (disch := first | omega | (simp only [SD.down,uA,uL] <;> omega) | fail) only [TQ.down,resE,oneV, ↓reduceIte,reduceCtorEq,uB,uE,uL,uA,uM,uS,uN,uX,uO,vR,vD,vL,vK,vE,vA,vM,vT,vS]
    have gF : hF.get (h.next + 2) = some (Blk.cells [.ptr β 0, .eslice Kl 0 0 i, .ptr (hh.next + 2) 0, .ptr (h.next + 1) 0] 0 false) := by rw [hhF]; simp (maxSteps := 2000000) (implicitDefEqProofs := false) (disch := first | omega | (simp only [SD.down,uA,uL] <;> omega) | fail) only [TQ.down,resE,oneV, ↓reduceIte,reduceCtorEq,uB,uE,uL,uA,uM,uS,uN,uX,uO,vR,vD,vL,vK,vE,vA,vM,vT,vS]
    have fF : ∀ j,j ≠ h.next + 2 -> hF.get j = h6.get j := fun j hj => by rw [hhF]; simp (maxSteps := 2000000) (implicitDefEqProofs := false) (disch := first | omega | (simp only [SD.down,uA,uL] <;> omega) | fail) only [TQ.down,resE,oneV, ↓reduceIte,reduceCtorEq,uB,uE,uL,uA,uM,uS,uN,uX,uO,vR,vD,vL,vK,vE,vA,vM,vT,vS]
    clear hhF
    let CF : Col := fun j => if j < hh.next then C j else if j < HC.next then kb + 1 else if j < H2.next then kr + 1 else if j < hb.next then 0 else kb
    have hCF : ∀ j,CF j = if j < hh.next then C j else if j < HC.next then kb + 1 else if j < H2.next then kr + 1 else if j < hb.next then 0 else kb := fun _ => rfl
    have cf1 : ∀ j,j < hh.next -> CF j = C j := fun j hj => by rw [hCF,if_pos hj]
    have cf3 : ∀ j,hh.next <= j -> j < HC.next -> CF j = kb + 1 := fun j h1 h2 => by rw [hCF,if_neg (by omega),if_pos h2]
    have cf4 : ∀ j,HC.next <= j -> j < H2.next -> CF j = kr + 1 := fun j h1 h2 => by rw [hCF,if_neg (by omega),if_neg (by omega),if_pos h2]
    have cf5 : ∀ j,H2.next <= j -> j < hb.next -> CF j = 0 := fun j h1 h2 => by rw [hCF,if_neg (by omega),if_neg (by omega),if_neg (by omega),if_pos h2]
    have cf6 : ∀ j,hb.next <= j -> CF j = kb := fun j h1 => by rw [hCF,if_neg (by omega),if_neg (by omega),if_neg (by omega),if_neg (by omega)]
    clear_value CF
    have fbF : ∀ j,j < hb.next -> j ≠ h.next + 2 -> hF.get j = hb.get j := fun j hj hne => (fF j hne).trans (b8.2 j hj)
    have fhF : ∀ j,j < hh.next -> j ≠ h.next + 1 -> j ≠ h.next + 2 -> hF.get j = hh.get j := fun j hj h1 h2 => (fbF j (by omega) h2).trans (f4 j hj h1 h2)
    have hcr := M.cr
    have hc2 := M.c2
    have lq := M.ql
    refine G.ok (hQ (h.next + 2) β (hh.next + 2) (h.next + 1) Kl ps CF hF (by omega) ((cf1 _ (by omega)).trans hc2) gF (by omega) ((cf1 _ (by omega)).trans el6) ((fhF Kl (by omega) (by omega) (by omega)).trans el8) lp ?_ ?_ ⟨by omega,fun j hj => (fhF j (by omega) (by omega) (by omega)).trans (kh.2 j hj)⟩ (by omega) (fun j hj => (cf1 j (by omega)).trans (hC j hj)))
    ·refine ⟨Ms,stv, .nilslice,by omega,cf6 _ (by omega),by omega,cf6 _ (by omega),b5, ?_, ?_,by simp [BS.mkK,lp],fun k p S hp hS => ?_, ?_, ?_, .inl ⟨rfl,rfl⟩⟩
     ·rw [fF β (by omega),b6]
      simp [BS.mkK]
     ·rw [fF Ms (by omega),b7]
     ·have hS : (List.replicate i (MS.new s))[k]? = some S := hS
      have hk := (List.getElem?_eq_some_iff.1 hS).1
      simp at hk
      rw [List.getElem?_replicate,if_pos hk] at hS
      cases hS
      exact (M.mm k p hp).keep (by omega) (fun j hj hcj => fhF j hj (fun e => by rw [e,hcr] at hcj; omega) (fun e => by rw [e,hc2] at hcj; omega)) fun j hj hcj => (cf1 j hj).trans hcj
     ·exact ⟨.slice (hh.next + 1) 0 1 1,hh.next + 1,by omega,cf3 _ (by omega) (by omega),(fbF _ (by omega) (by omega)).trans gcp, .inl ⟨(n0,t0),rfl,rfl,(fbF _ (by omega) (by omega)).trans gcc,by omega⟩,cf3 _ (by omega) (by omega),by omega⟩
     ·refine (b9 CF cf6).keep (by omega) (fun j hj hcj _ _ => fF j fun e => ?_) fun j hj hcj => hcj
      rw [e,cf1 _ (by omega),hc2] at hcj
      omega
    ·refine ⟨Kr,cx,rtv,ws,qs,by omega,(cf1 _ (by omega)).trans hcr,(fbF _ (by omega) (by omega)).trans gbr,by omega,(cf1 _ (by omega)).trans el7,(fhF Kr (by omega) (by omega) (by omega)).trans el9,lq,fun k q hq => ?_, ?_, ?_,fun K hK => ?_,wl,hpk⟩
     ·obtain ⟨q1,q2,q3⟩ := M.rr k q hq
      have hk := (List.getElem?_eq_some_iff.1 hq).1
      exact ⟨by omega,(cf1 _ q1).trans q2,(fhF q q1 (fun e => by rw [e,hcr] at q2; omega) (fun e => by rw [e,hc2] at q2; omega)).trans q3⟩
     ·have := hRC CF (kr + 1) (fun j h1 h2 => cf4 j h1 h2)
      refine RCellI.fr (K := fun k => k ≠ kr + 1) this ⟨by omega,fun j hj hq => ?_⟩ (fun q => q rfl) fun _ _ => rfl
      have hq : CF j = kr + 1 := Classical.not_not.1 hq
      have j1 : j ≠ h.next + 1 := fun e => by rw [e,cf1 _ (by omega),hcr] at hq; omega
      have j2 : j ≠ h.next + 2 := fun e => by rw [e,cf1 _ (by omega),hc2] at hq; omega
      exact (fbF j (by omega) j2).trans (f2b j hj j1 j2)
     ·exact (owr.keep (by omega) fun j hj => fbF j (owr.ge hj).2 (by have := (owr.ge hj).1; omega)).mono (by omega)
     ·have := owr.ge hK
      exact cf5 K (by omega) (by omega)
   have dq : decide (((cutL l).length : Int) < (l.length : Int)) = decide ((cutL l).length < l.length) := by rw [Bool.eq_iff_iff]; simp
   by_cases hll : (cutL l).length < l.length
   all_goals
    simp (maxSteps := 2000000) (implicitDefEqProofs := false) (disch := first | omega | (simp only [SD.down,uA,uL] <;> omega) | fail) only [run_it,t3,t9,t13,t17,t18,hsv.ok,hsv.same,hsv.len,gbb,ow.ok,env_P,env_L,TQ.down,resE,oneV, ↓reduceIte,reduceCtorEq,uB,uE,uL,uA,uM,uS,uN,uX,uO,vR,vD,vL,vK,vE,vA,vM,vT,vS]
    first | refine G.call (hb9) ?_ | refine G.callC (hb9) ?_ | refine G.callL (hb9) ?_
    rintro v h6 ⟨β,Ms,stv,rfl,b1,b2,b3,b4,b5,b6,b7,b8,b9⟩
    have gb6 := b8.at (by omega) gbb
    have n6 := b8.1
    have ov6 : overE 0 [AV.ptr β 0] [.nilptr, .eslice Kl 0 0 i, .ptr (hh.next + 2) 0, .ptr (h.next + 1) 0] = some [.ptr β 0, .eslice Kl 0 0 i, .ptr (hh.next + 2) 0, .ptr (h.next + 1) 0] := rfl
    simp (maxSteps := 2000000) (implicitDefEqProofs := false) (disch := first | omega | (simp only [SD.down,uA,uL] <;> omega) | fail) only [run_it,t3,t9,t13,t17,t18,gb6,ov6,env_P,env_L,TQ.down,resE,oneV, ↓reduceIte,reduceCtorEq,uB,uE,uL,uA,uM,uS,uN,uX,uO,vR,vD,vL,vK,vE,vA,vM,vT,vS]
    exact fin β Ms stv h6 b1 b2 b3 b4 b5 b6 b7 b8 b9
  ·rintro j mm2 τ hb ⟨q,tv,rtv,ws,hq,t3,t9,t13,t17,t18,nb,fb,gbr,wl,ow,owr,odj,hpk⟩ ih2
   have hql : q < l.length := by omega
   have hq40 : q < 40 := by omega
   obtain ⟨s',hs'⟩ : ∃ s',l[q]? = some s' := ⟨_,List.getElem?_eq_getElem hql⟩
   obtain ⟨Ks,junk,ext,ro,u,K1,hu,gK,eidx,hpu⟩ := hsv.at_ q s' hs'
   have hsl := hsd s' (List.mem_of_getElem? hs')
   have kHP : HP.get Ks = h.get Ks := khP.2 Ks K1
   have gKb : hb.get Ks = some (.cells (stpsC (l.zip us) ++ junk) ext ro) := (fb Ks (by omega) (by omega)).trans (kHP.trans gK)
   have hcut := stps_cut (junk := junk) hsd hsv.ul hs' hu
   obtain ⟨uok,usc,usm⟩ := hpu.1.ok
   have ulen := hpu.1.len
   obtain ⟨u',eu',hpu'⟩ := hpu.cut (min s'.picks.length 300) (by omega)
   have emn : (min ((s'.picks.length : Nat) : Int) 300) = ((min s'.picks.length 300 : Nat) : Int) := by omega
   obtain ⟨uok',usc',usm'⟩ := hpu'.ok
   have spl := stpZ_len
   have hzz := zz_len
   have ucl' := hpu'.cl
   have epk := stp_pk2 s' u u' hsl usc'
   obtain ⟨H1,hH1⟩ : ∃ H1,H1 = ((hb.new (Blk.cells stpZ 0 false)).put hb.next (some (Blk.cells (s'.C u') 0 false))).new (Blk.cells (s'.C u') 0 false) := ⟨_,rfl⟩
   have nH1 : H1.next = hb.next + 2 := by rw [hH1]; simp (maxSteps := 2000000) (implicitDefEqProofs := false) (disch := first | omega | (simp only [SD.down,uA,uL] <;> omega) | fail) only [TQ.down,resE,oneV, ↓reduceIte,reduceCtorEq,uB,uE,uL,uA,uM,uS,uN,uX,uO,vR,vD,vL,vK,vE,vA,vM,vT,vS]
   have fH1 : ∀ j,j < hb.next -> H1.get j = hb.get j := fun j hj => by rw [hH1]; simp (maxSteps := 2000000) (implicitDefEqProofs := false) (disch := first | omega | (simp only [SD.down,uA,uL] <;> omega) | fail) only [TQ.down,resE,oneV, ↓reduceIte,reduceCtorEq,uB,uE,uL,uA,uM,uS,uN,uX,uO,vR,vD,vL,vK,vE,vA,vM,vT,vS]
   have g19 : H1.get hb.next = some (Blk.cells (s'.C u') 0 false) := by rw [hH1]; simp (maxSteps := 2000000) (implicitDefEqProofs := false) (disch := first | omega | (simp only [SD.down,uA,uL] <;> omega) | fail) only [TQ.down,resE,oneV, ↓reduceIte,reduceCtorEq,uB,uE,uL,uA,uM,uS,uN,uX,uO,vR,vD,vL,vK,vE,vA,vM,vT,vS]
   have g20 : H1.get (hb.next + 1) = some (Blk.cells (s'.C u') 0 false) := by rw [hH1]; simp (maxSteps := 2000000) (implicitDefEqProofs := false) (disch := first | omega | (simp only [SD.down,uA,uL] <;> omega) | fail) only [TQ.down,resE,oneV, ↓reduceIte,reduceCtorEq,uB,uE,uL,uA,uM,uS,uN,uX,uO,vR,vD,vL,vK,vE,vA,vM,vT,vS]
   have cl70 := s'.C_len u' hsl
   have csc := s'.C_sc u' usc'
   have ow1 : Own 70 HP.next H1 tv (stpsC (((cutL l).take q).zip ws)) q := ow.keep (by omega) fun j hj => fH1 j (ow.ge hj).2
   have owr1 : Own 70 HP.next H1 rtv (stpsC (((cutL l).take q).zip ws)) q := owr.keep (by omega) fun j hj => fH1 j (owr.ge hj).2
   obtain ⟨H3,ea,ow3,n3',f3⟩ := ow1.app (m := 0) (c := 1) el49 (by omega) (small_ok el49.small (by omega)) g20 (cut_all (by rw [cl70]; rfl)) (by rw [cl70]) csc
   have owr3 : Own 70 HP.next H3 rtv (stpsC (((cutL l).take q).zip ws)) q := owr1.keep (by omega) fun j hj => f3 j (by have := (owr.ge hj).2; omega) fun e => odj j e hj
   have tvn : ∀ j,j < HP.next -> blkE tv ≠ some j := fun j hj e => by have := (ow.ge e).1; omega
   have rvn : ∀ j,j < HP.next -> blkE rtv ≠ some j := fun j hj e => by have := (owr.ge e).1; omega
   have gb3 : H3.get (h.next + 2) = some (Blk.cells [.nilptr, .eslice Kl 0 0 i, .ptr (hh.next + 2) 0, .ptr (h.next + 1) 0] 0 false) := (f3 _ (by omega) (tvn _ (by omega))).trans ((fH1 _ (by omega)).trans ((fb _ (by omega) (by omega)).trans gbP))
   have gr3 : H3.get (h.next + 1) = some (Blk.cells [AV.eslice Kr 0 0 i,AV.ptr cx 0,rtv,AV.bool false,AV.nilslice] 0 false) := (f3 _ (by omega) (tvn _ (by omega))).trans ((fH1 _ (by omega)).trans gbr)
   have g193 : H3.get hb.next = some (Blk.cells (s'.C u') 0 false) := (f3 _ (by omega) fun e => by have := (ow.ge e).2; omega).trans g19
   obtain ⟨H4,hH4⟩ : ∃ H4,H4 = H3.new (Blk.cells (s'.C u') 0 false) := ⟨_,rfl⟩
   have nH4 : H4.next = H3.next + 1 := by rw [hH4]; simp (maxSteps := 2000000) (implicitDefEqProofs := false) (disch := first | omega | (simp only [SD.down,uA,uL] <;> omega) | fail) only [TQ.down,resE,oneV, ↓reduceIte,reduceCtorEq,uB,uE,uL,uA,uM,uS,uN,uX,uO,vR,vD,vL,vK,vE,vA,vM,vT,vS]
   have fH4 : ∀ j,j < H3.next -> H4.get j = H3.get j := fun j hj => by rw [hH4]; simp (maxSteps := 2000000) (implicitDefEqProofs := false) (disch := first | omega | (simp only [SD.down,uA,uL] <;> omega) | fail) only [TQ.down,resE,oneV, ↓reduceIte,reduceCtorEq,uB,uE,uL,uA,uM,uS,uN,uX,uO,vR,vD,vL,vK,vE,vA,vM,vT,vS]
   have g4 : H4.get H3.next = some (Blk.cells (s'.C u') 0 false) := by rw [hH4]; simp (maxSteps := 2000000) (implicitDefEqProofs := false) (disch := first | omega | (simp only [SD.down,uA,uL] <;> omega) | fail) only [TQ.down,resE,oneV, ↓reduceIte,reduceCtorEq,uB,uE,uL,uA,uM,uS,uN,uX,uO,vR,vD,vL,vK,vE,vA,vM,vT,vS]
   have owr4 : Own 70 HP.next H4 rtv (stpsC (((cutL l).take q).zip ws)) q := owr3.keep (by omega) fun j hj => fH4 j (owr3.ge hj).2
   obtain ⟨H5,ea5,ow5,n5',f5⟩ := owr4.app (m := 0) (c := 1) el72 (by omega) (small_ok el72.small (by omega)) g4 (cut_all (by rw [cl70]; rfl)) (by rw [cl70]) csc
   have gr5 : H5.get (h.next + 1) = some (Blk.cells [AV.eslice Kr 0 0 i,AV.ptr cx 0,rtv,AV.bool false,AV.nilslice] 0 false) := (f5 _ (by omega) (rvn _ (by omega))).trans ((fH4 _ (by omega)).trans gr3)
   have gb5 : H5.get (h.next + 2) = some (Blk.cells [.nilptr, .eslice Kl 0 0 i, .ptr (hh.next + 2) 0, .ptr (h.next + 1) 0] 0 false) := (f5 _ (by omega) (rvn _ (by omega))).trans ((fH4 _ (by omega)).trans gb3)
   have g195 : H5.get hb.next = some (Blk.cells (s'.C u') 0 false) := (f5 _ (by omega) fun e => by have := (owr.ge e).2; omega).trans ((fH4 _ (by omega)).trans g193)
   have ovs : overE 2 [AV.eslice H4.next 0 0 (q + 1)] [AV.eslice Kr 0 0 i,AV.ptr cx 0,rtv,AV.bool false,AV.nilslice] = some [AV.eslice Kr 0 0 i,AV.ptr cx 0, .eslice H4.next 0 0 (q + 1),AV.bool false,AV.nilslice] := over52 _ _ _ _ _ _ rfl
   have bT := bsT s' u' hsl usc'
   have bR := bs72 s' u' hsl usc'
   have emk := stp_mk s' hsl
   have epk3 := stp_pk s' u' hsl usc'
   have e69 := stp_69 (u := u') hsl
   have edt := stp_dat (u := u') hsl
   have sB := same_B s'.data
   have e1 : (s'.C u')[1]? = some (.int .i64 s'.kind) := rfl
   have e2 : (s'.C u')[2]? = some (.int .i64 s'.m) := rfl
   have e3 : (s'.C u')[3]? = some (.int .i64 s'.i) := rfl
   have e4 : (s'.C u')[4]? = some (.int .i64 s'.n) := rfl
   have ea5' := ea5
   rw [nH4] at ea5' ow5 ovs n5'
   rw [hH4] at ea5'
   simp (maxSteps := 2000000) (implicitDefEqProofs := false) (disch := first | omega | (simp only [SD.down,uA,uL] <;> omega) | fail) only [run_it,t3,t9,t13,t17,t18,hsv.ok,hsv.same,hsv.len,eidx,gKb,hcut,MX.down,zz_fold,stpZ_fold,spl,s'.C_len u hsl,cl70,stp_ov s' u hsl usc,stp_69 hsl,stp_dat hsl,ulen,emn,eu',uok,uok',ucl',epk,stp_cut s' u' hsl,ow.ok,bT,stp_0,env_P,env_L,TQ.down,resE,oneV, ↓reduceIte,reduceCtorEq,uB,uE,uL,uA,uM,uS,uN,uX,uO,vR,vD,vL,vK,vE,vA,vM,vT,vS]
   rw [<- hH1]
   simp (maxSteps := 2000000) (implicitDefEqProofs := false) (disch := first | omega | (simp only [SD.down,uA,uL] <;> omega) | fail) only [run_it,t3,t9,t13,t17,t18,apT,cls_append,ow.ok,ea,owr.ok,owr.same,gb3,gr3,gb5,gr5,g193,g195,e1,e2,e3,e4,ap72,ea5',ovs,e69,edt,uok',usm',ucl',sB,hsl,hzz,emk,epk3,stpZ_fold,zz_fold,spl,bR,stp_cut s' u' hsl,cl70,stp_0,env_P,env_L,TQ.down,resE,oneV, ↓reduceIte,reduceCtorEq,uB,uE,uL,uA,uM,uS,uN,uX,uO,vR,vD,vL,vK,vE,vA,vM,vT,vS]
   have htk : (cutL l).take (q + 1) = (cutL l).take q ++ [s'.cut] := by rw [List.take_add_one,cutL_get hs' hq40]; rfl
   have hlq : ((cutL l).take q).length = q := by rw [List.length_take]; omega
   have ecs : stpsC (((cutL l).take (q + 1)).zip (ws ++ [u'])) = stpsC (((cutL l).take q).zip ws) ++ s'.C u' := by
    rw [htk,List.zip_append (by rw [hlq,wl])]
    simp [stpsC,Stp.cut,Stp.C]
   have fFin : ∀ j,j < HP.next -> j ≠ h.next + 1 -> H5.get j = hb.get j := fun j hj hne => (f5 j (by omega) (rvn j hj)).trans ((fH4 j (by omega)).trans ((f3 j (by omega) (tvn j hj)).trans (fH1 j (by omega))))
   refine ih2 _ _ ⟨q + 1, .eslice H1.next 0 0 (q + 1), .eslice (H3.next + 1) 0 0 (q + 1),ws ++ [u'],by omega,by simp (maxSteps := 2000000) (implicitDefEqProofs := false) (disch := first | omega | (simp only [SD.down,uA,uL] <;> omega) | fail) only [t3,TQ.down,resE,oneV, ↓reduceIte,reduceCtorEq,uB,uE,uL,uA,uM,uS,uN,uX,uO,vR,vD,vL,vK,vE,vA,vM,vT,vS],by simp (maxSteps := 2000000) (implicitDefEqProofs := false) (disch := first | omega | (simp only [SD.down,uA,uL] <;> omega) | fail) only [t9,TQ.down,resE,oneV, ↓reduceIte,reduceCtorEq,uB,uE,uL,uA,uM,uS,uN,uX,uO,vR,vD,vL,vK,vE,vA,vM,vT,vS],by simp (maxSteps := 2000000) (implicitDefEqProofs := false) (disch := first | omega | (simp only [SD.down,uA,uL] <;> omega) | fail) only [t13,TQ.down,resE,oneV, ↓reduceIte,reduceCtorEq,uB,uE,uL,uA,uM,uS,uN,uX,uO,vR,vD,vL,vK,vE,vA,vM,vT,vS],by simp (maxSteps := 2000000) (implicitDefEqProofs := false) (disch := first | omega | (simp only [SD.down,uA,uL] <;> omega) | fail) only [TQ.down,resE,oneV, ↓reduceIte,reduceCtorEq,uB,uE,uL,uA,uM,uS,uN,uX,uO,vR,vD,vL,vK,vE,vA,vM,vT,vS],by simp (maxSteps := 2000000) (implicitDefEqProofs := false) (disch := first | omega | (simp only [SD.down,uA,uL] <;> omega) | fail) only [TQ.down,resE,oneV, ↓reduceIte,reduceCtorEq,uB,uE,uL,uA,uM,uS,uN,uX,uO,vR,vD,vL,vK,vE,vA,vM,vT,vS],by simp (maxSteps := 2000000) (implicitDefEqProofs := false) (disch := first | omega | (simp only [SD.down,uA,uL] <;> omega) | fail) only [TQ.down,resE,oneV, ↓reduceIte,reduceCtorEq,uB,uE,uL,uA,uM,uS,uN,uX,uO,vR,vD,vL,vK,vE,vA,vM,vT,vS]; omega,fun j hj hne => ?_,by simp (maxSteps := 2000000) (implicitDefEqProofs := false) (disch := first | omega | (simp only [SD.down,uA,uL] <;> omega) | fail) only [TQ.down,resE,oneV, ↓reduceIte,reduceCtorEq,uB,uE,uL,uA,uM,uS,uN,uX,uO,vR,vD,vL,vK,vE,vA,vM,vT,vS],by simp [wl], ?_, ?_,fun K hK hK2 => ?_,fun k s u9 hk1 hk2 => ?_⟩
   ·simp (maxSteps := 2000000) (implicitDefEqProofs := false) (disch := first | omega | (simp only [SD.down,uA,uL] <;> omega) | fail) only [TQ.down,resE,oneV, ↓reduceIte,reduceCtorEq,uB,uE,uL,uA,uM,uS,uN,uX,uO,vR,vD,vL,vK,vE,vA,vM,vT,vS]
    exact (fFin j hj hne).trans (fb j hj hne)
   ·rw [ecs]
    refine (ow3.keep (h' := H5) (by omega) fun j hj => ?_).keep (by simp (maxSteps := 2000000) (implicitDefEqProofs := false) (disch := first | omega | (simp only [SD.down,uA,uL] <;> omega) | fail) only [TQ.down,resE,oneV, ↓reduceIte,reduceCtorEq,uB,uE,uL,uA,uM,uS,uN,uX,uO,vR,vD,vL,vK,vE,vA,vM,vT,vS] <;> omega) fun j hj => ?_
    ·have e := (ow3.ge hj)
     exact (f5 j (by omega) fun e9 => by have := owr3.ge e9; cases hj; have := (owr1.ge e9).2; omega).trans (fH4 j e.2)
    ·have e := (ow3.ge hj).1
     have : j ≠ h.next + 1 := by omega
     simp (maxSteps := 2000000) (implicitDefEqProofs := false) (disch := first | omega | (simp only [SD.down,uA,uL] <;> omega) | fail) only [TQ.down,resE,oneV, ↓reduceIte,reduceCtorEq,uB,uE,uL,uA,uM,uS,uN,uX,uO,vR,vD,vL,vK,vE,vA,vM,vT,vS]
   ·rw [ecs]
    refine ow5.keep (by simp (maxSteps := 2000000) (implicitDefEqProofs := false) (disch := first | omega | (simp only [SD.down,uA,uL] <;> omega) | fail) only [TQ.down,resE,oneV, ↓reduceIte,reduceCtorEq,uB,uE,uL,uA,uM,uS,uN,uX,uO,vR,vD,vL,vK,vE,vA,vM,vT,vS] <;> omega) fun j hj => ?_
    have e := (ow5.ge hj).1
    have : j ≠ h.next + 1 := by omega
    simp (maxSteps := 2000000) (implicitDefEqProofs := false) (disch := first | omega | (simp only [SD.down,uA,uL] <;> omega) | fail) only [TQ.down,resE,oneV, ↓reduceIte,reduceCtorEq,uB,uE,uL,uA,uM,uS,uN,uX,uO,vR,vD,vL,vK,vE,vA,vM,vT,vS]
   ·have x1 : H1.next = K := by simpa [blkE] using hK
    have x2 : H3.next + 1 = K := by simpa [blkE] using hK2
    omega
   ·rw [htk] at hk1
    by_cases hkq : k < q
    ·rw [List.getElem?_append_left (by omega)] at hk1
     rw [List.getElem?_append_left (by omega)] at hk2
     exact hpk k s u9 hk1 hk2
    ·have hk : k = q := by
      have := (List.getElem?_eq_some_iff.1 hk1).1
      simp at this
      omega
     subst hk
     rw [List.getElem?_append_right (by omega)] at hk1 hk2
     simp [hlq] at hk1
     simp [wl] at hk2
     subst hk1 hk2
     have : (s'.cut).picks = s'.picks.take (min s'.picks.length 300) := by
      show s'.picks.take 300 = _
      rcases Nat.le_total s'.picks.length 300 with y | y
      ·rw [Nat.min_eq_left y,List.take_of_length_le y,List.take_of_length_le (Nat.le_refl _)]
      ·rw [Nat.min_eq_right y]
     rw [this]
     exact hpu'
  ·exact ⟨0, .nilslice, .nilslice,[],by omega,by simp (maxSteps := 2000000) (implicitDefEqProofs := false) (disch := first | omega | (simp only [SD.down,uA,uL] <;> omega) | fail) only [s3,TQ.down,resE,oneV, ↓reduceIte,reduceCtorEq,uB,uE,uL,uA,uM,uS,uN,uX,uO,vR,vD,vL,vK,vE,vA,vM,vT,vS],by simp (maxSteps := 2000000) (implicitDefEqProofs := false) (disch := first | omega | (simp only [SD.down,uA,uL] <;> omega) | fail) only [s9,TQ.down,resE,oneV, ↓reduceIte,reduceCtorEq,uB,uE,uL,uA,uM,uS,uN,uX,uO,vR,vD,vL,vK,vE,vA,vM,vT,vS],by simp (maxSteps := 2000000) (implicitDefEqProofs := false) (disch := first | omega | (simp only [SD.down,uA,uL] <;> omega) | fail) only [TQ.down,resE,oneV, ↓reduceIte,reduceCtorEq,uB,uE,uL,uA,uM,uS,uN,uX,uO,vR,vD,vL,vK,vE,vA,vM,vT,vS],by simp (maxSteps := 2000000) (implicitDefEqProofs := false) (disch := first | omega | (simp only [SD.down,uA,uL] <;> omega) | fail) only [TQ.down,resE,oneV, ↓reduceIte,reduceCtorEq,uB,uE,uL,uA,uM,uS,uN,uX,uO,vR,vD,vL,vK,vE,vA,vM,vT,vS],by simp (maxSteps := 2000000) (implicitDefEqProofs := false) (disch := first | omega | (simp only [SD.down,uA,uL] <;> omega) | fail) only [TQ.down,resE,oneV, ↓reduceIte,reduceCtorEq,uB,uE,uL,uA,uM,uS,uN,uX,uO,vR,vD,vL,vK,vE,vA,vM,vT,vS],Nat.le_refl _,fun _ _ _ => rfl,grP,rfl, .inl ⟨rfl,rfl,by simp [stpsC]⟩, .inl ⟨rfl,rfl,by simp [stpsC]⟩,(fun K x => by cases x),fun k s u h => by simp at h⟩
 ·rintro j mm σ hh ⟨i,ps,qs,lv,rv,C,hi,s0,s1,s3,s6,s9,s10,M,gc,gr,gb,kh,hC⟩ ih
  have hNA : h.next + 3 <= hh.next := M.le
  have P0 : PL hh lv ps /\ PL hh rv qs /\ (∀ j : Nat,lv = .eslice j 0 0 ps.length -> h.next + 2 < j /\ C j = 0) /\ (∀ j : Nat,rv = .eslice j 0 0 qs.length -> h.next + 2 < j /\ C j = 0 /\ lv ≠ .eslice j 0 0 ps.length) := by
   rcases M.ls with ⟨e1,rfl,rfl⟩ | ⟨Kl,Kr,e0,rfl,rfl,e1,e2,e3,e4,e5,e6,e7,e8,e9⟩
   ·refine ⟨.inl ⟨List.eq_nil_of_length_eq_zero (by rw [M.pl]; exact e1),rfl⟩, .inl ⟨List.eq_nil_of_length_eq_zero (by rw [M.ql]; exact e1),rfl⟩,(fun j hj => by cases hj),(fun j hj => by cases hj)⟩
   ·refine ⟨.inr ⟨Kl,fun e => e0 (by rw [<- M.pl,e]; rfl),by rw [M.pl],e4,e8⟩, .inr ⟨Kr,fun e => e0 (by rw [<- M.ql,e]; rfl),by rw [M.ql],e5,e9⟩,(fun j hj => by rw [<- (AV.eslice.inj hj).1]; exact ⟨e2,e6⟩),(fun j hj => by rw [<- (AV.eslice.inj hj).1]; exact ⟨e3,e7,fun hj2 => e1 (AV.eslice.inj hj2).1⟩)⟩
  obtain ⟨PLl,PLr,Pl1,Pr1⟩ := P0
  obtain ⟨lok,lsm,lcl,lsc⟩ := PLl.ok
  obtain ⟨rok,rsm,rcl,rsc⟩ := PLr.ok
  have hpl : ps.length = i := M.pl
  have hql : qs.length = i := M.ql
  have mn := fun d h => mnewN d h s hs (by omega)
  have kM : Keeps hh (((hh.new (Blk.map [] false)).new (Blk.map [] false)).new (Blk.cells (memG s hh.next (hh.next + 1) AV.nilslice AV.nilslice false false) 0 false)) := (Keeps.refl hh).post (by simp (maxSteps := 2000000) (implicitDefEqProofs := false) (disch := first | omega | (simp only [SD.down,uA,uL] <;> omega) | fail) only [TQ.down,resE,oneV, ↓reduceIte,reduceCtorEq,uB,uE,uL,uA,uM,uS,uN,uX,uO,vR,vD,vL,vK,vE,vA,vM,vT,vS] <;> omega) (fun j hj => by simp (maxSteps := 2000000) (implicitDefEqProofs := false) (disch := first | omega | (simp only [SD.down,uA,uL] <;> omega) | fail) only [TQ.down,resE,oneV, ↓reduceIte,reduceCtorEq,uB,uE,uL,uA,uM,uS,uN,uX,uO,vR,vD,vL,vK,vE,vA,vM,vT,vS])
  have nM : (((hh.new (Blk.map [] false)).new (Blk.map [] false)).new (Blk.cells (memG s hh.next (hh.next + 1) AV.nilslice AV.nilslice false false) 0 false)).next = hh.next + 3 := by simp (maxSteps := 2000000) (implicitDefEqProofs := false) (disch := first | omega | (simp only [SD.down,uA,uL] <;> omega) | fail) only [TQ.down,resE,oneV, ↓reduceIte,reduceCtorEq,uB,uE,uL,uA,uM,uS,uN,uX,uO,vR,vD,vL,vK,vE,vA,vM,vT,vS]
  have m0 : (((hh.new (Blk.map [] false)).new (Blk.map [] false)).new (Blk.cells (memG s hh.next (hh.next + 1) AV.nilslice AV.nilslice false false) 0 false)).get hh.next = some (.map [] false) := by simp (maxSteps := 2000000) (implicitDefEqProofs := false) (disch := first | omega | (simp only [SD.down,uA,uL] <;> omega) | fail) only [TQ.down,resE,oneV, ↓reduceIte,reduceCtorEq,uB,uE,uL,uA,uM,uS,uN,uX,uO,vR,vD,vL,vK,vE,vA,vM,vT,vS]
  have m1 : (((hh.new (Blk.map [] false)).new (Blk.map [] false)).new (Blk.cells (memG s hh.next (hh.next + 1) AV.nilslice AV.nilslice false false) 0 false)).get (hh.next + 1) = some (.map [] false) := by simp (maxSteps := 2000000) (implicitDefEqProofs := false) (disch := first | omega | (simp only [SD.down,uA,uL] <;> omega) | fail) only [TQ.down,resE,oneV, ↓reduceIte,reduceCtorEq,uB,uE,uL,uA,uM,uS,uN,uX,uO,vR,vD,vL,vK,vE,vA,vM,vT,vS]
  have m2 : (((hh.new (Blk.map [] false)).new (Blk.map [] false)).new (Blk.cells (memG s hh.next (hh.next + 1) AV.nilslice AV.nilslice false false) 0 false)).get (hh.next + 2) = some (.cells (memG s hh.next (hh.next + 1) AV.nilslice AV.nilslice false false) 0 false) := by simp (maxSteps := 2000000) (implicitDefEqProofs := false) (disch := first | omega | (simp only [SD.down,uA,uL] <;> omega) | fail) only [TQ.down,resE,oneV, ↓reduceIte,reduceCtorEq,uB,uE,uL,uA,uM,uS,uN,uX,uO,vR,vD,vL,vK,vE,vA,vM,vT,vS]
  simp (maxSteps := 2000000) (implicitDefEqProofs := false) (disch := first | omega | (simp only [SD.down,uA,uL] <;> omega) | fail) only [run_it,s0,s1,s3,s6,s9,s10,gb,mn,env_P,env_L,TQ.down,resE,oneV, ↓reduceIte,reduceCtorEq,uB,uE,uL,uA,uM,uS,uN,uX,uO,vR,vD,vL,vK,vE,vA,vM,vT,vS]
  generalize (((hh.new (Blk.map [] false)).new (Blk.map [] false)).new (Blk.cells (memG s hh.next (hh.next + 1) AV.nilslice AV.nilslice false false) 0 false)) = HM at kM nM m0 m1 m2 ⊢
  have gbM := kM.at (by omega) gb
  have kX : Keeps HM (HM.new (.cells [.ptr (hh.next + 2) 0] 0 false)) := ⟨Nat.le_succ _,fun j hj => new_ne _ _ (by omega)⟩
  obtain ⟨X',ea1,nX,gX,fX⟩ := appP el39 (p := hh.next + 2) (q := HM.next) ((PLl.keep kM.1 fun j hj _ => kM.2 j hj).keep kX.1 fun j hj _ => kX.2 j hj) (by omega) (new_same HM _)
  have enX : (HM.new (.cells [.ptr (hh.next + 2) 0] 0 false)).next = HM.next + 1 := rfl
  rw [enX] at ea1 nX gX fX
  have fX2 : ∀ j,j < HM.next -> lv ≠ .eslice j 0 0 ps.length -> X'.get j = HM.get j := fun j hj he => (fX j (by omega) he).trans (kX.2 j hj)
  have hne1 : ∀ j,j <= h.next + 2 -> lv ≠ .eslice j 0 0 ps.length := fun j hj e => by have := (Pl1 j e).1; omega
  have hne2 : ∀ j,j <= h.next + 2 -> rv ≠ .eslice j 0 0 qs.length := fun j hj e => by have := (Pr1 j e).1; omega
  have gbX : X'.get (h.next + 2) = some (Blk.cells [.nilptr,lv, .nilptr, .ptr (h.next + 1) 0] 0 false) := (fX2 _ (by omega) (hne1 _ (by omega))).trans gbM
  have ov1 : overE 1 [AV.eslice (HM.next + 1) 0 0 (ps.length + 1)] [.nilptr,lv, .nilptr, .ptr (h.next + 1) 0] = some [.nilptr, .eslice (HM.next + 1) 0 0 (ps.length + 1), .nilptr, .ptr (h.next + 1) 0] := over41 _ _ _ _ _ rfl
  obtain ⟨XB,hXB⟩ : ∃ XB,XB = X'.put (h.next + 2) (some (Blk.cells [.nilptr, .eslice (HM.next + 1) 0 0 (ps.length + 1), .nilptr, .ptr (h.next + 1) 0] 0 false)) := ⟨_,rfl⟩
  have nXB : XB.next = X'.next := by rw [hXB]; simp (maxSteps := 2000000) (implicitDefEqProofs := false) (disch := first | omega | (simp only [SD.down,uA,uL] <;> omega) | fail) only [TQ.down,resE,oneV, ↓reduceIte,reduceCtorEq,uB,uE,uL,uA,uM,uS,uN,uX,uO,vR,vD,vL,vK,vE,vA,vM,vT,vS]
  have gXB : XB.get (h.next + 2) = some (Blk.cells [.nilptr, .eslice (HM.next + 1) 0 0 (ps.length + 1), .nilptr, .ptr (h.next + 1) 0] 0 false) := by rw [hXB]; simp (maxSteps := 2000000) (implicitDefEqProofs := false) (disch := first | omega | (simp only [SD.down,uA,uL] <;> omega) | fail) only [TQ.down,resE,oneV, ↓reduceIte,reduceCtorEq,uB,uE,uL,uA,uM,uS,uN,uX,uO,vR,vD,vL,vK,vE,vA,vM,vT,vS]
  have fXB : ∀ j,j ≠ h.next + 2 -> XB.get j = X'.get j := fun j hj => by rw [hXB]; simp (maxSteps := 2000000) (implicitDefEqProofs := false) (disch := first | omega | (simp only [SD.down,uA,uL] <;> omega) | fail) only [TQ.down,resE,oneV, ↓reduceIte,reduceCtorEq,uB,uE,uL,uA,uM,uS,uN,uX,uO,vR,vD,vL,vK,vE,vA,vM,vT,vS]
  simp (maxSteps := 2000000) (implicitDefEqProofs := false) (disch := first | omega | (simp only [SD.down,uA,uL] <;> omega) | fail) only [gbM,lok,lsm,lcl,bsL1,cls_append,ap39,ea1,gbX,ov1,s0,s1,s3,s6,s9,s10,env_P,env_L,TQ.down,resE,oneV, ↓reduceIte,reduceCtorEq,uB,uE,uL,uA,uM,uS,uN,uX,uO,vR,vD,vL,vK,vE,vA,vM,vT,vS]
  rw [<- hXB]
  have kY : Keeps XB ((XB.new (.cells (refG s .nilslice .nilslice .nilslice false false) 0 false)).new (.cells [.ptr XB.next 0] 0 false)) := ⟨by simp [Heap.new]; omega,fun j hj => by rw [new_ne _ _ (by simp [Heap.new]; omega),new_ne _ _ (by omega)]⟩
  have PLr2 : PL XB rv qs := PLr.keep (by omega) fun j hj e => by
   obtain ⟨q1,_,q3⟩ := Pr1 j e
   rw [fXB j (by omega),fX2 j (by omega) q3]
   exact kM.2 j hj
  obtain ⟨Z',ea2,nZ,gZ,fZ⟩ := appP el70 (p := XB.next) (q := XB.next + 1) (PLr2.keep kY.1 fun j hj _ => kY.2 j hj) (by omega) (new_same (XB.new (.cells (refG s .nilslice .nilslice .nilslice false false) 0 false)) (.cells [.ptr XB.next 0] 0 false))
  have enY : ((XB.new (.cells (refG s .nilslice .nilslice .nilslice false false) 0 false)).new (.cells [.ptr XB.next 0] 0 false)).next = XB.next + 2 := rfl
  rw [enY] at ea2 nZ gZ fZ
  have gc3 := ((((fZ h.next (by omega) (hne2 _ (by omega))).trans (kY.2 _ (by omega))).trans ((fXB _ (by omega)).trans (fX2 h.next (by omega) (hne1 _ (by omega))))).trans (kM.2 _ (by omega))).trans gc
  have gr2 : XB.get (h.next + 1) = some (Blk.cells [rv,AV.nilptr,AV.nilslice,AV.bool false,AV.nilslice] 0 false) := (((fXB _ (by omega)).trans (fX2 _ (by omega) (hne1 _ (by omega)))).trans (kM.2 _ (by omega))).trans gr
  have grX : X'.get (h.next + 1) = some (Blk.cells [rv,AV.nilptr,AV.nilslice,AV.bool false,AV.nilslice] 0 false) := ((fX2 _ (by omega) (hne1 _ (by omega))).trans (kM.2 _ (by omega))).trans gr
  have gr3 : Z'.get (h.next + 1) = some (Blk.cells [rv,AV.nilptr,AV.nilslice,AV.bool false,AV.nilslice] 0 false) := ((fZ _ (by omega) (hne2 _ (by omega))).trans (kY.2 _ (by omega))).trans gr2
  have gb3 : Z'.get (h.next + 2) = some (Blk.cells [.nilptr, .eslice (HM.next + 1) 0 0 (ps.length + 1), .nilptr, .ptr (h.next + 1) 0] 0 false) := ((fZ _ (by omega) (hne2 _ (by omega))).trans (kY.2 _ (by omega))).trans gXB
  have ov2 : overE 0 [AV.eslice (XB.next + 2) 0 0 (qs.length + 1)] [rv,AV.nilptr,AV.nilslice,AV.bool false,AV.nilslice] = some [AV.eslice (XB.next + 2) 0 0 (qs.length + 1),AV.nilptr,AV.nilslice,AV.bool false,AV.nilslice] := over50 _ _ _ _ _ _ rfl
  simp (maxSteps := 2000000) (implicitDefEqProofs := false) (disch := first | omega | (simp only [SD.down,uA,uL] <;> omega) | fail) only [bsR1,cls_append,ap70,ea2,rmade,grX,gXB,gr2,gr3,gb3,ov2,rok,rsm,rcl,rsc,env_P,env_L,s0,s1,s3,s6,s9,s10,TQ.down,resE,oneV, ↓reduceIte,reduceCtorEq,uB,uE,uL,uA,uM,uS,uN,uX,uO,vR,vD,vL,vK,vE,vA,vM,vT,vS]
  have eL : (Z'.put (h.next + 1) (some (Blk.cells [AV.eslice (XB.next + 2) 0 0 (qs.length + 1),AV.nilptr,AV.nilslice,AV.bool false,AV.nilslice] 0 false))).next = hh.next + 8 := by simp (maxSteps := 2000000) (implicitDefEqProofs := false) (disch := first | omega | (simp only [SD.down,uA,uL] <;> omega) | fail) only [TQ.down,resE,oneV, ↓reduceIte,reduceCtorEq,uB,uE,uL,uA,uM,uS,uN,uX,uO,vR,vD,vL,vK,vE,vA,vM,vT,vS]; omega
  have fL : ∀ j,j ≠ h.next + 1 -> (Z'.put (h.next + 1) (some (Blk.cells [AV.eslice (XB.next + 2) 0 0 (qs.length + 1),AV.nilptr,AV.nilslice,AV.bool false,AV.nilslice] 0 false))).get j = Z'.get j := fun j hj => get_put_ne hj
  have gL : (Z'.put (h.next + 1) (some (Blk.cells [AV.eslice (XB.next + 2) 0 0 (qs.length + 1),AV.nilptr,AV.nilslice,AV.bool false,AV.nilslice] 0 false))).get (h.next + 1) = some (Blk.cells [AV.eslice (XB.next + 2) 0 0 (qs.length + 1),AV.nilptr,AV.nilslice,AV.bool false,AV.nilslice] 0 false) := get_put_same ..
  generalize (Z'.put (h.next + 1) (some (Blk.cells [AV.eslice (XB.next + 2) 0 0 (qs.length + 1),AV.nilptr,AV.nilslice,AV.bool false,AV.nilslice] 0 false))) = HF at eL fL gL ⊢
  have old : ∀ j,j < hh.next -> j ≠ h.next + 1 -> j ≠ h.next + 2 -> C j ≠ 0 \/ j <= h.next + 2 -> HF.get j = hh.get j := fun j hj h1 h12 h2 => by
   have q1 : lv ≠ .eslice j 0 0 ps.length := fun e => by have := Pl1 j e; omega
   have q2 : rv ≠ .eslice j 0 0 qs.length := fun e => by have := Pr1 j e; omega
   rw [fL j h1,fZ j (by omega) q2,kY.2 j (by omega),fXB j h12,fX2 j (by omega) q1,kM.2 j hj]
  have nX2 : XB.next = hh.next + 5 := by omega
  let C' : Col := fun j => if j < hh.next then C j else if j < hh.next + 3 then kb + 2 + i else if j = hh.next + 5 then kr + 2 + i else 0
  have hC' : ∀ j,j < hh.next -> C' j = C j := fun j hj => if_pos hj
  have hCm : ∀ j,hh.next <= j -> j < hh.next + 3 -> C' j = kb + 2 + i := fun j h1 h2 => by show (if j < hh.next then C j else if j < hh.next + 3 then kb + 2 + i else if j = hh.next + 5 then kr + 2 + i else 0) = _; rw [if_neg (by omega),if_pos h2]
  have hCr : C' (hh.next + 5) = kr + 2 + i := by show (if hh.next + 5 < hh.next then C (hh.next + 5) else if hh.next + 5 < hh.next + 3 then kb + 2 + i else if hh.next + 5 = hh.next + 5 then kr + 2 + i else 0) = _; rw [if_neg (by omega),if_neg (by omega),if_pos rfl]
  have hCz : ∀ j,j = hh.next + 4 \/ j = hh.next + 7 -> C' j = 0 := fun j hj => by show (if j < hh.next then C j else if j < hh.next + 3 then kb + 2 + i else if j = hh.next + 5 then kr + 2 + i else 0) = _; rw [if_neg (by omega),if_neg (by omega),if_neg (by omega)]
  clear_value C'
  have lbig : ∀ j,hh.next <= j -> lv ≠ .eslice j 0 0 ps.length := fun j hj e => by
   rcases PLl with ⟨_,e2⟩ | ⟨K,_,e2,e3,_⟩
   ·rw [e2] at e; cases e
   ·rw [e2] at e; have := (AV.eslice.inj e).1; omega
  have rbig : ∀ j,hh.next <= j -> rv ≠ .eslice j 0 0 qs.length := fun j hj e => by
   rcases PLr with ⟨_,e2⟩ | ⟨K,_,e2,e3,_⟩
   ·rw [e2] at e; cases e
   ·rw [e2] at e; have := (AV.eslice.inj e).1; omega
  have new3 : ∀ j,hh.next <= j -> j < hh.next + 3 -> HF.get j = HM.get j := fun j h1 h2 => by
   rw [fL j (by omega),fZ j (by omega) (rbig j h1),kY.2 j (by omega),fXB j (by omega),fX2 j (by omega) (lbig j h1)]
  have g4 : HF.get (hh.next + 4) = some (.cells ((ps ++ [hh.next + 2]).map (AV.ptr · 0)) 1 false) := by
   rw [fL _ (by omega),fZ _ (by omega) (rbig _ (by omega)),kY.2 _ (by omega),fXB _ (by omega),show hh.next + 4 = HM.next + 1 by omega]
   exact gX
  have g5 : HF.get (hh.next + 5) = some (.cells (refG s .nilslice .nilslice .nilslice false false) 0 false) := by
   rw [fL _ (by omega),fZ _ (by omega) (rbig _ (by omega)),show hh.next + 5 = XB.next by omega,new_ne _ _ (by simp [Heap.new])]
   exact new_same _ _
  have g7 : HF.get (hh.next + 7) = some (.cells ((qs ++ [XB.next]).map (AV.ptr · 0)) 1 false) := by
   rw [fL _ (by omega),show hh.next + 7 = XB.next + 2 by omega]
   exact gZ
  refine ih _ _ ⟨i + 1,ps ++ [hh.next + 2],qs ++ [XB.next], .eslice (HM.next + 1) 0 0 (ps.length + 1), .eslice (XB.next + 2) 0 0 (qs.length + 1),C',by omega,by simp (maxSteps := 2000000) (implicitDefEqProofs := false) (disch := first | omega | (simp only [SD.down,uA,uL] <;> omega) | fail) only [s0,TQ.down,resE,oneV, ↓reduceIte,reduceCtorEq,uB,uE,uL,uA,uM,uS,uN,uX,uO,vR,vD,vL,vK,vE,vA,vM,vT,vS],by simp (maxSteps := 2000000) (implicitDefEqProofs := false) (disch := first | omega | (simp only [SD.down,uA,uL] <;> omega) | fail) only [s1,TQ.down,resE,oneV, ↓reduceIte,reduceCtorEq,uB,uE,uL,uA,uM,uS,uN,uX,uO,vR,vD,vL,vK,vE,vA,vM,vT,vS],by simp (maxSteps := 2000000) (implicitDefEqProofs := false) (disch := first | omega | (simp only [SD.down,uA,uL] <;> omega) | fail) only [s3,TQ.down,resE,oneV, ↓reduceIte,reduceCtorEq,uB,uE,uL,uA,uM,uS,uN,uX,uO,vR,vD,vL,vK,vE,vA,vM,vT,vS],by simp (maxSteps := 2000000) (implicitDefEqProofs := false) (disch := first | omega | (simp only [SD.down,uA,uL] <;> omega) | fail) only [s6,TQ.down,resE,oneV, ↓reduceIte,reduceCtorEq,uB,uE,uL,uA,uM,uS,uN,uX,uO,vR,vD,vL,vK,vE,vA,vM,vT,vS],by simp (maxSteps := 2000000) (implicitDefEqProofs := false) (disch := first | omega | (simp only [SD.down,uA,uL] <;> omega) | fail) only [s9,TQ.down,resE,oneV, ↓reduceIte,reduceCtorEq,uB,uE,uL,uA,uM,uS,uN,uX,uO,vR,vD,vL,vK,vE,vA,vM,vT,vS],by simp (maxSteps := 2000000) (implicitDefEqProofs := false) (disch := first | omega | (simp only [SD.down,uA,uL] <;> omega) | fail) only [TQ.down,resE,oneV, ↓reduceIte,reduceCtorEq,uB,uE,uL,uA,uM,uS,uN,uX,uO,vR,vD,vL,vK,vE,vA,vM,vT,vS],⟨by simp [hpl],by simp [hql],by omega,(hC' _ (by omega)).trans M.c0,(hC' _ (by omega)).trans M.cr,(hC' _ (by omega)).trans M.c2, .inr ⟨hh.next + 4,hh.next + 7,by omega,by rw [hpl,nM],by rw [hql,nX2],by omega,by omega,by omega,by omega,by omega,hCz _ (.inl rfl),hCz _ (.inr rfl),g4,g7⟩,fun k p hp => ?_,fun k q hq => ?_⟩, ?_,gL, ?_,⟨by have := kh.1; omega,fun j hj => ?_⟩,fun j hj => (hC' j (by omega)).trans (hC j hj)⟩
  ·by_cases hk : k < ps.length
   ·rw [List.getElem?_append_left hk] at hp
    exact (M.mm k p hp).keep (by omega) (fun j hj hc => old j hj (fun e => by have := M.cr; rw [e] at hc; omega) (fun e => by have := M.c2; rw [e] at hc; omega) (.inl (by omega))) fun j hj hc => (hC' j hj).trans hc
   ·rw [List.getElem?_append_right (by omega)] at hp
    cases e : k - ps.length with
    | zero =>
     rw [e] at hp
     simp at hp
     subst hp
     obtain rfl : k = i := by omega
     exact ⟨hh.next,hh.next + 1, .nilslice, .nilslice,by omega,by omega,by omega,hCm _ (by omega) (by omega),hCm _ (by omega) (by omega),hCm _ (by omega) (by omega),by omega,by omega,by omega,(new3 _ (by omega) (by omega)).trans m2,(new3 _ (by omega) (by omega)).trans m0,(new3 _ (by omega) (by omega)).trans m1, .inl ⟨rfl, .inl rfl⟩, .inl ⟨rfl,rfl⟩⟩
    | succ n => rw [e] at hp; simp at hp
  ·by_cases hk : k < qs.length
   ·rw [List.getElem?_append_left hk] at hq
    obtain ⟨q1,q2,q3⟩ := M.rr k q hq
    exact ⟨by omega,(hC' q q1).trans q2,(old q q1 (fun e => by have := M.cr; rw [e] at q2; omega) (fun e => by have := M.c2; rw [e] at q2; omega) (.inl (by omega))).trans q3⟩
   ·rw [List.getElem?_append_right (by omega)] at hq
    cases e : k - qs.length with
    | zero =>
     rw [e] at hq
     simp at hq
     subst hq
     obtain rfl : k = i := by omega
     rw [nX2]
     exact ⟨by omega,hCr,g5⟩
    | succ n => rw [e] at hq; simp at hq
  ·exact (fL _ (by omega)).trans gc3
  ·rw [fL _ (by omega),gb3]
  ·have := kh.1
   exact (old j (by omega) (by omega) (by omega) (.inr (by omega))).trans (kh.2 j hj)
 ·exact ⟨0,[],[], .nilslice, .nilslice,fun j => if j < h.next then c j else if j = h.next + 1 then kr else 0,by omega,by simp (maxSteps := 2000000) (implicitDefEqProofs := false) (disch := first | omega | (simp only [SD.down,uA,uL] <;> omega) | fail) only [TQ.down,resE,oneV, ↓reduceIte,reduceCtorEq,uB,uE,uL,uA,uM,uS,uN,uX,uO,vR,vD,vL,vK,vE,vA,vM,vT,vS],by simp (maxSteps := 2000000) (implicitDefEqProofs := false) (disch := first | omega | (simp only [SD.down,uA,uL] <;> omega) | fail) only [TQ.down,resE,oneV, ↓reduceIte,reduceCtorEq,uB,uE,uL,uA,uM,uS,uN,uX,uO,vR,vD,vL,vK,vE,vA,vM,vT,vS],by simp (maxSteps := 2000000) (implicitDefEqProofs := false) (disch := first | omega | (simp only [SD.down,uA,uL] <;> omega) | fail) only [TQ.down,resE,oneV, ↓reduceIte,reduceCtorEq,uB,uE,uL,uA,uM,uS,uN,uX,uO,vR,vD,vL,vK,vE,vA,vM,vT,vS],by simp (maxSteps := 2000000) (implicitDefEqProofs := false) (disch := first | omega | (simp only [SD.down,uA,uL] <;> omega) | fail) only [TQ.down,resE,oneV, ↓reduceIte,reduceCtorEq,uB,uE,uL,uA,uM,uS,uN,uX,uO,vR,vD,vL,vK,vE,vA,vM,vT,vS],by simp (maxSteps := 2000000) (implicitDefEqProofs := false) (disch := first | omega | (simp only [SD.down,uA,uL] <;> omega) | fail) only [TQ.down,resE,oneV, ↓reduceIte,reduceCtorEq,uB,uE,uL,uA,uM,uS,uN,uX,uO,vR,vD,vL,vK,vE,vA,vM,vT,vS],by simp (maxSteps := 2000000) (implicitDefEqProofs := false) (disch := first | omega | (simp only [SD.down,uA,uL] <;> omega) | fail) only [TQ.down,resE,oneV, ↓reduceIte,reduceCtorEq,uB,uE,uL,uA,uM,uS,uN,uX,uO,vR,vD,vL,vK,vE,vA,vM,vT,vS],⟨rfl,rfl,by omega,by show (if _ then _ else _) = _; rw [if_neg (by omega),if_neg (by omega)],by show (if _ then _ else _) = _; rw [if_neg (by omega),if_pos rfl],by show (if _ then _ else _) = _; rw [if_neg (by omega),if_neg (by omega)], .inl ⟨rfl,rfl,rfl⟩,fun k p h => by simp at h,fun k p h => by simp at h⟩,g0,g1,g2,k0,fun j hj => if_pos hj⟩
end Go.Proofs.Ytlnepbkeiianmaa
