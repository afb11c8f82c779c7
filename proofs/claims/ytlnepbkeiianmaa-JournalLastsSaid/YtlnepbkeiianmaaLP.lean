/- Of this program, for all inputs: contracts. No condition but those in the theorems. -/
import Derived.Test.YtlnepbkeiianmaaLN
import Derived.Test.YtlnepbkeiianmaaAwA
namespace Go.Proofs.Ytlnepbkeiianmaa
open Go Go.Ai Go.Aw Go.Proofs
open Nat renaming reduceBEq -> uB,reduceEqDiff -> uE,reduceLT -> uL,reduceAdd -> uA,reduceMul -> uM,reduceSub -> uS,reduceAnd -> uN,reduceXor -> uX,reduceOr -> uO
open Int renaming reduceMod -> vR,reduceDiv -> vD,reduceLT -> vL,reduceLE -> vK,reduceEq -> vE,reduceAdd -> vA,reduceMul -> vM,reduceToNat -> vT,reduceSub -> vS
set_option linter.unusedSimpArgs false
set_option linter.unusedVariables false
set_option maxRecDepth 10000
theorem StK.one {h : Heap} {K : Nat} {s : Stp} (hK : K < h.next) (hg : h.get K = some (.cells (s.C .nilslice) 70 false)) (hp : s.picks = []) : StK h (.eslice K 0 0 1) [s] [.nilslice] :=
 ⟨rfl,same_eslice ..,len_eslice Try.underlying49 ..,rfl,fun i s' hs => by
  match i,hs with
  | 0,hs =>
   cases hs
   refine ⟨K,[],70,false, .nilslice,hK,rfl,by rw [hg]; simp [stpsC], ?_, .inl ⟨hp, .inl rfl⟩,fun K o n e => by cases e⟩
   rw [ia_eslice Try.underlying49 (show szE Try.prog 64 = some 70 by kernel_rfl)]
   rfl⟩
theorem kit_st (d : Nat) (h : Heap) (c : Col) (kb kr n s : Nat) (sv : AV) (l : List Stp) (us : List AV) (hsv : StK h sv l us) (hsd : ∀ s ∈ l,s.data.length = 64) (hp : ∀ s ∈ l,s.picks = []) (hl : l.length <= 40) (kb10 : 10 <= kb) (hkr : kb + 100 <= kr) (hn : 1 <= n) (hn64 : n <= 64) (hs : 1 <= s) (hs2 : s <= 2000) : G (callD env (d + 9) 7 [.int .i64 (n : Int), .int .i64 (s : Int), .agg (cC 0 czz),sv] h) fun v h' => ∃ X β cp ρ Lb ps C b,v = .ptr X 0 /\ Lc h' C [(X,bnB β Lb n cp ρ),(Lb,psB ps)] /\ ps.length = n /\ HB h' C kb β cp ps b s (c0l n) /\ b.steps = l /\ b.log = [] /\ Keeps h h' /\ ∀ j,j < h.next -> C j = c j := by
 have ec : cutL l = l := by
  unfold cutL
  rw [List.take_of_length_le hl]
  refine (List.map_congr_left fun s hs => ?_).trans (List.map_id _)
  show { s with picks := s.picks.take 300 } = s
  have := hp s hs
  cases s
  simp only at this
  subst this
  rfl
 refine kit_made d h c kb kr n s 0 czz sv l us hsv hsd kb10 hkr hn hn64 hs hs2 rfl (by omega) _ ?_
 intro X β cp ρ Lb ps C h' x1 x2 x3 x4 x5 x6 x7 x8 x9 x10 x11 x12
 rw [ec] at x8
 exact ⟨X,β,cp,ρ,Lb,ps,C,_,rfl,(fun q hq => by
  simp only [List.mem_cons,List.not_mem_nil,or_false] at hq
  rcases hq with rfl | rfl
  ·exact ⟨x1,x2,x3⟩
  ·exact ⟨x4,x5,x6⟩),x7,⟨x8,mkK_ok hn hn64 hs rfl hl hsd,mkK_cb n s _ _⟩,rfl,rfl,x10,x12⟩
structure WL (hB : Heap) (CB_ : Col) (hh : Heap) (C : Col) (β cp : Nat) (ps : List Nat) (b : BS) (l : List (Img × Bool × Bool)) : Prop where
 r1 : hB.next <= hh.next
 r2 : ∀ j,j < hB.next -> CB_ j = 0 -> hh.get j = hB.get j
 r3 : ∀ j,j < hB.next -> C j = CB_ j
 B : HB hh C 100 β cp ps b 54 l
theorem WL.kp {hB hh h' : Heap} {CB_ C C' : Col} {β cp : Nat} {ps : List Nat} {b : BS} {l : List (Img × Bool × Bool)} (W : WL hB CB_ hh C β cp ps b l) (k : Keeps hh h') (e : ∀ j,j < hh.next -> C' j = C j) : WL hB CB_ h' C' β cp ps b l :=
 ⟨Nat.le_trans W.r1 k.1,fun j hj hc => (k.2 j (Nat.lt_of_lt_of_le hj W.r1)).trans (W.r2 j hj hc),fun j hj => (e j (Nat.lt_of_lt_of_le hj W.r1)).trans (W.r3 j hj),W.B.keep k.1 (fun j hj _ _ => k.2 j hj) e⟩
theorem WL.do_ {hB hh h' : Heap} {CB_ C C' : Col} {β cp : Nat} {ps : List Nat} {b b' : BS} {l l' : List (Img × Bool × Bool)} (W : WL hB CB_ hh C β cp ps b l) (B : HB h' C' 100 β cp ps b' 54 l') (fr : Fr (busK 100) C hh h') (e : ∀ j,j < hh.next -> C' j = C j) : WL hB CB_ h' C' β cp ps b' l' :=
 ⟨Nat.le_trans W.r1 fr.le,fun j hj hc => (fr.get j (Nat.lt_of_lt_of_le hj W.r1) (by rw [W.r3 j hj,hc]; exact busK_0 (by omega))).trans (W.r2 j hj hc),fun j hj => (e j (Nat.lt_of_lt_of_le hj W.r1)).trans (W.r3 j hj),B⟩
theorem WL.at {hB hh : Heap} {CB_ C : Col} {β cp : Nat} {ps : List Nat} {b : BS} {l : List (Img × Bool × Bool)} (W : WL hB CB_ hh C β cp ps b l) {g : List (Nat × Blk)} (L : Lc hB CB_ g) {k : Nat} {x : Blk} (m : (k,x) ∈ g) : hh.get k = some x := by
 obtain ⟨h1,h2,h3⟩ := L _ m
 exact (W.r2 k h1 h2).trans h3
theorem WL.lc {hB hh : Heap} {CB_ C : Col} {β cp : Nat} {ps : List Nat} {b : BS} {l : List (Img × Bool × Bool)} (W : WL hB CB_ hh C β cp ps b l) {g : List (Nat × Blk)} (L : Lc hB CB_ g) : Lc hh C g := fun q hq => by
 obtain ⟨h1,h2,h3⟩ := L _ hq
 exact ⟨Nat.lt_of_lt_of_le h1 W.r1,(W.r3 _ h1).trans h2,(W.r2 _ h1 h2).trans h3⟩
theorem WL.by_ {hB hh : Heap} {CB_ C : Col} {β cp : Nat} {ps : List Nat} {b : BS} {l : List (Img × Bool × Bool)} (W : WL hB CB_ hh C β cp ps b l) {v : AV} {x : List Nat} (y : ByR hB v x) (c : ∀ K,blkA v = some K -> CB_ K = 0) : ByR hh v x /\ ∀ K,blkA v = some K -> C K = 0 :=
 ⟨y.keep W.r1 fun j hj e => W.r2 j hj (c j e),fun K e => (W.r3 K (y.lt e)).trans (c K e)⟩
theorem WL.pk {hB hh : Heap} {CB_ C : Col} {β cp : Nat} {ps : List Nat} {b : BS} {l : List (Img × Bool × Bool)} (W : WL hB CB_ hh C β cp ps b l) {v : AV} {x : List Nat} (y : PickA hB v x /\ (x ≠ [] -> ∀ K o n,v = .slice K o x.length n -> K < hB.next /\ CB_ K = 0)) : PickA hh v x /\ (x ≠ [] -> ∀ K o n,v = .slice K o x.length n -> K < hh.next /\ C K = 0) := by
 obtain ⟨y,c⟩ := y
 refine ⟨?_,fun h K o n e => ?_⟩
 ·rcases y with y | ⟨K,o,n,cs,ex,ro,h0,rfl,h1,h2,h3⟩
  ·exact .inl y
  ·exact .inr ⟨K,o,n,cs,ex,ro,h0,rfl,Nat.lt_of_lt_of_le h1 W.r1,(W.r2 K h1 (c h0 _ _ _ rfl).2).trans h2,h3⟩
 ·obtain ⟨h1,h2⟩ := c h K o n e
  exact ⟨Nat.lt_of_lt_of_le h1 W.r1,(W.r3 K h1).trans h2⟩
theorem PickK.cutC {h : Heap} {C : Col} {u : AV} {l : List Nat} (x : PickK h u l) (c : l ≠ [] -> ∀ K o n,u = .slice K o l.length n -> K < h.next /\ C K = 0) (n : Nat) (hn : n <= l.length) (k : Nat) (hk : k ≠ 0) : ∃ u',sliceE Try.prog 33 u none (some (.int .i64 (n : Int))) none = some u' /\ PickC h C k u' (l.take n) := by
 obtain ⟨x,hc⟩ := x
 rcases x with ⟨rfl,y⟩ | ⟨K,o,m,cs,ext,ro,h0,rfl,h1,h2,h3⟩
 ·obtain rfl : n = 0 := by simpa using hn
  refine ⟨u, ?_, .inl ⟨rfl,y⟩,fun e => absurd rfl e⟩
  rcases y with rfl | ⟨q,o,n,rfl⟩ | ⟨a,rfl⟩
  ·exact sl_nil_hi Try.underlying33 sz5
  ·exact sl_s_hi Try.underlying33 sz5 ..
  ·exact sl_z_hi Try.underlying33 sz5 a
 ·have hm := hc K o m rfl
  refine ⟨_,sl_s_hiN Try.underlying33 sz5 K o l.length m n (by omega), ?_⟩
  have hlen : (l.take n).length = n := by rw [List.length_take]; omega
  have cK := (c h0 K o m rfl).2
  by_cases h9 : n = 0
  ·subst h9; exact ⟨.inl ⟨rfl, .inr (.inl ⟨K,o,m,rfl⟩)⟩,fun e => absurd rfl e⟩
  ·refine ⟨.inr ⟨K,o,m,cs,ext,ro,fun e => by rw [e] at hlen; simp at hlen; omega,by rw [hlen],h1,h2,by rw [hlen]; exact cut_take h3 rfl hn⟩,fun _ K' o' n' e => ?_⟩
   simp only [AV.slice.injEq] at e
   rw [<- e.1,cK]
   exact hk.symm
theorem ioC_le (k : Nat) : ∀ l : List (Img × Bool × Bool),ioC k l <= l.length * (k + 1)
 | [] => Nat.zero_le _
 | x :: r => by
  rw [ioC_cons,List.length_cons,Nat.succ_mul]
  have := ioC_le k r
  split <;> omega
theorem ioC_pos' (k : Nat) {l : List (Img × Bool × Bool)} (h : 0 < l.length) : 0 < ioC k l := by
 cases l with
 | nil => simp at h
 | cons x r => exact ioC_pos k x r
theorem Put1.set {H f m : Nat} {L0 L1 : List (List Nat)} {l : List (Img × Bool × Bool)} (x : Put1 H f L0 L1 l) {D : Img} {y : Bool × Bool} (hm : l[m]? = some (D,y)) (z : Bool × Bool) : Put1 H f L0 L1 (l.set m (D,z)) := by
 refine ⟨by rw [List.length_set]; exact x.1,fun j w hw => ?_⟩
 rw [List.getElem?_set] at hw
 split at hw
 ·rename_i e
  subst e
  split at hw
  ·cases hw
   have q := x.2 m _ hm
   exact q
  ·cases hw
 ·exact x.2 j _ hw
theorem B_of_M {l l' : List Nat} (h : M l = M l') : Aw.B l = Aw.B l' := by
 have e : ∀ l : List Nat,Aw.B l = (M l).map fun n : Nat => AV.int .u8 (n : Int) := fun l => by
  simp only [B,M,List.map_map]
  rfl
 rw [e,e,h]
theorem G.midB {X : Cx} {ops : Array Oper} {o : Option Tmp} {r : List Oper} {it : Itm} {k : List Itm} {σ : Sg} {res : Option (AV × Heap)} {Q : AV -> Heap -> Prop} (F : Sg -> Heap -> Prop) (h2 : ∀ k',(∀ σ hh,F σ hh -> G (run X k' σ hh) Q) -> G (runB X ops o r (it :: k') σ res) Q) (h1 : ∀ σ hh,F σ hh -> G (run X k σ hh) Q) : G (runB X ops o r (it :: k) σ res) Q := h2 k h1
set_option maxHeartbeats 8000000 in
theorem jlasts_ok (d : Nat) (h : Heap) (xh xc x0 x1 : Nat) (fv : Nat) (pv : AV) (pl : List Nat) (hpk : PickK h pv pl) : G (callD env (d + 16) 5 [.agg (puC xh xc x0 x1),b8 fv,pv] h) fun v h' => v = .bool true := by
 refine G.gen fun Q hX => ?_
 have g41 : overE 0 [AV.int .i64 4, .int .i64 1] (List.replicate 2 (AV.int .i64 0)) = some [.int .i64 4, .int .i64 1] := rfl
 have pl4 : ∀ a b c d,(puC a b c d).length = 4 := fun _ _ _ _ => rfl
 obtain ⟨hok,hsc,hsm⟩ := hpk.1.ok
 rw [callD_run (E := env) [(19, .fl [(4,0,1),(8,0,1)]),(20, .fl [(5,0,1),(9,0,1)])] (by kernel_rfl) Try.func5 rfl (by rw [Try.ntmps5]; simp) (by kernel_rfl)]; simp (maxSteps := 2000000) (implicitDefEqProofs := false) (disch := first | omega | (simp only [SD.down,uA,uL] <;> omega) | fail) only [Try.ntmps5,Try.results5,env_P,env_L,hok,hsc,hsm,TQ.down,resE,oneV, ↓reduceIte,reduceCtorEq,uB,uE,uL,uA,uM,uS,uN,uX,uO,vR,vD,vL,vK,vE,vA,vM,vT,vS]
 first | refine G.call (small_ok1 (d + 6) _) ?_ | refine G.callC (small_ok1 (d + 6) _) ?_ | refine G.callL (small_ok1 (d + 6) _) ?_
 rintro v h1 ⟨rfl,k1⟩
 have n1 := k1.1
 simp (maxSteps := 2000000) (implicitDefEqProofs := false) (disch := first | omega | (simp only [SD.down,uA,uL] <;> omega) | fail) only [TQ.down,resE,oneV, ↓reduceIte,reduceCtorEq,uB,uE,uL,uA,uM,uS,uN,uX,uO,vR,vD,vL,vK,vE,vA,vM,vT,vS] at n1
 have gx : h1.get h.next = some (.cells (puC xh xc x0 x1) 0 false) := by rw [k1.2 _ (by simp (maxSteps := 2000000) (implicitDefEqProofs := false) (disch := first | omega | (simp only [SD.down,uA,uL] <;> omega) | fail) only [TQ.down,resE,oneV, ↓reduceIte,reduceCtorEq,uB,uE,uL,uA,uM,uS,uN,uX,uO,vR,vD,vL,vK,vE,vA,vM,vT,vS] <;> omega)]; simp (maxSteps := 2000000) (implicitDefEqProofs := false) (disch := first | omega | (simp only [SD.down,uA,uL] <;> omega) | fail) only [TQ.down,resE,oneV, ↓reduceIte,reduceCtorEq,uB,uE,uL,uA,uM,uS,uN,uX,uO,vR,vD,vL,vK,vE,vA,vM,vT,vS]
 have px : (puC xh xc x0 x1)[2]? = some (b8 x0) := rfl
 unfold gA
 rw [s54]
 have k18 : (x0 % 256 % 18) % 256 = x0 % 256 % 18 := by omega
 simp (maxSteps := 2000000) (implicitDefEqProofs := false) (disch := first | omega | (simp only [SD.down,uA,uL] <;> omega) | fail) only [g41,c33_fold,cz_fold,gx,px,rem18,cvB,k18,env_P,env_L,TQ.down,resE,oneV, ↓reduceIte,reduceCtorEq,uB,uE,uL,uA,uM,uS,uN,uX,uO,vR,vD,vL,vK,vE,vA,vM,vT,vS]
 have bl4 : binE Try.prog .lss 5 (b8 fv) (b8 4) = some (.bool (decide (fv % 256 < 4))) := by
  rw [show b8 4 = .int .u8 4 from rfl]
  unfold b8
  rw [bin_lss]
  congr 2
  by_cases hf : fv % 256 < 4
  ·rw [decide_eq_true hf,decide_eq_true (by omega)]
  ·rw [decide_eq_false hf,decide_eq_false (by omega)]
 obtain ⟨T,hT⟩ : ∃ T : Nat,4 * (2 + (69 * (x0 % 256 % 18) + 63) / 64 + 1) = T := ⟨_,rfl⟩
 rw [hT]
 have kA : Keeps h1 ((h1.new (Blk.cells (List.replicate 2 (AV.int .i64 0)) 0 false)).put h1.next (some (Blk.cells [AV.int .i64 4,AV.int .i64 1] 0 false))) := (Keeps.refl h1).post (by simp (maxSteps := 2000000) (implicitDefEqProofs := false) (disch := first | omega | (simp only [SD.down,uA,uL] <;> omega) | fail) only [TQ.down,resE,oneV, ↓reduceIte,reduceCtorEq,uB,uE,uL,uA,uM,uS,uN,uX,uO,vR,vD,vL,vK,vE,vA,vM,vT,vS] <;> omega) (fun j hj => by simp (maxSteps := 2000000) (implicitDefEqProofs := false) (disch := first | omega | (simp only [SD.down,uA,uL] <;> omega) | fail) only [TQ.down,resE,oneV, ↓reduceIte,reduceCtorEq,uB,uE,uL,uA,uM,uS,uN,uX,uO,vR,vD,vL,vK,vE,vA,vM,vT,vS])
 have gA1 : ((h1.new (Blk.cells (List.replicate 2 (AV.int .i64 0)) 0 false)).put h1.next (some (Blk.cells [AV.int .i64 4,AV.int .i64 1] 0 false))).get h1.next = some (.cells [.int .i64 4, .int .i64 1] 0 false) := by simp (maxSteps := 2000000) (implicitDefEqProofs := false) (disch := first | omega | (simp only [SD.down,uA,uL] <;> omega) | fail) only [TQ.down,resE,oneV, ↓reduceIte,reduceCtorEq,uB,uE,uL,uA,uM,uS,uN,uX,uO,vR,vD,vL,vK,vE,vA,vM,vT,vS]
 have nA : ((h1.new (Blk.cells (List.replicate 2 (AV.int .i64 0)) 0 false)).put h1.next (some (Blk.cells [AV.int .i64 4,AV.int .i64 1] 0 false))).next = h1.next + 1 := by simp (maxSteps := 2000000) (implicitDefEqProofs := false) (disch := first | omega | (simp only [SD.down,uA,uL] <;> omega) | fail) only [TQ.down,resE,oneV, ↓reduceIte,reduceCtorEq,uB,uE,uL,uA,uM,uS,uN,uX,uO,vR,vD,vL,vK,vE,vA,vM,vT,vS]
 generalize (h1.new (Blk.cells (List.replicate 2 (AV.int .i64 0)) 0 false)).put h1.next (some (Blk.cells [AV.int .i64 4,AV.int .i64 1] 0 false)) = hA at kA gA1 nA ⊢
 refine G.midB (fun σ hh => ∃ sv us,σ 1 = b8 fv /\ σ 2 = pv /\ σ 3 = .ptr h.next 0 /\ σ 7 = .ptr h1.next 0 /\ σ 8 = .int .i64 54 /\ σ 9 = sv /\ σ 10 = .int .i64 (T : Int) /\ StK hh sv (if fv % 256 < 4 then [stF T (fv % 256)] else []) us /\ Keeps hA hh) ?_ ?_
 ·intro kk hr
  simp (maxSteps := 2000000) (implicitDefEqProofs := false) (disch := first | omega | (simp only [SD.down,uA,uL] <;> omega) | fail) only [bl4,env_P,env_L,TQ.down,resE,oneV, ↓reduceIte,reduceCtorEq,uB,uE,uL,uA,uM,uS,uN,uX,uO,vR,vD,vL,vK,vE,vA,vM,vT,vS]
  by_cases hf : fv % 256 < 4
  ·have eS : (((List.replicate 5 (AV.int .i64 0) ++ List.replicate 64 (b8 0) ++ [AV.nilslice]).set 0 (AV.int .i64 (T : Int))).set 1 (AV.int .i64 4)).set 2 (AV.int .i64 ((fv % 256 : Nat) : Int)) = (stF T (fv % 256)).C .nilslice := rfl
   have bT := bsT (stF T (fv % 256)) .nilslice rfl rfl hA
   have cl := (stF T (fv % 256)).C_len .nilslice rfl
   have csc := (stF T (fv % 256)).C_sc .nilslice rfl
   have o0 : Own (69 + 1) hA.next (hA.new (.cells ((stF T (fv % 256)).C .nilslice) 0 false)) .nilslice [] 0 := .inl ⟨rfl,rfl,rfl⟩
   obtain ⟨H3,ea,ow3,n3',f3⟩ := o0.app (m := 0) (c := 1) el49 (by simp (maxSteps := 2000000) (implicitDefEqProofs := false) (disch := first | omega | (simp only [SD.down,uA,uL] <;> omega) | fail) only [TQ.down,resE,oneV, ↓reduceIte,reduceCtorEq,uB,uE,uL,uA,uM,uS,uN,uX,uO,vR,vD,vL,vK,vE,vA,vM,vT,vS] <;> omega) (small_ok el49.small (by omega)) (show (hA.new (.cells ((stF T (fv % 256)).C .nilslice) 0 false)).get hA.next = some (.cells ((stF T (fv % 256)).C .nilslice) 0 false) by simp (maxSteps := 2000000) (implicitDefEqProofs := false) (disch := first | omega | (simp only [SD.down,uA,uL] <;> omega) | fail) only [TQ.down,resE,oneV, ↓reduceIte,reduceCtorEq,uB,uE,uL,uA,uM,uS,uN,uX,uO,vR,vD,vL,vK,vE,vA,vM,vT,vS]) (cut_all (by rw [cl]; rfl)) (by rw [cl]) csc
   simp (maxSteps := 2000000) (implicitDefEqProofs := false) (disch := first | omega | (simp only [SD.down,uA,uL] <;> omega) | fail) only [hf,decide_true,eS,bT,apT,ea,env_P,env_L,TQ.down,resE,oneV, ↓reduceIte,reduceCtorEq,uB,uE,uL,uA,uM,uS,uN,uX,uO,vR,vD,vL,vK,vE,vA,vM,vT,vS]
   refine hr _ _ ⟨.eslice (hA.next + 1) 0 0 1,[.nilslice],by simp (maxSteps := 2000000) (implicitDefEqProofs := false) (disch := first | omega | (simp only [SD.down,uA,uL] <;> omega) | fail) only [TQ.down,resE,oneV, ↓reduceIte,reduceCtorEq,uB,uE,uL,uA,uM,uS,uN,uX,uO,vR,vD,vL,vK,vE,vA,vM,vT,vS],by simp (maxSteps := 2000000) (implicitDefEqProofs := false) (disch := first | omega | (simp only [SD.down,uA,uL] <;> omega) | fail) only [TQ.down,resE,oneV, ↓reduceIte,reduceCtorEq,uB,uE,uL,uA,uM,uS,uN,uX,uO,vR,vD,vL,vK,vE,vA,vM,vT,vS],by simp (maxSteps := 2000000) (implicitDefEqProofs := false) (disch := first | omega | (simp only [SD.down,uA,uL] <;> omega) | fail) only [TQ.down,resE,oneV, ↓reduceIte,reduceCtorEq,uB,uE,uL,uA,uM,uS,uN,uX,uO,vR,vD,vL,vK,vE,vA,vM,vT,vS],by simp (maxSteps := 2000000) (implicitDefEqProofs := false) (disch := first | omega | (simp only [SD.down,uA,uL] <;> omega) | fail) only [TQ.down,resE,oneV, ↓reduceIte,reduceCtorEq,uB,uE,uL,uA,uM,uS,uN,uX,uO,vR,vD,vL,vK,vE,vA,vM,vT,vS],by simp (maxSteps := 2000000) (implicitDefEqProofs := false) (disch := first | omega | (simp only [SD.down,uA,uL] <;> omega) | fail) only [TQ.down,resE,oneV, ↓reduceIte,reduceCtorEq,uB,uE,uL,uA,uM,uS,uN,uX,uO,vR,vD,vL,vK,vE,vA,vM,vT,vS],by simp (maxSteps := 2000000) (implicitDefEqProofs := false) (disch := first | omega | (simp only [SD.down,uA,uL] <;> omega) | fail) only [TQ.down,resE,oneV, ↓reduceIte,reduceCtorEq,uB,uE,uL,uA,uM,uS,uN,uX,uO,vR,vD,vL,vK,vE,vA,vM,vT,vS],by simp (maxSteps := 2000000) (implicitDefEqProofs := false) (disch := first | omega | (simp only [SD.down,uA,uL] <;> omega) | fail) only [TQ.down,resE,oneV, ↓reduceIte,reduceCtorEq,uB,uE,uL,uA,uM,uS,uN,uX,uO,vR,vD,vL,vK,vE,vA,vM,vT,vS], ?_, ?_⟩
   ·rw [if_pos hf]
    rcases ow3 with ⟨h0,_⟩ | ⟨K,e,h1,h2,h3,_⟩
    ·omega
    ·have nw : (hA.new (Blk.cells ((stF T (fv % 256)).C AV.nilslice) 0 false)).next = hA.next + 1 := by simp (maxSteps := 2000000) (implicitDefEqProofs := false) (disch := first | omega | (simp only [SD.down,uA,uL] <;> omega) | fail) only [TQ.down,resE,oneV, ↓reduceIte,reduceCtorEq,uB,uE,uL,uA,uM,uS,uN,uX,uO,vR,vD,vL,vK,vE,vA,vM,vT,vS]
     rw [nw] at e
     cases e
     exact StK.one h2 h3 rfl
   ·have nw : (hA.new (Blk.cells ((stF T (fv % 256)).C AV.nilslice) 0 false)).next = hA.next + 1 := by simp (maxSteps := 2000000) (implicitDefEqProofs := false) (disch := first | omega | (simp only [SD.down,uA,uL] <;> omega) | fail) only [TQ.down,resE,oneV, ↓reduceIte,reduceCtorEq,uB,uE,uL,uA,uM,uS,uN,uX,uO,vR,vD,vL,vK,vE,vA,vM,vT,vS]
    exact ⟨by omega,fun j hj => (f3 j (by omega) (by intro e; cases e)).trans (by simp (maxSteps := 2000000) (implicitDefEqProofs := false) (disch := first | omega | (simp only [SD.down,uA,uL] <;> omega) | fail) only [TQ.down,resE,oneV, ↓reduceIte,reduceCtorEq,uB,uE,uL,uA,uM,uS,uN,uX,uO,vR,vD,vL,vK,vE,vA,vM,vT,vS])⟩
  ·simp (maxSteps := 2000000) (implicitDefEqProofs := false) (disch := first | omega | (simp only [SD.down,uA,uL] <;> omega) | fail) only [hf,decide_false,env_P,env_L,TQ.down,resE,oneV, ↓reduceIte,reduceCtorEq,uB,uE,uL,uA,uM,uS,uN,uX,uO,vR,vD,vL,vK,vE,vA,vM,vT,vS]
   refine hr _ _ ⟨.nilslice,[],by simp (maxSteps := 2000000) (implicitDefEqProofs := false) (disch := first | omega | (simp only [SD.down,uA,uL] <;> omega) | fail) only [TQ.down,resE,oneV, ↓reduceIte,reduceCtorEq,uB,uE,uL,uA,uM,uS,uN,uX,uO,vR,vD,vL,vK,vE,vA,vM,vT,vS],by simp (maxSteps := 2000000) (implicitDefEqProofs := false) (disch := first | omega | (simp only [SD.down,uA,uL] <;> omega) | fail) only [TQ.down,resE,oneV, ↓reduceIte,reduceCtorEq,uB,uE,uL,uA,uM,uS,uN,uX,uO,vR,vD,vL,vK,vE,vA,vM,vT,vS],by simp (maxSteps := 2000000) (implicitDefEqProofs := false) (disch := first | omega | (simp only [SD.down,uA,uL] <;> omega) | fail) only [TQ.down,resE,oneV, ↓reduceIte,reduceCtorEq,uB,uE,uL,uA,uM,uS,uN,uX,uO,vR,vD,vL,vK,vE,vA,vM,vT,vS],by simp (maxSteps := 2000000) (implicitDefEqProofs := false) (disch := first | omega | (simp only [SD.down,uA,uL] <;> omega) | fail) only [TQ.down,resE,oneV, ↓reduceIte,reduceCtorEq,uB,uE,uL,uA,uM,uS,uN,uX,uO,vR,vD,vL,vK,vE,vA,vM,vT,vS],by simp (maxSteps := 2000000) (implicitDefEqProofs := false) (disch := first | omega | (simp only [SD.down,uA,uL] <;> omega) | fail) only [TQ.down,resE,oneV, ↓reduceIte,reduceCtorEq,uB,uE,uL,uA,uM,uS,uN,uX,uO,vR,vD,vL,vK,vE,vA,vM,vT,vS],by simp (maxSteps := 2000000) (implicitDefEqProofs := false) (disch := first | omega | (simp only [SD.down,uA,uL] <;> omega) | fail) only [TQ.down,resE,oneV, ↓reduceIte,reduceCtorEq,uB,uE,uL,uA,uM,uS,uN,uX,uO,vR,vD,vL,vK,vE,vA,vM,vT,vS],by simp (maxSteps := 2000000) (implicitDefEqProofs := false) (disch := first | omega | (simp only [SD.down,uA,uL] <;> omega) | fail) only [TQ.down,resE,oneV, ↓reduceIte,reduceCtorEq,uB,uE,uL,uA,uM,uS,uN,uX,uO,vR,vD,vL,vK,vE,vA,vM,vT,vS], ?_, .refl _⟩
   rw [if_neg hf]
   exact StK.nil _
 ·rintro σ hh ⟨sv,us,s1,s2,s3,s7,s8,s9,s10,hst,kh⟩
  have hsd : ∀ s ∈ (if fv % 256 < 4 then [stF T (fv % 256)] else []),(s.data.length = 64 /\ s.kind = 4) /\ s.picks = [] /\ s.tm = (T : Int) := by
   intro s hs
   split at hs
   ·rw [List.mem_singleton.1 hs]; exact ⟨⟨rfl,rfl⟩,rfl,rfl⟩
   ·cases hs
  have hsl : (if fv % 256 < 4 then [stF T (fv % 256)] else []).length <= 40 := by split <;> simp
  simp (maxSteps := 2000000) (implicitDefEqProofs := false) (disch := first | omega | (simp only [SD.down,uA,uL] <;> omega) | fail) only [s1,s2,s3,s7,s8,s9,s10,hst.ok,c33_fold,cz_fold,env_P,env_L,TQ.down,resE,oneV, ↓reduceIte,reduceCtorEq,uB,uE,uL,uA,uM,uS,uN,uX,uO,vR,vD,vL,vK,vE,vA,vM,vT,vS]
  first | refine G.call (kit_st (d + 6) hh (fun _ => 0) 100 1000 4 54 sv _ us hst (fun s hs => (hsd s hs).1.1) (fun s hs => (hsd s hs).2.1) hsl (by omega) (by omega) (by omega) (by omega) (by omega) (by omega)) ?_ | refine G.callC (kit_st (d + 6) hh (fun _ => 0) 100 1000 4 54 sv _ us hst (fun s hs => (hsd s hs).1.1) (fun s hs => (hsd s hs).2.1) hsl (by omega) (by omega) (by omega) (by omega) (by omega) (by omega)) ?_ | refine G.callL (kit_st (d + 6) hh (fun _ => 0) 100 1000 4 54 sv _ us hst (fun s hs => (hsd s hs).1.1) (fun s hs => (hsd s hs).2.1) hsl (by omega) (by omega) (by omega) (by omega) (by omega) (by omega)) ?_
  rintro v h2 ⟨X,β,cp,ρ,Lb,ps,C2,b2,rfl,L2,pll,B2,st2,lg2,k2,hC2⟩
  have k02 : Keeps hA h2 := kh.trans k2
  have L0 : Lc h2 C2 [(h.next, .cells (puC xh xc x0 x1) 0 false),(h1.next, .cells [.int .i64 4, .int .i64 1] 0 false),(X,bnB β Lb 4 cp ρ),(Lb,psB ps)] := by
   have c0 : ∀ j,j < hA.next -> C2 j = 0 := fun j hj => hC2 j (Nat.lt_of_lt_of_le hj kh.1)
   intro q hq
   simp only [List.mem_cons,List.not_mem_nil,or_false] at hq
   have n02 := k02.1
   rcases hq with rfl | rfl | rfl | rfl
   ·exact ⟨by simp only; omega,c0 _ (by simp only; omega),k02.at (by simp only; omega) (kA.at (by simp only; omega) gx)⟩
   ·exact ⟨by simp only; omega,c0 _ (by simp only; omega),k02.at (by simp only; omega) gA1⟩
   ·exact L2 _ (by simp)
   ·exact L2 _ (by simp)
  have P2 : PickA h2 pv pl /\ (pl ≠ [] -> ∀ K o n,pv = .slice K o pl.length n -> K < h2.next /\ C2 K = 0) := by
   have k01 : Keeps h h1 := ⟨by omega,fun j hj => by rw [k1.2 _ (by simp (maxSteps := 2000000) (implicitDefEqProofs := false) (disch := first | omega | (simp only [SD.down,uA,uL] <;> omega) | fail) only [TQ.down,resE,oneV, ↓reduceIte,reduceCtorEq,uB,uE,uL,uA,uM,uS,uN,uX,uO,vR,vD,vL,vK,vE,vA,vM,vT,vS] <;> omega)]; simp (maxSteps := 2000000) (implicitDefEqProofs := false) (disch := first | omega | (simp only [SD.down,uA,uL] <;> omega) | fail) only [TQ.down,resE,oneV, ↓reduceIte,reduceCtorEq,uB,uE,uL,uA,uM,uS,uN,uX,uO,vR,vD,vL,vK,vE,vA,vM,vT,vS]⟩
   refine ⟨hpk.1.keep ((k01.trans kA).trans k02),fun hne K o n e => ?_⟩
   have n02 := k02.1
   have n0h := kh.1
   rcases hpk.1 with ⟨h0,_⟩ | ⟨K',o',n',cs,ex,ro,_,e',h3,_⟩
   ·exact absurd h0 hne
   ·rw [e] at e'
    cases e'
    exact ⟨by omega,hC2 _ (by omega)⟩
  have W2 : WL h2 C2 h2 C2 β cp ps b2 (c0l 4) := ⟨Nat.le_refl _,fun _ _ _ => rfl,fun _ _ => rfl,B2⟩
  generalize hgg : [(h.next,Blk.cells (puC xh xc x0 x1) 0 false),(h1.next, .cells [.int .i64 4, .int .i64 1] 0 false),(X,bnB β Lb 4 cp ρ),(Lb,psB ps)] = gg at L0
  have mx : (h.next,Blk.cells (puC xh xc x0 x1) 0 false) ∈ gg := by rw [<- hgg]; simp
  have mG : (h1.next,Blk.cells [.int .i64 4, .int .i64 1] 0 false) ∈ gg := by rw [<- hgg]; simp
  have mX : (X,bnB β Lb 4 cp ρ) ∈ gg := by rw [<- hgg]; simp
  have mL : (Lb,psB ps) ∈ gg := by rw [<- hgg]; simp
  clear hgg
  simp (maxSteps := 2000000) (implicitDefEqProofs := false) (disch := first | omega | (simp only [SD.down,uA,uL] <;> omega) | fail) only [s1,s2,s3,s7,s8,s9,s10,hst.ok,c33_fold,cz_fold,env_P,env_L,TQ.down,resE,oneV, ↓reduceIte,reduceCtorEq,uB,uE,uL,uA,uM,uS,uN,uX,uO,vR,vD,vL,vK,vE,vA,vM,vT,vS]
  rw [run_loop]
  refine loop_ind (fun j σ hh => ∃ (m : Nat) (C : Col) (b : BS) (l : List (Img × Bool × Bool)),m + j = 4 /\ σ 1 = b8 fv /\ σ 2 = pv /\ σ 3 = .ptr h.next 0 /\ σ 7 = .ptr h1.next 0 /\ σ 8 = .int .i64 54 /\ σ 10 = .int .i64 (T : Int) /\ σ 11 = .ptr X 0 /\ σ 12 = .int .i64 (m : Int) /\ WL h2 C2 hh C β cp ps b l /\ b.steps = b2.steps /\ b.log = [] /\ Set0 l m 0) ?_ ?_ 4 _ _ _ (by simp) ?_
  ·rintro mm σ hh ⟨m,C,b,l,hm,s1,s2,s3,s7,s8,s10,s11,s12,W,sb,lb,S0⟩
   obtain rfl : m = 4 := by omega
   obtain ⟨H,hH⟩ : ∃ H,xh % 256 % 2 = H := ⟨_,rfl⟩
   have H1 : H <= 1 := by omega
   have Hm : H % 256 = H := by omega
   have rem2 : ∀ (u : TypeId),binE Try.prog .rem u (b8 xh) (b8 2) = some (b8 H) := fun u => by
    rw [<- hH,show b8 2 = .int .u8 2 from rfl]
    unfold b8
    rw [bin_rem (by omega) (by omega)]
    congr 2
    omega
   obtain ⟨k0,hk0⟩ : ∃ k,x0 % 256 % 18 = k := ⟨_,rfl⟩
   obtain ⟨k1',hk1⟩ : ∃ k,x1 % 256 % 18 = k := ⟨_,rfl⟩
   rw [hk0] at hT
   have k017 : k0 <= 17 := by omega
   have k117 : k1' <= 17 := by omega
   have k0m : k0 % 256 = k0 := by omega
   have k1m : k1' % 256 = k1' := by omega
   have px0 : (puC xh xc x0 x1)[0]? = some (b8 xh) := rfl
   have px1 : (puC xh xc x0 x1)[1]? = some (b8 xc) := rfl
   have px3 : (puC xh xc x0 x1)[3]? = some (b8 x1) := rfl
   have gx5 := W.at L0 mx
   simp (maxSteps := 2000000) (implicitDefEqProofs := false) (disch := first | omega | (simp only [SD.down,uA,uL] <;> omega) | fail) only [run_it,s1,s2,s3,s7,s8,s10,s11,s12,gx5,px0,px1,rem2,cvB,Hm,env_P,env_L,TQ.down,resE,oneV, ↓reduceIte,reduceCtorEq,uB,uE,uL,uA,uM,uS,uN,uX,uO,vR,vD,vL,vK,vE,vA,vM,vT,vS]
   first | refine G.call (text_ok (d + 14) hh xc 128 (by omega)) ?_ | refine G.callC (text_ok (d + 14) hh xc 128 (by omega)) ?_ | refine G.callL (text_ok (d + 14) hh xc 128 (by omega)) ?_
   rintro rv0 h6 ⟨by0,bk0,k6⟩
   obtain ⟨ro0,rs0,rl0⟩ := by0.ok
   have W6 := W.kp k6 (C' := pnt C hh.next 0) fun j hj => pnt_lt hj
   have gx6 := W6.at L0 mx
   simp (maxSteps := 2000000) (implicitDefEqProofs := false) (disch := first | omega | (simp only [SD.down,uA,uL] <;> omega) | fail) only [s1,s2,s3,s7,s8,s10,s11,s12,gx5,gx6,px0,px1,px,rem2,rem18,cvB,Hm,hk0,k0m,ro0,env_P,env_L,TQ.down,resE,oneV, ↓reduceIte,reduceCtorEq,uB,uE,uL,uA,uM,uS,uN,uX,uO,vR,vD,vL,vK,vE,vA,vM,vT,vS]
   first | refine G.call (text_ok (d + 14) h6 (xc + 1) (69 * k0) (by omega)) ?_ | refine G.callC (text_ok (d + 14) h6 (xc + 1) (69 * k0) (by omega)) ?_ | refine G.callL (text_ok (d + 14) h6 (xc + 1) (69 * k0) (by omega)) ?_
   rintro bv0 h7 ⟨by1,bk1,k7⟩
   obtain ⟨bo0,bs0,bl0⟩ := by1.ok
   have W7 := W6.kp k7 (C' := pnt (pnt C hh.next 0) h6.next 0) fun j hj => pnt_lt hj
   have gx7 := W7.at L0 mx
   simp (maxSteps := 2000000) (implicitDefEqProofs := false) (disch := first | omega | (simp only [SD.down,uA,uL] <;> omega) | fail) only [s1,s2,s3,s7,s8,s10,s11,s12,gx5,gx6,gx7,px0,px1,px,rem2,rem18,cvB,Hm,hk0,k0m,ro0,rs0,bo0,bs0,env_P,env_L,TQ.down,resE,oneV, ↓reduceIte,reduceCtorEq,uB,uE,uL,uA,uM,uS,uN,uX,uO,vR,vD,vL,vK,vE,vA,vM,vT,vS]
   first | refine G.call (text_ok (d + 14) h7 (xc + 2) 128 (by omega)) ?_ | refine G.callC (text_ok (d + 14) h7 (xc + 2) 128 (by omega)) ?_ | refine G.callL (text_ok (d + 14) h7 (xc + 2) 128 (by omega)) ?_
   rintro rv1 h8 ⟨by2,bk2,k8⟩
   obtain ⟨ro1,rs1,rl1⟩ := by2.ok
   have W8 := W7.kp k8 (C' := pnt (pnt (pnt C hh.next 0) h6.next 0) h7.next 0) fun j hj => pnt_lt hj
   have gx8 := W8.at L0 mx
   simp (maxSteps := 2000000) (implicitDefEqProofs := false) (disch := first | omega | (simp only [SD.down,uA,uL] <;> omega) | fail) only [s1,s2,s3,s7,s8,s10,s11,s12,gx7,gx8,px0,px1,px3,rem2,rem18,cvB,Hm,hk1,k1m,ro0,rs0,bo0,bs0,ro1,rs1,env_P,env_L,TQ.down,resE,oneV, ↓reduceIte,reduceCtorEq,uB,uE,uL,uA,uM,uS,uN,uX,uO,vR,vD,vL,vK,vE,vA,vM,vT,vS]
   first | refine G.call (text_ok (d + 14) h8 (xc + 3) (69 * k1') (by omega)) ?_ | refine G.callC (text_ok (d + 14) h8 (xc + 3) (69 * k1') (by omega)) ?_ | refine G.callL (text_ok (d + 14) h8 (xc + 3) (69 * k1') (by omega)) ?_
   rintro bv1 h9 ⟨by3,bk3,k9⟩
   obtain ⟨bo1,bs1,bl1⟩ := by3.ok
   have W9 := W8.kp k9 (C' := pnt (pnt (pnt (pnt C hh.next 0) h6.next 0) h7.next 0) h8.next 0) fun j hj => pnt_lt hj
   have gx9 := W9.at L0 mx
   have gX9 := W9.at L0 mX
   have gG9 := W9.at L0 mG
   unfold bnB at gX9
   simp (maxSteps := 2000000) (implicitDefEqProofs := false) (disch := first | omega | (simp only [SD.down,uA,uL] <;> omega) | fail) only [s1,s2,s3,s7,s8,s10,s11,s12,gx7,gx8,gx9,gX9,gG9,px0,px1,px3,rem2,rem18,cvB,Hm,hk1,k1m,ro0,rs0,bo0,bs0,ro1,rs1,bo1,bs1,env_P,env_L,TQ.down,resE,oneV, ↓reduceIte,reduceCtorEq,uB,uE,uL,uA,uM,uS,uN,uX,uO,vR,vD,vL,vK,vE,vA,vM,vT,vS]
   have c9 : ∀ j,hh.next <= j -> pnt (pnt (pnt (pnt C hh.next 0) h6.next 0) h7.next 0) h8.next 0 j = 0 := fun j hj => by
    unfold pnt
    repeat' split
    all_goals first | rfl | omega
   have L9 := W9.lc L0
   have P9 := W9.pk P2
   have q0 := (by0.keep (k7.trans (k8.trans k9)).1 fun j hj _ => (k7.trans (k8.trans k9)).2 j hj)
   have q1 := (by1.keep (k8.trans k9).1 fun j hj _ => (k8.trans k9).2 j hj)
   have q2 := (by2.keep k9.1 fun j hj _ => k9.2 j hj)
   have q3 := by3
   have n6 := k6.1
   have n7 := k7.1
   have n8 := k8.1
   have z0 : ∀ K,blkA rv0 = some K -> pnt (pnt (pnt (pnt C hh.next 0) h6.next 0) h7.next 0) h8.next 0 K = 0 := fun K e => c9 K (bk0 K e)
   have z1 : ∀ K,blkA bv0 = some K -> pnt (pnt (pnt (pnt C hh.next 0) h6.next 0) h7.next 0) h8.next 0 K = 0 := fun K e => c9 K (by have := bk1 K e; omega)
   have z2 : ∀ K,blkA rv1 = some K -> pnt (pnt (pnt (pnt C hh.next 0) h6.next 0) h7.next 0) h8.next 0 K = 0 := fun K e => c9 K (by have := bk2 K e; omega)
   have z3 : ∀ K,blkA bv1 = some K -> pnt (pnt (pnt (pnt C hh.next 0) h6.next 0) h7.next 0) h8.next 0 K = 0 := fun K e => c9 K (by have := bk3 K e; omega)
   have B9 := W9.B
   generalize pnt (pnt (pnt (pnt C hh.next 0) h6.next 0) h7.next 0) h8.next 0 = C9 at *
   have WB : WL h9 C9 h9 C9 β cp ps b l := ⟨Nat.le_refl _,fun _ _ _ => rfl,fun _ _ => rfl,B9⟩
   have hall := took_all S0.1 fun j x hx => (S0.2 j x hx).1
   have sb2 : b.steps = if fv % 256 < 4 then [stF T (fv % 256)] else [] := sb.trans st2
   have hsd2 : ∀ s ∈ b.steps,(s.data.length = 64 /\ s.kind = 4) /\ s.picks = [] /\ s.tm = (T : Int) := by rw [sb2]; exact hsd
   have l4 : ((l.length : Nat) : Int) = 4 := by rw [S0.1]; rfl
   have ns0 : nsec (69 * k0) <= 19 := nsec_le (by omega)
   have ns1 : nsec (69 * k1') <= 19 := nsec_le (by omega)
   have hT2 : 4 * (2 + nsec (69 * k0) + 1) = T := hT
   have hl0 : b.log.length = 0 := by rw [lb]; rfl
   have hq0 : ∀ s ∈ b.steps,s.tm ≠ (b.log.length : Int) := fun s hs => by rw [(hsd2 s hs).2.2,hl0]; omega
   have sall : ∀ st : List Stp,(∀ s ∈ st,s.data.length = 64 /\ s.kind = 4) -> SAll (d + 3) 100 β cp ps st := fun st hs b' hb' => step_fl (d + 2) b' 100 β cp ps (by omega) (by rw [hb']; exact hs)
   have hp := hput (d + 2) h9 C9 100 β cp ps b b l 1 H rv0 bv0 (txt xc 128) (txt (xc + 1) (69 * k0)) (by omega) B9.I B9.w (aheadL_quiet _ _ _ hq0) (by rw [l4,s54]; exact B9.c) (by rw [l4]; exact ok41) (by omega) (by omega) q0 q1 (txt_len _ _) (by rw [l4,h21,txt_len]; omega) (by rw [S0.1,txt_len]; omega) (sall _ fun s hs => (hsd2 s hs).1) (fun s hs x => by rw [(hsd2 s hs).2.2,hl0,hall.2,txt_len] at x; omega)
   rw [l4,s54,hall.1,hall.2,txt_len,hl0] at hp
   first | refine G.call (hp) ?_ | refine G.callC (hp) ?_ | refine G.callL (hp) ?_
   rintro v h10 ⟨C10,tv0,b10,rfl,ow0,oc0,B10,st10,lg10,fr10,hC10⟩
   rw [Nat.zero_add,hT2] at lg10
   have W10 := WB.do_ B10 fr10 hC10
   have P1 : Put0 H (jSecs (txt xc 128) (txt (xc + 1) (69 * k0))) _ := S0.put H H1 (jSecs (txt xc 128) (txt (xc + 1) (69 * k0))) (by rw [jSecs_len,txt_len]; omega)
   generalize hl1 : l.map (upC (jPos 4 1 H) (jSecs (txt xc 128) (txt (xc + 1) (69 * k0)))) = l1 at W10 P1 B10
   have gx10 := W10.at L9 mx
   have gX10 := W10.at L9 mX
   have gG10 := W10.at L9 mG
   unfold bnB at gX10
   have ol0 := ow0.len (P := Try.prog) Try.underlying34
   have hcnt := bus_count (d + 12) h10 C10 100 β cp ps b10 B10.I B10.w.w
   rw [lg10] at hcnt
   have t4 : ([0,1,2,3] : List Nat).length = 4 := rfl
   rw [t4] at ol0
   simp (maxSteps := 2000000) (implicitDefEqProofs := false) (disch := first | omega | (simp only [SD.down,uA,uL] <;> omega) | fail) only [s1,s2,s3,s7,s8,s10,s11,s12,gx9,gx10,gX9,gX10,gG9,gG10,hcnt,ol0,ow0.ok,ow0.same,px0,px1,px3,rem2,rem18,cvB,Hm,hk1,k1m,ro0,rs0,bo0,bs0,ro1,rs1,bo1,bs1,env_P,env_L,TQ.down,resE,oneV, ↓reduceIte,reduceCtorEq,uB,uE,uL,uA,uM,uS,uN,uX,uO,vR,vD,vL,vK,vE,vA,vM,vT,vS]
   have e1H : (1 : Int) - (H : Int) = ((1 - H : Nat) : Int) := by omega
   have l14 : l1.length = 4 := P1.1
   have lf4 : (fl1L (fv % 256) l1).length = 4 := by unfold fl1L; rw [List.length_modify]; exact l14
   have lf4' : (((fl1L (fv % 256) l1).length : Nat) : Int) = 4 := by rw [lf4]; rfl
   have cA := ahead_fl B10.c l14 (fun j x hx => (P1.2 j x hx).1) (f := fv % 256) (by rw [st10,lg10]; exact sb2)
   have hp2 := hput (d + 2) h10 C10 100 β cp ps b10 b10.ahead (fl1L (fv % 256) l1) 1 ((1 - H : Nat) : Int) rv1 bv1 (txt (xc + 2) 128) (txt (xc + 3) (69 * k1')) (by omega) B10.I B10.w rfl (by rw [lf4',s54]; exact cA) (by rw [lf4']; exact ok41) (by omega) (by omega) (W10.by_ q2 z2).1 (W10.by_ q3 z3).1 (txt_len _ _) (by rw [lf4',h21,txt_len]; omega) (by rw [lf4,txt_len,lg10]; omega) (sall _ fun s hs => (hsd2 s (by rw [<- st10]; exact hs)).1) (fun s hs x => by rw [(hsd2 s (by rw [<- st10]; exact hs)).2.2,lg10] at x; omega)
   rw [lf4',s54,txt_len,lg10] at hp2
   simp (maxSteps := 2000000) (implicitDefEqProofs := false) (disch := first | omega | (simp only [SD.down,uA,uL] <;> omega) | fail) only [s1,s2,s3,s7,s8,s10,s11,s12,e1H,env_P,env_L,TQ.down,resE,oneV, ↓reduceIte,reduceCtorEq,uB,uE,uL,uA,uM,uS,uN,uX,uO,vR,vD,vL,vK,vE,vA,vM,vT,vS]
   first | refine G.call (hp2) ?_ | refine G.callC (hp2) ?_ | refine G.callL (hp2) ?_
   rintro v h11 ⟨C11,tv1,b11,rfl,ow1,oc1,B11,st11,lg11,fr11,hC11⟩
   have W11 := W10.do_ B11 fr11 hC11
   have PP := P1.put H1 (by rw [jSecs_len,txt_len]; omega) (fv % 256) (jSecs (txt (xc + 2) 128) (txt (xc + 3) (69 * k1'))) (by rw [jSecs_len,txt_len]; omega)
   have tk := took_fl P1 (fv % 256)
   have io1 : 1 <= ioC (2 + nsec (69 * k1')) (fl1L (fv % 256) l1) /\ ioC (2 + nsec (69 * k1')) (fl1L (fv % 256) l1) <= 88 := by
    have := ioC_le (2 + nsec (69 * k1')) (fl1L (fv % 256) l1)
    have := ioC_pos' (2 + nsec (69 * k1')) (l := fl1L (fv % 256) l1) (by omega)
    rw [lf4] at *
    omega
   generalize hl2 : (fl1L (fv % 256) l1).map (upC (jPos 4 1 ((1 - H : Nat) : Int)) (jSecs (txt (xc + 2) 128) (txt (xc + 3) (69 * k1')))) = l2 at W11 PP B11
   generalize hTT : tookC 0 (fl1L (fv % 256) l1) = TT at ow1 tk
   have L11 := W11.lc L9
   have P11 := W11.pk P9
   obtain ⟨u0,y0⟩ := W11.by_ q0 z0
   obtain ⟨u1,y1⟩ := W11.by_ q1 z1
   obtain ⟨u2,y2⟩ := W11.by_ q2 z2
   obtain ⟨u3,y3⟩ := W11.by_ q3 z3
   have gx11 := W11.at L9 mx
   have gX11 := W11.at L9 mX
   have gG11 := W11.at L9 mG
   unfold bnB at gX11
   have ol1 := ow1.len (P := Try.prog) Try.underlying34
   obtain ⟨B0,hB0⟩ : ∃ B0,decide (4 <= fv % 256) = B0 := ⟨_,rfl⟩
   have eL4 : decide ((TT.length : Int) = 4) = B0 := by
    rw [<- hB0,tk.1]
    by_cases hf : fv % 256 < 4
    ·rw [if_pos hf,decide_eq_false (show ¬ 4 <= fv % 256 by omega)]; rfl
    ·rw [if_neg hf,decide_eq_true (show 4 <= fv % 256 by omega)]; rfl
   have eL3 : decide ((TT.length : Int) < 3) = false := by
    refine decide_eq_false ?_
    have := tk.1
    split at this <;> omega
   have bge : ∀ u : TypeId,binE Try.prog .geq u (b8 fv) (b8 4) = some (.bool B0) := fun u => by
    rw [<- hB0,show b8 4 = .int .u8 4 from rfl]
    unfold b8
    rw [bin_geq]
    congr 2
    by_cases hf : 4 <= fv % 256
    ·rw [decide_eq_true hf,decide_eq_true (by omega)]
    ·rw [decide_eq_false hf,decide_eq_false (by omega)]
   have bnb : binE Try.prog .neq 4 (.bool B0) (.bool B0) = some (.bool false) := by cases B0 <;> kernel_rfl
   simp (maxSteps := 2000000) (implicitDefEqProofs := false) (disch := first | omega | (simp only [SD.down,uA,uL] <;> omega) | fail) only [s1,s2,s3,s7,s8,s10,s11,s12,e1H,gx10,gx11,gX10,gX11,gG10,gG11,ol1,ow1.ok,ow1.same,eL4,eL3,bge,bnb,ro1,rs1,bo1,bs1,env_P,env_L,TQ.down,resE,oneV, ↓reduceIte,reduceCtorEq,uB,uE,uL,uA,uM,uS,uN,uX,uO,vR,vD,vL,vK,vE,vA,vM,vT,vS]
   have ow1' := ow1
   rcases ow1' with ⟨h0,_⟩ | ⟨K1,e1,hK1,hK2,hK3,hK4,hK5⟩
   ·have := tk.1; split at this <;> omega
   subst e1
   have cK1 := oc1 K1 rfl
   have WE : WL h11 C11 h11 C11 β cp ps b11 l2 := ⟨Nat.le_refl _,fun _ _ _ => rfl,fun _ _ => rfl,B11⟩
   have lgB : b11.log.length <= 176 /\ T < b11.log.length := by omega
   have st11' := st11.trans (st10.trans sb2)
   rw [run_loop]
   refine loop_ind (fun j σ hh => ∃ (m : Nat) (C : Col) (b : BS) (l : List (Img × Bool × Bool)),m + j = 4 /\ σ 1 = b8 fv /\ σ 2 = pv /\ σ 3 = .ptr h.next 0 /\ σ 7 = .ptr h1.next 0 /\ σ 8 = .int .i64 54 /\ σ 11 = .ptr X 0 /\ σ 15 = .int .i64 (H : Int) /\ σ 16 = rv0 /\ σ 17 = bv0 /\ σ 18 = rv1 /\ σ 19 = bv1 /\ σ 22 = .eslice K1 0 0 TT.length /\ σ 23 = .int .i64 (m : Int) /\ WL h11 C11 hh C β cp ps b l /\ b.steps = b11.steps /\ b.log = b11.log /\ Put1 H (fv % 256) (jSecs (txt xc 128) (txt (xc + 1) (69 * k0))) (jSecs (txt (xc + 2) 128) (txt (xc + 3) (69 * k1'))) l /\ ∀ (j : Nat) x,l[j]? = some x -> j < m -> x.2.1 = false) ?_ ?_ 4 _ _ _ (by simp) ?_
   ·rintro mm σ hh ⟨m,C,b,l3,hm,s1,s2,s3,s7,s8,s11,s15,s16,s17,s18,s19,s22,s23,W,sb3,lb3,PL,FL⟩
    obtain rfl : m = 4 := by omega
    simp (maxSteps := 2000000) (implicitDefEqProofs := false) (disch := first | omega | (simp only [SD.down,uA,uL] <;> omega) | fail) only [run_it,s1,s2,s3,s7,s8,s11,s15,s16,s17,s18,s19,s22,s23,env_P,env_L,TQ.down,resE,oneV, ↓reduceIte,reduceCtorEq,uB,uE,uL,uA,uM,uS,uN,uX,uO,vR,vD,vL,vK,vE,vA,vM,vT,vS]
    have hsd11 : ∀ s ∈ b11.steps,(s.data.length = 64 /\ s.kind = 4) /\ s.picks = [] /\ s.tm = (T : Int) := by rw [st11']; exact hsd
    have hQ : ∀ (b : BS) (k : Nat),b.steps = b11.steps -> T < b.log.length -> Quiet b k := fun b k hs hl s hs' x => by
     rw [(hsd11 s (by rw [<- hs]; exact hs')).2.2] at x
     omega
    have sA : ∀ b : BS,b.steps = b11.steps -> SAll (d + 3) 100 β cp ps b.steps := fun b hs => sall _ fun s hs' => (hsd11 s (by rw [<- hs]; exact hs')).1
    have l34 : ((l3.length : Nat) : Int) = 4 := by rw [PL.1]; rfl
    have lgb3 : T < b.log.length /\ b.log.length <= 176 := by rw [lb3]; omega
    have sb3' := sb3
    rw [run_loop]
    refine loop_ind (fun j σ hh => ∃ (m : Nat) (C : Col) (b : BS),m + j = 4 /\ σ 1 = b8 fv /\ σ 2 = pv /\ σ 3 = .ptr h.next 0 /\ σ 7 = .ptr h1.next 0 /\ σ 8 = .int .i64 54 /\ σ 11 = .ptr X 0 /\ σ 15 = .int .i64 (H : Int) /\ σ 16 = rv0 /\ σ 17 = bv0 /\ σ 18 = rv1 /\ σ 19 = bv1 /\ σ 22 = .eslice K1 0 0 TT.length /\ σ 24 = .int .i64 (m : Int) /\ WL h11 C11 hh C β cp ps b l3 /\ b.steps = b11.steps /\ T < b.log.length /\ b.log.length <= 176 + 21 * m) ?_ ?_ 4 _ _ _ (by simp) ?_
    ·rintro mm σ hh ⟨m,C,b,hm,s1,s2,s3,s7,s8,s11,s15,s16,s17,s18,s19,s22,s24,W,sb4,lb4,lb4'⟩
     obtain rfl : m = 4 := by omega
     simp (maxSteps := 2000000) (implicitDefEqProofs := false) (disch := first | omega | (simp only [SD.down,uA,uL] <;> omega) | fail) only [run_it,s1,s2,s3,s7,s8,s11,s15,s16,s17,s18,s19,s22,s24,env_P,env_L,TQ.down,resE,oneV, ↓reduceIte,reduceCtorEq,uB,uE,uL,uA,uM,uS,uN,uX,uO,vR,vD,vL,vK,vE,vA,vM,vT,vS]
     have htt : TT.length <= 4 := by have := tk.1; split at this <;> omega
     have irr : decide ((TT.length : Int) < (TT.length : Int)) = false := decide_eq_false (by omega)
     rw [run_loop]
     refine loop_ind (fun j σ hh => ∃ (i : Nat) (C : Col) (b : BS),i + j = TT.length /\ σ 1 = b8 fv /\ σ 2 = pv /\ σ 3 = .ptr h.next 0 /\ σ 7 = .ptr h1.next 0 /\ σ 8 = .int .i64 54 /\ σ 11 = .ptr X 0 /\ σ 15 = .int .i64 (H : Int) /\ σ 16 = rv0 /\ σ 17 = bv0 /\ σ 18 = rv1 /\ σ 19 = bv1 /\ σ 22 = .eslice K1 0 0 TT.length /\ σ 29 = .int .i64 (i : Int) /\ WL h11 C11 hh C β cp ps b l3 /\ b.steps = b11.steps /\ T < b.log.length /\ b.log.length <= 260 + 21 * i) ?_ ?_ TT.length _ _ _ (by simp; omega) ?_
     ·rintro mm σ hh ⟨i,C,b,hm,s1,s2,s3,s7,s8,s11,s15,s16,s17,s18,s19,s22,s29,W,sb5,lb5,lb5'⟩
      obtain rfl : i = TT.length := by omega
      have gKe : hh.get K1 = some (.cells (iA TT) 1 false) := (W.r2 K1 hK2 cK1).trans hK3
      simp (maxSteps := 2000000) (implicitDefEqProofs := false) (disch := first | omega | (simp only [SD.down,uA,uL] <;> omega) | fail) only [run_it,s1,s2,s3,s7,s8,s11,s15,s16,s17,s18,s19,s22,s29,irr,env_P,env_L,TQ.down,resE,oneV, ↓reduceIte,reduceCtorEq,uB,uE,uL,uA,uM,uS,uN,uX,uO,vR,vD,vL,vK,vE,vA,vM,vT,vS]
      rw [run_loop]
      refine loop_ind (fun j σ hh => ∃ (m : Nat) (C : Col),m + j = 4 /\ σ 8 = .int .i64 54 /\ σ 11 = .ptr X 0 /\ σ 34 = .int .i64 (m : Int) /\ WL h11 C11 hh C β cp ps b l3) ?_ ?_ 4 _ _ _ (by simp) ?_
      ·rintro mm σ hh ⟨m,C,hm,s8,s11,s34,W⟩
       obtain rfl : m = 4 := by omega
       simp (maxSteps := 2000000) (implicitDefEqProofs := false) (disch := first | omega | (simp only [SD.down,uA,uL] <;> omega) | fail) only [run_it,s8,s11,s34,env_P,env_L,TQ.down,resE,oneV, ↓reduceIte,reduceCtorEq,uB,uE,uL,uA,uM,uS,uN,uX,uO,vR,vD,vL,vK,vE,vA,vM,vT,vS]
       first | refine G.call (works_ok d hh) ?_ | refine G.callC (works_ok d hh) ?_ | refine G.callL (works_ok d hh) ?_
       rintro v hw rfl
       simp (maxSteps := 2000000) (implicitDefEqProofs := false) (disch := first | omega | (simp only [SD.down,uA,uL] <;> omega) | fail) only [env_P,env_L,TQ.down,resE,oneV, ↓reduceIte,reduceCtorEq,uB,uE,uL,uA,uM,uS,uN,uX,uO,vR,vD,vL,vK,vE,vA,vM,vT,vS]
       subst hX
       exact G.ok rfl
      ·rintro j mm σ hh ⟨m,C,hm,s8,s11,s34,W⟩ ih6
       have hm4 : m < 4 := by omega
       obtain ⟨p,hp⟩ : ∃ p,ps[m]? = some p := ⟨_,List.getElem?_eq_getElem (by omega)⟩
       have gp := ptrs_get hp
       obtain ⟨⟨D,fa,hu⟩,hlm⟩ : ∃ x,l3[m]? = some x := ⟨_,List.getElem?_eq_getElem (by rw [PL.1]; exact hm4)⟩
       have hout : Out D := (PL.2 m _ hlm).2.2
       simp (maxSteps := 2000000) (implicitDefEqProofs := false) (disch := first | omega | (simp only [SD.down,uA,uL] <;> omega) | fail) only [run_it,s8,s11,s34,env_P,env_L,TQ.down,resE,oneV, ↓reduceIte,reduceCtorEq,uB,uE,uL,uA,uM,uS,uN,uX,uO,vR,vD,vL,vK,vE,vA,vM,vT,vS]
       rw [run_loop]
       refine loop_ind (fun j σ hh => ∃ (i : Nat) (C : Col),i + j = 54 /\ σ 8 = .int .i64 54 /\ σ 11 = .ptr X 0 /\ σ 34 = .int .i64 (m : Int) /\ σ 35 = .int .i64 (i : Int) /\ WL h11 C11 hh C β cp ps b l3) ?_ ?_ 54 _ _ _ (by simp) ?_
       ·rintro mm σ hh ⟨i,C,hi,s8,s11,s34,s35,W⟩
        obtain rfl : i = 54 := by omega
        simp (maxSteps := 2000000) (implicitDefEqProofs := false) (disch := first | omega | (simp only [SD.down,uA,uL] <;> omega) | fail) only [run_it,s8,s11,s34,s35,env_P,env_L,TQ.down,resE,oneV, ↓reduceIte,reduceCtorEq,uB,uE,uL,uA,uM,uS,uN,uX,uO,vR,vD,vL,vK,vE,vA,vM,vT,vS]
        exact ih6 _ _ ⟨m + 1,C,by omega,by simp (maxSteps := 2000000) (implicitDefEqProofs := false) (disch := first | omega | (simp only [SD.down,uA,uL] <;> omega) | fail) only [s8,TQ.down,resE,oneV, ↓reduceIte,reduceCtorEq,uB,uE,uL,uA,uM,uS,uN,uX,uO,vR,vD,vL,vK,vE,vA,vM,vT,vS],by simp (maxSteps := 2000000) (implicitDefEqProofs := false) (disch := first | omega | (simp only [SD.down,uA,uL] <;> omega) | fail) only [s11,TQ.down,resE,oneV, ↓reduceIte,reduceCtorEq,uB,uE,uL,uA,uM,uS,uN,uX,uO,vR,vD,vL,vK,vE,vA,vM,vT,vS],by simp (maxSteps := 2000000) (implicitDefEqProofs := false) (disch := first | omega | (simp only [SD.down,uA,uL] <;> omega) | fail) only [TQ.down,resE,oneV, ↓reduceIte,reduceCtorEq,uB,uE,uL,uA,uM,uS,uN,uX,uO,vR,vD,vL,vK,vE,vA,vM,vT,vS],W⟩
       ·rintro j mm σ hh ⟨i,C,hi,s8,s11,s34,s35,W⟩ ih7
        have hi54 : i < 54 := by omega
        have gX0 := W.at L11 mX
        have gL0 := W.at L11 mL
        unfold bnB at gX0
        unfold psB at gL0
        have hzz := zz_len
        simp (maxSteps := 2000000) (implicitDefEqProofs := false) (disch := first | omega | (simp only [SD.down,uA,uL] <;> omega) | fail) only [run_it,s8,s11,s34,s35,gX0,gL0,gp,hm4,zz_fold,env_P,env_L,TQ.down,resE,oneV, ↓reduceIte,reduceCtorEq,uB,uE,uL,uA,uM,uS,uN,uX,uO,vR,vD,vL,vK,vE,vA,vM,vT,vS]
        first | refine G.call (hlook4 (d + 10) hh C 100 β cp 54 ps b l3 m p (D,fa,hu) W.B hlm hp i (by omega) (by omega)) ?_ | refine G.callC (hlook4 (d + 10) hh C 100 β cp 54 ps b l3 m p (D,fa,hu) W.B hlm hp i (by omega) (by omega)) ?_ | refine G.callL (hlook4 (d + 10) hh C 100 β cp 54 ps b l3 m p (D,fa,hu) W.B hlm hp i (by omega) (by omega)) ?_
        rintro v h12 ⟨rfl,k12⟩
        have W12 := W.kp k12 (C' := pnt C hh.next 0) fun j hj => pnt_lt hj
        have la := mGet_len (l := D) (W.B.mem hp hlm).2.dur i
        have kpA : Keeps h12 ((h12.new (Blk.cells (Aw.B zz) 0 false)).put h12.next (some (Blk.cells (Aw.B (mGet D i zz)) 0 false))) := (Keeps.refl h12).post (by simp (maxSteps := 2000000) (implicitDefEqProofs := false) (disch := first | omega | (simp only [SD.down,uA,uL] <;> omega) | fail) only [TQ.down,resE,oneV, ↓reduceIte,reduceCtorEq,uB,uE,uL,uA,uM,uS,uN,uX,uO,vR,vD,vL,vK,vE,vA,vM,vT,vS] <;> omega) (fun j hj => by simp (maxSteps := 2000000) (implicitDefEqProofs := false) (disch := first | omega | (simp only [SD.down,uA,uL] <;> omega) | fail) only [TQ.down,resE,oneV, ↓reduceIte,reduceCtorEq,uB,uE,uL,uA,uM,uS,uN,uX,uO,vR,vD,vL,vK,vE,vA,vM,vT,vS])
        have W13 := W12.kp kpA (C' := pnt (pnt C hh.next 0) h12.next 0) fun j hj => pnt_lt hj
        by_cases ho : i < 8 \/ 50 <= i
        ·have eq1 := B_of_M (hout i hi54 ho)
         have c0 : (Aw.B (sec i))[0]? = some (b8 i) := rfl
         have ls := sec_len i
         rw [eq1] at W13
         have nq : ∀ u : TypeId,binE Try.prog .neq u (b8 i) (b8 i) = some (.bool false) := fun u => by unfold b8; rw [bin_neq]; congr 2; simp
         by_cases h8 : i < 8
         ·have d8 : decide ((i : Int) < 8) = true := decide_eq_true (by omega)
          simp (maxSteps := 2000000) (implicitDefEqProofs := false) (disch := first | omega | (simp only [SD.down,uA,uL] <;> omega) | fail) only [s8,s11,s34,s35,gX0,gL0,gp,hm4,zz_fold,hzz,la,ls,over_B,cutB_all,eq1,c0,d8,nq,env_P,env_L,TQ.down,resE,oneV, ↓reduceIte,reduceCtorEq,uB,uE,uL,uA,uM,uS,uN,uX,uO,vR,vD,vL,vK,vE,vA,vM,vT,vS]
          exact ih7 _ _ ⟨i + 1,_,by omega,by simp (maxSteps := 2000000) (implicitDefEqProofs := false) (disch := first | omega | (simp only [SD.down,uA,uL] <;> omega) | fail) only [s8,TQ.down,resE,oneV, ↓reduceIte,reduceCtorEq,uB,uE,uL,uA,uM,uS,uN,uX,uO,vR,vD,vL,vK,vE,vA,vM,vT,vS],by simp (maxSteps := 2000000) (implicitDefEqProofs := false) (disch := first | omega | (simp only [SD.down,uA,uL] <;> omega) | fail) only [s11,TQ.down,resE,oneV, ↓reduceIte,reduceCtorEq,uB,uE,uL,uA,uM,uS,uN,uX,uO,vR,vD,vL,vK,vE,vA,vM,vT,vS],by simp (maxSteps := 2000000) (implicitDefEqProofs := false) (disch := first | omega | (simp only [SD.down,uA,uL] <;> omega) | fail) only [s34,TQ.down,resE,oneV, ↓reduceIte,reduceCtorEq,uB,uE,uL,uA,uM,uS,uN,uX,uO,vR,vD,vL,vK,vE,vA,vM,vT,vS],by simp (maxSteps := 2000000) (implicitDefEqProofs := false) (disch := first | omega | (simp only [SD.down,uA,uL] <;> omega) | fail) only [TQ.down,resE,oneV, ↓reduceIte,reduceCtorEq,uB,uE,uL,uA,uM,uS,uN,uX,uO,vR,vD,vL,vK,vE,vA,vM,vT,vS],W13⟩
         ·have d8 : decide ((i : Int) < 8) = false := decide_eq_false (by omega)
          have d50 : decide ((50 : Int) <= (i : Int)) = true := decide_eq_true (by omega)
          simp (maxSteps := 2000000) (implicitDefEqProofs := false) (disch := first | omega | (simp only [SD.down,uA,uL] <;> omega) | fail) only [s8,s11,s34,s35,gX0,gL0,gp,hm4,zz_fold,hzz,la,ls,over_B,cutB_all,eq1,c0,d8,d50,nq,env_P,env_L,TQ.down,resE,oneV, ↓reduceIte,reduceCtorEq,uB,uE,uL,uA,uM,uS,uN,uX,uO,vR,vD,vL,vK,vE,vA,vM,vT,vS]
          exact ih7 _ _ ⟨i + 1,_,by omega,by simp (maxSteps := 2000000) (implicitDefEqProofs := false) (disch := first | omega | (simp only [SD.down,uA,uL] <;> omega) | fail) only [s8,TQ.down,resE,oneV, ↓reduceIte,reduceCtorEq,uB,uE,uL,uA,uM,uS,uN,uX,uO,vR,vD,vL,vK,vE,vA,vM,vT,vS],by simp (maxSteps := 2000000) (implicitDefEqProofs := false) (disch := first | omega | (simp only [SD.down,uA,uL] <;> omega) | fail) only [s11,TQ.down,resE,oneV, ↓reduceIte,reduceCtorEq,uB,uE,uL,uA,uM,uS,uN,uX,uO,vR,vD,vL,vK,vE,vA,vM,vT,vS],by simp (maxSteps := 2000000) (implicitDefEqProofs := false) (disch := first | omega | (simp only [SD.down,uA,uL] <;> omega) | fail) only [s34,TQ.down,resE,oneV, ↓reduceIte,reduceCtorEq,uB,uE,uL,uA,uM,uS,uN,uX,uO,vR,vD,vL,vK,vE,vA,vM,vT,vS],by simp (maxSteps := 2000000) (implicitDefEqProofs := false) (disch := first | omega | (simp only [SD.down,uA,uL] <;> omega) | fail) only [TQ.down,resE,oneV, ↓reduceIte,reduceCtorEq,uB,uE,uL,uA,uM,uS,uN,uX,uO,vR,vD,vL,vK,vE,vA,vM,vT,vS],W13⟩
        ·have d8 : decide ((i : Int) < 8) = false := decide_eq_false (by omega)
         have d50 : decide ((50 : Int) <= (i : Int)) = false := decide_eq_false (by omega)
         simp (maxSteps := 2000000) (implicitDefEqProofs := false) (disch := first | omega | (simp only [SD.down,uA,uL] <;> omega) | fail) only [s8,s11,s34,s35,gX0,gL0,gp,hm4,zz_fold,hzz,la,over_B,cutB_all,d8,d50,env_P,env_L,TQ.down,resE,oneV, ↓reduceIte,reduceCtorEq,uB,uE,uL,uA,uM,uS,uN,uX,uO,vR,vD,vL,vK,vE,vA,vM,vT,vS]
         exact ih7 _ _ ⟨i + 1,_,by omega,by simp (maxSteps := 2000000) (implicitDefEqProofs := false) (disch := first | omega | (simp only [SD.down,uA,uL] <;> omega) | fail) only [s8,TQ.down,resE,oneV, ↓reduceIte,reduceCtorEq,uB,uE,uL,uA,uM,uS,uN,uX,uO,vR,vD,vL,vK,vE,vA,vM,vT,vS],by simp (maxSteps := 2000000) (implicitDefEqProofs := false) (disch := first | omega | (simp only [SD.down,uA,uL] <;> omega) | fail) only [s11,TQ.down,resE,oneV, ↓reduceIte,reduceCtorEq,uB,uE,uL,uA,uM,uS,uN,uX,uO,vR,vD,vL,vK,vE,vA,vM,vT,vS],by simp (maxSteps := 2000000) (implicitDefEqProofs := false) (disch := first | omega | (simp only [SD.down,uA,uL] <;> omega) | fail) only [s34,TQ.down,resE,oneV, ↓reduceIte,reduceCtorEq,uB,uE,uL,uA,uM,uS,uN,uX,uO,vR,vD,vL,vK,vE,vA,vM,vT,vS],by simp (maxSteps := 2000000) (implicitDefEqProofs := false) (disch := first | omega | (simp only [SD.down,uA,uL] <;> omega) | fail) only [TQ.down,resE,oneV, ↓reduceIte,reduceCtorEq,uB,uE,uL,uA,uM,uS,uN,uX,uO,vR,vD,vL,vK,vE,vA,vM,vT,vS],W13⟩
       ·exact ⟨0,C,by omega,by simp (maxSteps := 2000000) (implicitDefEqProofs := false) (disch := first | omega | (simp only [SD.down,uA,uL] <;> omega) | fail) only [s8,TQ.down,resE,oneV, ↓reduceIte,reduceCtorEq,uB,uE,uL,uA,uM,uS,uN,uX,uO,vR,vD,vL,vK,vE,vA,vM,vT,vS],by simp (maxSteps := 2000000) (implicitDefEqProofs := false) (disch := first | omega | (simp only [SD.down,uA,uL] <;> omega) | fail) only [s11,TQ.down,resE,oneV, ↓reduceIte,reduceCtorEq,uB,uE,uL,uA,uM,uS,uN,uX,uO,vR,vD,vL,vK,vE,vA,vM,vT,vS],by simp (maxSteps := 2000000) (implicitDefEqProofs := false) (disch := first | omega | (simp only [SD.down,uA,uL] <;> omega) | fail) only [s34,TQ.down,resE,oneV, ↓reduceIte,reduceCtorEq,uB,uE,uL,uA,uM,uS,uN,uX,uO,vR,vD,vL,vK,vE,vA,vM,vT,vS],by simp (maxSteps := 2000000) (implicitDefEqProofs := false) (disch := first | omega | (simp only [SD.down,uA,uL] <;> omega) | fail) only [TQ.down,resE,oneV, ↓reduceIte,reduceCtorEq,uB,uE,uL,uA,uM,uS,uN,uX,uO,vR,vD,vL,vK,vE,vA,vM,vT,vS],W⟩
      ·exact ⟨0,C,by omega,by simp (maxSteps := 2000000) (implicitDefEqProofs := false) (disch := first | omega | (simp only [SD.down,uA,uL] <;> omega) | fail) only [s8,TQ.down,resE,oneV, ↓reduceIte,reduceCtorEq,uB,uE,uL,uA,uM,uS,uN,uX,uO,vR,vD,vL,vK,vE,vA,vM,vT,vS],by simp (maxSteps := 2000000) (implicitDefEqProofs := false) (disch := first | omega | (simp only [SD.down,uA,uL] <;> omega) | fail) only [s11,TQ.down,resE,oneV, ↓reduceIte,reduceCtorEq,uB,uE,uL,uA,uM,uS,uN,uX,uO,vR,vD,vL,vK,vE,vA,vM,vT,vS],by simp (maxSteps := 2000000) (implicitDefEqProofs := false) (disch := first | omega | (simp only [SD.down,uA,uL] <;> omega) | fail) only [TQ.down,resE,oneV, ↓reduceIte,reduceCtorEq,uB,uE,uL,uA,uM,uS,uN,uX,uO,vR,vD,vL,vK,vE,vA,vM,vT,vS],W⟩
     ·rintro j mm σ hh ⟨i,C,b,hi,s1,s2,s3,s7,s8,s11,s15,s16,s17,s18,s19,s22,s29,W,sb5,lb5,lb5'⟩ ih5
      have hi' : i < TT.length := by omega
      have hid : decide ((i : Int) < (TT.length : Int)) = true := decide_eq_true (by omega)
      obtain ⟨t,ht⟩ : ∃ t,TT.getD i 0 = t := ⟨_,rfl⟩
      have iAt := iA_get TT hi'
      rw [ht] at iAt
      obtain ⟨t4,tf⟩ := tk.2 t (by rw [<- ht,List.getD_eq_getElem?_getD,List.getElem?_eq_getElem hi']; exact List.getElem_mem hi')
      have tne : decide (((t : Nat) : Int) = ((fv % 256 : Nat) : Int)) = false := decide_eq_false (by omega)
      obtain ⟨⟨D,fa,hu⟩,hlm⟩ : ∃ x,l3[t]? = some x := ⟨_,List.getElem?_eq_getElem (by rw [PL.1]; exact t4)⟩
      obtain rfl : fa = false := FL t _ hlm t4
      have hold : Holds 4 1 ((1 - H : Nat) : Int) D (jSecs (txt (xc + 2) 128) (txt (xc + 3) (69 * k1'))) := (PL.2 t _ hlm).2.1 tf
      have gX0 := W.at L11 mX
      have gG0 := W.at L11 mG
      unfold bnB at gX0
      have gK0 : hh.get K1 = some (.cells (iA TT) 1 false) := (W.r2 K1 hK2 cK1).trans hK3
      have hr := hroot (d + 2) hh C 100 β cp ps b l3 1 ((1 - H : Nat) : Int) t D hu (by omega) (by rw [l34,s54]; exact W.B) hlm (by rw [l34]; exact ok41) (by omega) (by omega) (by omega) (sA b sb5) (hQ b 2 sb5 lb5)
      rw [l34,s54] at hr
      simp (maxSteps := 2000000) (implicitDefEqProofs := false) (disch := first | omega | (simp only [SD.down,uA,uL] <;> omega) | fail) only [run_it,s1,s2,s3,s7,s8,s11,s15,s16,s17,s18,s19,s22,s29,hid,hi',e1H,gX0,gG0,gK0,iAt,env_P,env_L,TQ.down,resE,oneV, ↓reduceIte,reduceCtorEq,uB,uE,uL,uA,uM,uS,uN,uX,uO,vR,vD,vL,vK,vE,vA,vM,vT,vS]
      first | refine G.call (hr) ?_ | refine G.callC (hr) ?_ | refine G.callL (hr) ?_
      rintro v h12 ⟨C12,rv,b12,rfl,by12,bk12,B12,st12,lg12,fr12,hC12⟩
      obtain ⟨ro,rs,rl⟩ := by12.ok
      have W12 := W.do_ B12 fr12 hC12
      have gX12 := W12.at L11 mX
      have gG12 := W12.at L11 mG
      have gx12 := W12.at L11 mx
      have gK12 : h12.get K1 = some (.cells (iA TT) 1 false) := (W12.r2 K1 hK2 cK1).trans hK3
      unfold bnB at gX12
      have hb := hbody (d + 2) h12 C12 100 β cp ps b12 l3 1 ((1 - H : Nat) : Int) t k1' D hu (by omega) (by rw [l34,s54]; exact W12.B) hlm (by rw [l34]; exact ok41) (by omega) (by omega) (by rw [l34,c17]; exact k117) (by omega) (sA b12 (st12.trans sb5)) (hQ b12 _ (st12.trans sb5) (by omega))
      rw [l34,s54] at hb
      simp (maxSteps := 2000000) (implicitDefEqProofs := false) (disch := first | omega | (simp only [SD.down,uA,uL] <;> omega) | fail) only [s1,s2,s3,s7,s8,s11,s15,s16,s17,s18,s19,s22,s29,hid,hi',e1H,gX0,gG0,gK0,gX12,gG12,gK12,gx12,px3,iAt,rem18,cvB,hk1,k1m,ro,rs,env_P,env_L,TQ.down,resE,oneV, ↓reduceIte,reduceCtorEq,uB,uE,uL,uA,uM,uS,uN,uX,uO,vR,vD,vL,vK,vE,vA,vM,vT,vS]
      first | refine G.call (hb) ?_ | refine G.callC (hb) ?_ | refine G.callL (hb) ?_
      rintro v h13 ⟨C13,bv,b13,rfl,by13,bk13,B13,st13,lg13,fr13,hC13⟩
      obtain ⟨bo,bs,bl⟩ := by13.ok
      have W13 := W12.do_ B13 fr13 hC13
      have gX13 := W13.at L11 mX
      have gG13 := W13.at L11 mG
      have gx13 := W13.at L11 mx
      have gK13 : h13.get K1 = some (.cells (iA TT) 1 false) := (W13.r2 K1 hK2 cK1).trans hK3
      unfold bnB at gX13
      have e12 := (by12.keep fr13.le fun j hj e => fr13.get j hj (by rw [(bk12 j e).2]; exact busK_0 (by omega))).str
      have e13 := by13.str
      have er0 := (W13.by_ u2 y2).1.str
      have eb0 := (W13.by_ u3 y3).1.str
      have eR : M (rdC (jPos 4 1 ((1 - H : Nat) : Int)) D 0 2) = M (txt (xc + 2) 128) := rd_root _ _ _ (txt (xc + 3) (69 * k1')) (txt_len _ _) (fun k hk => hold k (by rw [jSecs_len]; exact hk))
      have eB : M ((rdC (jPos 4 1 ((1 - H : Nat) : Int)) D 2 (nsec (69 * k1'))).take (69 * k1')) = M (txt (xc + 3) (69 * k1')) := by
       have := rd_body (jPos 4 1 ((1 - H : Nat) : Int)) D (txt (xc + 2) 128) (txt (xc + 3) (69 * k1')) (fun k hk => hold k (by rw [jSecs_len]; exact hk))
       rw [txt_len] at this
       exact this
      have d1 : decide ((rdC (jPos 4 1 ((1 - H : Nat) : Int)) D 0 2).map (· % 256) = (txt (xc + 2) 128).map (· % 256)) = true := decide_eq_true eR
      have d2 : decide (((rdC (jPos 4 1 ((1 - H : Nat) : Int)) D 2 (nsec (69 * k1'))).take (69 * k1')).map (· % 256) = (txt (xc + 3) (69 * k1')).map (· % 256)) = true := decide_eq_true eB
      simp (maxSteps := 2000000) (implicitDefEqProofs := false) (disch := first | omega | (simp only [SD.down,uA,uL] <;> omega) | fail) only [s1,s2,s3,s7,s8,s11,s15,s16,s17,s18,s19,s22,s29,hid,hi',e1H,gX12,gG12,gK12,gX13,gG13,gK13,gx12,gx13,px3,iAt,tne,rem18,cvB,hk1,k1m,ro,rs,bo,bs,ro1,rs1,bo1,bs1,cvc,cvo,cvr,e12,e13,er0,eb0,bin_neq_str,d1,d2,same_str,env_P,env_L,TQ.down,resE,oneV, ↓reduceIte,reduceCtorEq,uB,uE,uL,uA,uM,uS,uN,uX,uO,vR,vD,vL,vK,vE,vA,vM,vT,vS]
      exact ih5 _ _ ⟨i + 1,C13,b13,by omega,by simp (maxSteps := 2000000) (implicitDefEqProofs := false) (disch := first | omega | (simp only [SD.down,uA,uL] <;> omega) | fail) only [s1,TQ.down,resE,oneV, ↓reduceIte,reduceCtorEq,uB,uE,uL,uA,uM,uS,uN,uX,uO,vR,vD,vL,vK,vE,vA,vM,vT,vS],by simp (maxSteps := 2000000) (implicitDefEqProofs := false) (disch := first | omega | (simp only [SD.down,uA,uL] <;> omega) | fail) only [s2,TQ.down,resE,oneV, ↓reduceIte,reduceCtorEq,uB,uE,uL,uA,uM,uS,uN,uX,uO,vR,vD,vL,vK,vE,vA,vM,vT,vS],by simp (maxSteps := 2000000) (implicitDefEqProofs := false) (disch := first | omega | (simp only [SD.down,uA,uL] <;> omega) | fail) only [s3,TQ.down,resE,oneV, ↓reduceIte,reduceCtorEq,uB,uE,uL,uA,uM,uS,uN,uX,uO,vR,vD,vL,vK,vE,vA,vM,vT,vS],by simp (maxSteps := 2000000) (implicitDefEqProofs := false) (disch := first | omega | (simp only [SD.down,uA,uL] <;> omega) | fail) only [s7,TQ.down,resE,oneV, ↓reduceIte,reduceCtorEq,uB,uE,uL,uA,uM,uS,uN,uX,uO,vR,vD,vL,vK,vE,vA,vM,vT,vS],by simp (maxSteps := 2000000) (implicitDefEqProofs := false) (disch := first | omega | (simp only [SD.down,uA,uL] <;> omega) | fail) only [s8,TQ.down,resE,oneV, ↓reduceIte,reduceCtorEq,uB,uE,uL,uA,uM,uS,uN,uX,uO,vR,vD,vL,vK,vE,vA,vM,vT,vS],by simp (maxSteps := 2000000) (implicitDefEqProofs := false) (disch := first | omega | (simp only [SD.down,uA,uL] <;> omega) | fail) only [s11,TQ.down,resE,oneV, ↓reduceIte,reduceCtorEq,uB,uE,uL,uA,uM,uS,uN,uX,uO,vR,vD,vL,vK,vE,vA,vM,vT,vS],by simp (maxSteps := 2000000) (implicitDefEqProofs := false) (disch := first | omega | (simp only [SD.down,uA,uL] <;> omega) | fail) only [s15,TQ.down,resE,oneV, ↓reduceIte,reduceCtorEq,uB,uE,uL,uA,uM,uS,uN,uX,uO,vR,vD,vL,vK,vE,vA,vM,vT,vS],by simp (maxSteps := 2000000) (implicitDefEqProofs := false) (disch := first | omega | (simp only [SD.down,uA,uL] <;> omega) | fail) only [s16,TQ.down,resE,oneV, ↓reduceIte,reduceCtorEq,uB,uE,uL,uA,uM,uS,uN,uX,uO,vR,vD,vL,vK,vE,vA,vM,vT,vS],by simp (maxSteps := 2000000) (implicitDefEqProofs := false) (disch := first | omega | (simp only [SD.down,uA,uL] <;> omega) | fail) only [s17,TQ.down,resE,oneV, ↓reduceIte,reduceCtorEq,uB,uE,uL,uA,uM,uS,uN,uX,uO,vR,vD,vL,vK,vE,vA,vM,vT,vS],by simp (maxSteps := 2000000) (implicitDefEqProofs := false) (disch := first | omega | (simp only [SD.down,uA,uL] <;> omega) | fail) only [s18,TQ.down,resE,oneV, ↓reduceIte,reduceCtorEq,uB,uE,uL,uA,uM,uS,uN,uX,uO,vR,vD,vL,vK,vE,vA,vM,vT,vS],by simp (maxSteps := 2000000) (implicitDefEqProofs := false) (disch := first | omega | (simp only [SD.down,uA,uL] <;> omega) | fail) only [s19,TQ.down,resE,oneV, ↓reduceIte,reduceCtorEq,uB,uE,uL,uA,uM,uS,uN,uX,uO,vR,vD,vL,vK,vE,vA,vM,vT,vS],by simp (maxSteps := 2000000) (implicitDefEqProofs := false) (disch := first | omega | (simp only [SD.down,uA,uL] <;> omega) | fail) only [s22,TQ.down,resE,oneV, ↓reduceIte,reduceCtorEq,uB,uE,uL,uA,uM,uS,uN,uX,uO,vR,vD,vL,vK,vE,vA,vM,vT,vS],by simp (maxSteps := 2000000) (implicitDefEqProofs := false) (disch := first | omega | (simp only [SD.down,uA,uL] <;> omega) | fail) only [TQ.down,resE,oneV, ↓reduceIte,reduceCtorEq,uB,uE,uL,uA,uM,uS,uN,uX,uO,vR,vD,vL,vK,vE,vA,vM,vT,vS],W13,(st13.trans st12).trans sb5,by omega,by have := nsec_le (n := 69 * k1') (k := 19) (by omega); omega⟩
     ·exact ⟨0,C,b,by omega,by simp (maxSteps := 2000000) (implicitDefEqProofs := false) (disch := first | omega | (simp only [SD.down,uA,uL] <;> omega) | fail) only [s1,TQ.down,resE,oneV, ↓reduceIte,reduceCtorEq,uB,uE,uL,uA,uM,uS,uN,uX,uO,vR,vD,vL,vK,vE,vA,vM,vT,vS],by simp (maxSteps := 2000000) (implicitDefEqProofs := false) (disch := first | omega | (simp only [SD.down,uA,uL] <;> omega) | fail) only [s2,TQ.down,resE,oneV, ↓reduceIte,reduceCtorEq,uB,uE,uL,uA,uM,uS,uN,uX,uO,vR,vD,vL,vK,vE,vA,vM,vT,vS],by simp (maxSteps := 2000000) (implicitDefEqProofs := false) (disch := first | omega | (simp only [SD.down,uA,uL] <;> omega) | fail) only [s3,TQ.down,resE,oneV, ↓reduceIte,reduceCtorEq,uB,uE,uL,uA,uM,uS,uN,uX,uO,vR,vD,vL,vK,vE,vA,vM,vT,vS],by simp (maxSteps := 2000000) (implicitDefEqProofs := false) (disch := first | omega | (simp only [SD.down,uA,uL] <;> omega) | fail) only [s7,TQ.down,resE,oneV, ↓reduceIte,reduceCtorEq,uB,uE,uL,uA,uM,uS,uN,uX,uO,vR,vD,vL,vK,vE,vA,vM,vT,vS],by simp (maxSteps := 2000000) (implicitDefEqProofs := false) (disch := first | omega | (simp only [SD.down,uA,uL] <;> omega) | fail) only [s8,TQ.down,resE,oneV, ↓reduceIte,reduceCtorEq,uB,uE,uL,uA,uM,uS,uN,uX,uO,vR,vD,vL,vK,vE,vA,vM,vT,vS],by simp (maxSteps := 2000000) (implicitDefEqProofs := false) (disch := first | omega | (simp only [SD.down,uA,uL] <;> omega) | fail) only [s11,TQ.down,resE,oneV, ↓reduceIte,reduceCtorEq,uB,uE,uL,uA,uM,uS,uN,uX,uO,vR,vD,vL,vK,vE,vA,vM,vT,vS],by simp (maxSteps := 2000000) (implicitDefEqProofs := false) (disch := first | omega | (simp only [SD.down,uA,uL] <;> omega) | fail) only [s15,TQ.down,resE,oneV, ↓reduceIte,reduceCtorEq,uB,uE,uL,uA,uM,uS,uN,uX,uO,vR,vD,vL,vK,vE,vA,vM,vT,vS],by simp (maxSteps := 2000000) (implicitDefEqProofs := false) (disch := first | omega | (simp only [SD.down,uA,uL] <;> omega) | fail) only [s16,TQ.down,resE,oneV, ↓reduceIte,reduceCtorEq,uB,uE,uL,uA,uM,uS,uN,uX,uO,vR,vD,vL,vK,vE,vA,vM,vT,vS],by simp (maxSteps := 2000000) (implicitDefEqProofs := false) (disch := first | omega | (simp only [SD.down,uA,uL] <;> omega) | fail) only [s17,TQ.down,resE,oneV, ↓reduceIte,reduceCtorEq,uB,uE,uL,uA,uM,uS,uN,uX,uO,vR,vD,vL,vK,vE,vA,vM,vT,vS],by simp (maxSteps := 2000000) (implicitDefEqProofs := false) (disch := first | omega | (simp only [SD.down,uA,uL] <;> omega) | fail) only [s18,TQ.down,resE,oneV, ↓reduceIte,reduceCtorEq,uB,uE,uL,uA,uM,uS,uN,uX,uO,vR,vD,vL,vK,vE,vA,vM,vT,vS],by simp (maxSteps := 2000000) (implicitDefEqProofs := false) (disch := first | omega | (simp only [SD.down,uA,uL] <;> omega) | fail) only [s19,TQ.down,resE,oneV, ↓reduceIte,reduceCtorEq,uB,uE,uL,uA,uM,uS,uN,uX,uO,vR,vD,vL,vK,vE,vA,vM,vT,vS],by simp (maxSteps := 2000000) (implicitDefEqProofs := false) (disch := first | omega | (simp only [SD.down,uA,uL] <;> omega) | fail) only [s22,TQ.down,resE,oneV, ↓reduceIte,reduceCtorEq,uB,uE,uL,uA,uM,uS,uN,uX,uO,vR,vD,vL,vK,vE,vA,vM,vT,vS],by simp (maxSteps := 2000000) (implicitDefEqProofs := false) (disch := first | omega | (simp only [SD.down,uA,uL] <;> omega) | fail) only [TQ.down,resE,oneV, ↓reduceIte,reduceCtorEq,uB,uE,uL,uA,uM,uS,uN,uX,uO,vR,vD,vL,vK,vE,vA,vM,vT,vS],W,sb4,lb4,by omega⟩
    ·rintro j mm σ hh ⟨m,C,b,hm,s1,s2,s3,s7,s8,s11,s15,s16,s17,s18,s19,s22,s24,W,sb4,lb4,lb4'⟩ ih4
     have hm4 : m < 4 := by omega
     obtain ⟨⟨D,fa,hu⟩,hlm⟩ : ∃ x,l3[m]? = some x := ⟨_,List.getElem?_eq_getElem (by rw [PL.1]; exact hm4)⟩
     obtain rfl : fa = false := FL m _ hlm hm4
     have hold : Holds 4 1 H D (jSecs (txt xc 128) (txt (xc + 1) (69 * k0))) := (PL.2 m _ hlm).1
     have gX0 := W.at L11 mX
     have gG0 := W.at L11 mG
     unfold bnB at gX0
     have hr := hroot (d + 2) hh C 100 β cp ps b l3 1 H m D hu (by omega) (by rw [l34,s54]; exact W.B) hlm (by rw [l34]; exact ok41) (by omega) (by omega) (by omega) (sA b sb4) (hQ b 2 sb4 lb4)
     rw [l34,s54] at hr
     simp (maxSteps := 2000000) (implicitDefEqProofs := false) (disch := first | omega | (simp only [SD.down,uA,uL] <;> omega) | fail) only [run_it,s1,s2,s3,s7,s8,s11,s15,s16,s17,s18,s19,s22,s24,gX0,gG0,env_P,env_L,TQ.down,resE,oneV, ↓reduceIte,reduceCtorEq,uB,uE,uL,uA,uM,uS,uN,uX,uO,vR,vD,vL,vK,vE,vA,vM,vT,vS]
     first | refine G.call (hr) ?_ | refine G.callC (hr) ?_ | refine G.callL (hr) ?_
     rintro v h12 ⟨C12,rv,b12,rfl,by12,bk12,B12,st12,lg12,fr12,hC12⟩
     obtain ⟨ro,rs,rl⟩ := by12.ok
     have W12 := W.do_ B12 fr12 hC12
     have gX12 := W12.at L11 mX
     have gG12 := W12.at L11 mG
     have gx12 := W12.at L11 mx
     unfold bnB at gX12
     have hb := hbody (d + 2) h12 C12 100 β cp ps b12 l3 1 H m k0 D hu (by omega) (by rw [l34,s54]; exact W12.B) hlm (by rw [l34]; exact ok41) (by omega) (by omega) (by rw [l34,c17]; exact k017) (by omega) (sA b12 (st12.trans sb4)) (hQ b12 _ (st12.trans sb4) (by omega))
     rw [l34,s54] at hb
     simp (maxSteps := 2000000) (implicitDefEqProofs := false) (disch := first | omega | (simp only [SD.down,uA,uL] <;> omega) | fail) only [s1,s2,s3,s7,s8,s11,s15,s16,s17,s18,s19,s22,s24,gX0,gG0,gX12,gG12,gx12,px,rem18,cvB,hk0,k0m,ro,rs,env_P,env_L,TQ.down,resE,oneV, ↓reduceIte,reduceCtorEq,uB,uE,uL,uA,uM,uS,uN,uX,uO,vR,vD,vL,vK,vE,vA,vM,vT,vS]
     first | refine G.call (hb) ?_ | refine G.callC (hb) ?_ | refine G.callL (hb) ?_
     rintro v h13 ⟨C13,bv,b13,rfl,by13,bk13,B13,st13,lg13,fr13,hC13⟩
     obtain ⟨bo,bs,bl⟩ := by13.ok
     have W13 := W12.do_ B13 fr13 hC13
     have gX13 := W13.at L11 mX
     have gG13 := W13.at L11 mG
     have gx13 := W13.at L11 mx
     unfold bnB at gX13
     have e12 := (by12.keep fr13.le fun j hj e => fr13.get j hj (by rw [(bk12 j e).2]; exact busK_0 (by omega))).str
     have e13 := by13.str
     have er0 := (W13.by_ u0 y0).1.str
     have eb0 := (W13.by_ u1 y1).1.str
     have eR : M (rdC (jPos 4 1 H) D 0 2) = M (txt xc 128) := rd_root _ _ _ (txt (xc + 1) (69 * k0)) (txt_len _ _) (fun k hk => hold k (by rw [jSecs_len]; exact hk))
     have eB : M ((rdC (jPos 4 1 H) D 2 (nsec (69 * k0))).take (69 * k0)) = M (txt (xc + 1) (69 * k0)) := by
      have := rd_body (jPos 4 1 H) D (txt xc 128) (txt (xc + 1) (69 * k0)) (fun k hk => hold k (by rw [jSecs_len]; exact hk))
      rw [txt_len] at this
      exact this
     have d1 : decide ((rdC (jPos 4 1 H) D 0 2).map (· % 256) = (txt xc 128).map (· % 256)) = true := decide_eq_true eR
     have d2 : decide (((rdC (jPos 4 1 H) D 2 (nsec (69 * k0))).take (69 * k0)).map (· % 256) = (txt (xc + 1) (69 * k0)).map (· % 256)) = true := decide_eq_true eB
     simp (maxSteps := 2000000) (implicitDefEqProofs := false) (disch := first | omega | (simp only [SD.down,uA,uL] <;> omega) | fail) only [s1,s2,s3,s7,s8,s11,s15,s16,s17,s18,s19,s22,s24,gX12,gG12,gX13,gG13,gx12,gx13,px,rem18,cvB,hk0,k0m,ro,rs,bo,bs,ro0,rs0,bo0,bs0,cvc,cvo,cvr,e12,e13,er0,eb0,bin_neq_str,d1,d2,same_str,env_P,env_L,TQ.down,resE,oneV, ↓reduceIte,reduceCtorEq,uB,uE,uL,uA,uM,uS,uN,uX,uO,vR,vD,vL,vK,vE,vA,vM,vT,vS]
     exact ih4 _ _ ⟨m + 1,C13,b13,by omega,by simp (maxSteps := 2000000) (implicitDefEqProofs := false) (disch := first | omega | (simp only [SD.down,uA,uL] <;> omega) | fail) only [s1,TQ.down,resE,oneV, ↓reduceIte,reduceCtorEq,uB,uE,uL,uA,uM,uS,uN,uX,uO,vR,vD,vL,vK,vE,vA,vM,vT,vS],by simp (maxSteps := 2000000) (implicitDefEqProofs := false) (disch := first | omega | (simp only [SD.down,uA,uL] <;> omega) | fail) only [s2,TQ.down,resE,oneV, ↓reduceIte,reduceCtorEq,uB,uE,uL,uA,uM,uS,uN,uX,uO,vR,vD,vL,vK,vE,vA,vM,vT,vS],by simp (maxSteps := 2000000) (implicitDefEqProofs := false) (disch := first | omega | (simp only [SD.down,uA,uL] <;> omega) | fail) only [s3,TQ.down,resE,oneV, ↓reduceIte,reduceCtorEq,uB,uE,uL,uA,uM,uS,uN,uX,uO,vR,vD,vL,vK,vE,vA,vM,vT,vS],by simp (maxSteps := 2000000) (implicitDefEqProofs := false) (disch := first | omega | (simp only [SD.down,uA,uL] <;> omega) | fail) only [s7,TQ.down,resE,oneV, ↓reduceIte,reduceCtorEq,uB,uE,uL,uA,uM,uS,uN,uX,uO,vR,vD,vL,vK,vE,vA,vM,vT,vS],by simp (maxSteps := 2000000) (implicitDefEqProofs := false) (disch := first | omega | (simp only [SD.down,uA,uL] <;> omega) | fail) only [s8,TQ.down,resE,oneV, ↓reduceIte,reduceCtorEq,uB,uE,uL,uA,uM,uS,uN,uX,uO,vR,vD,vL,vK,vE,vA,vM,vT,vS],by simp (maxSteps := 2000000) (implicitDefEqProofs := false) (disch := first | omega | (simp only [SD.down,uA,uL] <;> omega) | fail) only [s11,TQ.down,resE,oneV, ↓reduceIte,reduceCtorEq,uB,uE,uL,uA,uM,uS,uN,uX,uO,vR,vD,vL,vK,vE,vA,vM,vT,vS],by simp (maxSteps := 2000000) (implicitDefEqProofs := false) (disch := first | omega | (simp only [SD.down,uA,uL] <;> omega) | fail) only [s15,TQ.down,resE,oneV, ↓reduceIte,reduceCtorEq,uB,uE,uL,uA,uM,uS,uN,uX,uO,vR,vD,vL,vK,vE,vA,vM,vT,vS],by simp (maxSteps := 2000000) (implicitDefEqProofs := false) (disch := first | omega | (simp only [SD.down,uA,uL] <;> omega) | fail) only [s16,TQ.down,resE,oneV, ↓reduceIte,reduceCtorEq,uB,uE,uL,uA,uM,uS,uN,uX,uO,vR,vD,vL,vK,vE,vA,vM,vT,vS],by simp (maxSteps := 2000000) (implicitDefEqProofs := false) (disch := first | omega | (simp only [SD.down,uA,uL] <;> omega) | fail) only [s17,TQ.down,resE,oneV, ↓reduceIte,reduceCtorEq,uB,uE,uL,uA,uM,uS,uN,uX,uO,vR,vD,vL,vK,vE,vA,vM,vT,vS],by simp (maxSteps := 2000000) (implicitDefEqProofs := false) (disch := first | omega | (simp only [SD.down,uA,uL] <;> omega) | fail) only [s18,TQ.down,resE,oneV, ↓reduceIte,reduceCtorEq,uB,uE,uL,uA,uM,uS,uN,uX,uO,vR,vD,vL,vK,vE,vA,vM,vT,vS],by simp (maxSteps := 2000000) (implicitDefEqProofs := false) (disch := first | omega | (simp only [SD.down,uA,uL] <;> omega) | fail) only [s19,TQ.down,resE,oneV, ↓reduceIte,reduceCtorEq,uB,uE,uL,uA,uM,uS,uN,uX,uO,vR,vD,vL,vK,vE,vA,vM,vT,vS],by simp (maxSteps := 2000000) (implicitDefEqProofs := false) (disch := first | omega | (simp only [SD.down,uA,uL] <;> omega) | fail) only [s22,TQ.down,resE,oneV, ↓reduceIte,reduceCtorEq,uB,uE,uL,uA,uM,uS,uN,uX,uO,vR,vD,vL,vK,vE,vA,vM,vT,vS],by simp (maxSteps := 2000000) (implicitDefEqProofs := false) (disch := first | omega | (simp only [SD.down,uA,uL] <;> omega) | fail) only [TQ.down,resE,oneV, ↓reduceIte,reduceCtorEq,uB,uE,uL,uA,uM,uS,uN,uX,uO,vR,vD,vL,vK,vE,vA,vM,vT,vS],W13,(st13.trans st12).trans sb4,by omega,by have := nsec_le (n := 69 * k0) (k := 19) (by omega); omega⟩
    ·exact ⟨0,C,b,by omega,by simp (maxSteps := 2000000) (implicitDefEqProofs := false) (disch := first | omega | (simp only [SD.down,uA,uL] <;> omega) | fail) only [s1,TQ.down,resE,oneV, ↓reduceIte,reduceCtorEq,uB,uE,uL,uA,uM,uS,uN,uX,uO,vR,vD,vL,vK,vE,vA,vM,vT,vS],by simp (maxSteps := 2000000) (implicitDefEqProofs := false) (disch := first | omega | (simp only [SD.down,uA,uL] <;> omega) | fail) only [s2,TQ.down,resE,oneV, ↓reduceIte,reduceCtorEq,uB,uE,uL,uA,uM,uS,uN,uX,uO,vR,vD,vL,vK,vE,vA,vM,vT,vS],by simp (maxSteps := 2000000) (implicitDefEqProofs := false) (disch := first | omega | (simp only [SD.down,uA,uL] <;> omega) | fail) only [s3,TQ.down,resE,oneV, ↓reduceIte,reduceCtorEq,uB,uE,uL,uA,uM,uS,uN,uX,uO,vR,vD,vL,vK,vE,vA,vM,vT,vS],by simp (maxSteps := 2000000) (implicitDefEqProofs := false) (disch := first | omega | (simp only [SD.down,uA,uL] <;> omega) | fail) only [s7,TQ.down,resE,oneV, ↓reduceIte,reduceCtorEq,uB,uE,uL,uA,uM,uS,uN,uX,uO,vR,vD,vL,vK,vE,vA,vM,vT,vS],by simp (maxSteps := 2000000) (implicitDefEqProofs := false) (disch := first | omega | (simp only [SD.down,uA,uL] <;> omega) | fail) only [s8,TQ.down,resE,oneV, ↓reduceIte,reduceCtorEq,uB,uE,uL,uA,uM,uS,uN,uX,uO,vR,vD,vL,vK,vE,vA,vM,vT,vS],by simp (maxSteps := 2000000) (implicitDefEqProofs := false) (disch := first | omega | (simp only [SD.down,uA,uL] <;> omega) | fail) only [s11,TQ.down,resE,oneV, ↓reduceIte,reduceCtorEq,uB,uE,uL,uA,uM,uS,uN,uX,uO,vR,vD,vL,vK,vE,vA,vM,vT,vS],by simp (maxSteps := 2000000) (implicitDefEqProofs := false) (disch := first | omega | (simp only [SD.down,uA,uL] <;> omega) | fail) only [s15,TQ.down,resE,oneV, ↓reduceIte,reduceCtorEq,uB,uE,uL,uA,uM,uS,uN,uX,uO,vR,vD,vL,vK,vE,vA,vM,vT,vS],by simp (maxSteps := 2000000) (implicitDefEqProofs := false) (disch := first | omega | (simp only [SD.down,uA,uL] <;> omega) | fail) only [s16,TQ.down,resE,oneV, ↓reduceIte,reduceCtorEq,uB,uE,uL,uA,uM,uS,uN,uX,uO,vR,vD,vL,vK,vE,vA,vM,vT,vS],by simp (maxSteps := 2000000) (implicitDefEqProofs := false) (disch := first | omega | (simp only [SD.down,uA,uL] <;> omega) | fail) only [s17,TQ.down,resE,oneV, ↓reduceIte,reduceCtorEq,uB,uE,uL,uA,uM,uS,uN,uX,uO,vR,vD,vL,vK,vE,vA,vM,vT,vS],by simp (maxSteps := 2000000) (implicitDefEqProofs := false) (disch := first | omega | (simp only [SD.down,uA,uL] <;> omega) | fail) only [s18,TQ.down,resE,oneV, ↓reduceIte,reduceCtorEq,uB,uE,uL,uA,uM,uS,uN,uX,uO,vR,vD,vL,vK,vE,vA,vM,vT,vS],by simp (maxSteps := 2000000) (implicitDefEqProofs := false) (disch := first | omega | (simp only [SD.down,uA,uL] <;> omega) | fail) only [s19,TQ.down,resE,oneV, ↓reduceIte,reduceCtorEq,uB,uE,uL,uA,uM,uS,uN,uX,uO,vR,vD,vL,vK,vE,vA,vM,vT,vS],by simp (maxSteps := 2000000) (implicitDefEqProofs := false) (disch := first | omega | (simp only [SD.down,uA,uL] <;> omega) | fail) only [s22,TQ.down,resE,oneV, ↓reduceIte,reduceCtorEq,uB,uE,uL,uA,uM,uS,uN,uX,uO,vR,vD,vL,vK,vE,vA,vM,vT,vS],by simp (maxSteps := 2000000) (implicitDefEqProofs := false) (disch := first | omega | (simp only [SD.down,uA,uL] <;> omega) | fail) only [TQ.down,resE,oneV, ↓reduceIte,reduceCtorEq,uB,uE,uL,uA,uM,uS,uN,uX,uO,vR,vD,vL,vK,vE,vA,vM,vT,vS],W,sb3,lgb3.1,by omega⟩
   ·rintro j mm σ hh ⟨m,C,b,l3,hm,s1,s2,s3,s7,s8,s11,s15,s16,s17,s18,s19,s22,s23,W,sb3,lb3,PL,FL⟩ ih3
    have hm4 : m < 4 := by omega
    obtain ⟨p,hp⟩ : ∃ p,ps[m]? = some p := ⟨_,List.getElem?_eq_getElem (by omega)⟩
    have gp := ptrs_get hp
    obtain ⟨⟨D,fa,hu⟩,hlm⟩ : ∃ x,l3[m]? = some x := ⟨_,List.getElem?_eq_getElem (by rw [PL.1]; exact hm4)⟩
    have gX0 := W.at L11 mX
    have gL0 := W.at L11 mL
    unfold bnB at gX0
    unfold psB at gL0
    have PK := W.pk P11
    obtain ⟨uv,eu,pc⟩ := PickK.cutC ⟨PK.1,hpk.2⟩ PK.2 (min pl.length 100) (Nat.min_le_left _ _) (100 + 2 + m) (by omega)
    have plen := PK.1.len
    have emin : min (pl.length : Int) 100 = ((min pl.length 100 : Nat) : Int) := by omega
    obtain ⟨uok,usc,usm⟩ := pc.1.ok
    simp (maxSteps := 2000000) (implicitDefEqProofs := false) (disch := first | omega | (simp only [SD.down,uA,uL] <;> omega) | fail) only [run_it,s1,s2,s3,s7,s8,s11,s15,s16,s17,s18,s19,s22,s23,gX0,gL0,gp,hm4,hok,hsm,plen,MX.down,emin,eu,uok,usm,env_P,env_L,TQ.down,resE,oneV, ↓reduceIte,reduceCtorEq,uB,uE,uL,uA,uM,uS,uN,uX,uO,vR,vD,vL,vK,vE,vA,vM,vT,vS]
    first | refine G.call (hcrash (d + 9) hh C 100 β cp 54 ps b l3 m p (D,fa,hu) (by omega) W.B hlm hp uv _ pc) ?_ | refine G.callC (hcrash (d + 9) hh C 100 β cp 54 ps b l3 m p (D,fa,hu) (by omega) W.B hlm hp uv _ pc) ?_ | refine G.callL (hcrash (d + 9) hh C 100 β cp 54 ps b l3 m p (D,fa,hu) (by omega) W.B hlm hp uv _ pc) ?_
    rintro v h12 ⟨rfl,C12,b12,B12,st12,lg12,fr12,hC12⟩
    have W12 := W.do_ B12 fr12 hC12
    have gX12 := W12.at L11 mX
    have gL12 := W12.at L11 mL
    unfold bnB at gX12
    unfold psB at gL12
    simp (maxSteps := 2000000) (implicitDefEqProofs := false) (disch := first | omega | (simp only [SD.down,uA,uL] <;> omega) | fail) only [s1,s2,s3,s7,s8,s11,s15,s16,s17,s18,s19,s22,s23,gX0,gL0,gX12,gL12,gp,hm4,hok,hsm,plen,MX.down,emin,eu,uok,usm,env_P,env_L,TQ.down,resE,oneV, ↓reduceIte,reduceCtorEq,uB,uE,uL,uA,uM,uS,uN,uX,uO,vR,vD,vL,vK,vE,vA,vM,vT,vS]
    first | refine G.call (hfail (d + 12) h12 C12 100 β cp 54 ps b12 l3 m p D fa hu false (by omega) W12.B hlm hp) ?_ | refine G.callC (hfail (d + 12) h12 C12 100 β cp 54 ps b12 l3 m p D fa hu false (by omega) W12.B hlm hp) ?_ | refine G.callL (hfail (d + 12) h12 C12 100 β cp 54 ps b12 l3 m p D fa hu false (by omega) W12.B hlm hp) ?_
    rintro v h13 ⟨rfl,C13,b13,B13,st13,lg13,fr13,hC13⟩
    have W13 := W12.do_ B13 fr13 hC13
    simp (maxSteps := 2000000) (implicitDefEqProofs := false) (disch := first | omega | (simp only [SD.down,uA,uL] <;> omega) | fail) only [s1,s2,s3,s7,s8,s11,s15,s16,s17,s18,s19,s22,s23,env_P,env_L,TQ.down,resE,oneV, ↓reduceIte,reduceCtorEq,uB,uE,uL,uA,uM,uS,uN,uX,uO,vR,vD,vL,vK,vE,vA,vM,vT,vS]
    refine ih3 _ _ ⟨m + 1,C13,b13,_,by omega,by simp (maxSteps := 2000000) (implicitDefEqProofs := false) (disch := first | omega | (simp only [SD.down,uA,uL] <;> omega) | fail) only [s1,TQ.down,resE,oneV, ↓reduceIte,reduceCtorEq,uB,uE,uL,uA,uM,uS,uN,uX,uO,vR,vD,vL,vK,vE,vA,vM,vT,vS],by simp (maxSteps := 2000000) (implicitDefEqProofs := false) (disch := first | omega | (simp only [SD.down,uA,uL] <;> omega) | fail) only [s2,TQ.down,resE,oneV, ↓reduceIte,reduceCtorEq,uB,uE,uL,uA,uM,uS,uN,uX,uO,vR,vD,vL,vK,vE,vA,vM,vT,vS],by simp (maxSteps := 2000000) (implicitDefEqProofs := false) (disch := first | omega | (simp only [SD.down,uA,uL] <;> omega) | fail) only [s3,TQ.down,resE,oneV, ↓reduceIte,reduceCtorEq,uB,uE,uL,uA,uM,uS,uN,uX,uO,vR,vD,vL,vK,vE,vA,vM,vT,vS],by simp (maxSteps := 2000000) (implicitDefEqProofs := false) (disch := first | omega | (simp only [SD.down,uA,uL] <;> omega) | fail) only [s7,TQ.down,resE,oneV, ↓reduceIte,reduceCtorEq,uB,uE,uL,uA,uM,uS,uN,uX,uO,vR,vD,vL,vK,vE,vA,vM,vT,vS],by simp (maxSteps := 2000000) (implicitDefEqProofs := false) (disch := first | omega | (simp only [SD.down,uA,uL] <;> omega) | fail) only [s8,TQ.down,resE,oneV, ↓reduceIte,reduceCtorEq,uB,uE,uL,uA,uM,uS,uN,uX,uO,vR,vD,vL,vK,vE,vA,vM,vT,vS],by simp (maxSteps := 2000000) (implicitDefEqProofs := false) (disch := first | omega | (simp only [SD.down,uA,uL] <;> omega) | fail) only [s11,TQ.down,resE,oneV, ↓reduceIte,reduceCtorEq,uB,uE,uL,uA,uM,uS,uN,uX,uO,vR,vD,vL,vK,vE,vA,vM,vT,vS],by simp (maxSteps := 2000000) (implicitDefEqProofs := false) (disch := first | omega | (simp only [SD.down,uA,uL] <;> omega) | fail) only [s15,TQ.down,resE,oneV, ↓reduceIte,reduceCtorEq,uB,uE,uL,uA,uM,uS,uN,uX,uO,vR,vD,vL,vK,vE,vA,vM,vT,vS],by simp (maxSteps := 2000000) (implicitDefEqProofs := false) (disch := first | omega | (simp only [SD.down,uA,uL] <;> omega) | fail) only [s16,TQ.down,resE,oneV, ↓reduceIte,reduceCtorEq,uB,uE,uL,uA,uM,uS,uN,uX,uO,vR,vD,vL,vK,vE,vA,vM,vT,vS],by simp (maxSteps := 2000000) (implicitDefEqProofs := false) (disch := first | omega | (simp only [SD.down,uA,uL] <;> omega) | fail) only [s17,TQ.down,resE,oneV, ↓reduceIte,reduceCtorEq,uB,uE,uL,uA,uM,uS,uN,uX,uO,vR,vD,vL,vK,vE,vA,vM,vT,vS],by simp (maxSteps := 2000000) (implicitDefEqProofs := false) (disch := first | omega | (simp only [SD.down,uA,uL] <;> omega) | fail) only [s18,TQ.down,resE,oneV, ↓reduceIte,reduceCtorEq,uB,uE,uL,uA,uM,uS,uN,uX,uO,vR,vD,vL,vK,vE,vA,vM,vT,vS],by simp (maxSteps := 2000000) (implicitDefEqProofs := false) (disch := first | omega | (simp only [SD.down,uA,uL] <;> omega) | fail) only [s19,TQ.down,resE,oneV, ↓reduceIte,reduceCtorEq,uB,uE,uL,uA,uM,uS,uN,uX,uO,vR,vD,vL,vK,vE,vA,vM,vT,vS],by simp (maxSteps := 2000000) (implicitDefEqProofs := false) (disch := first | omega | (simp only [SD.down,uA,uL] <;> omega) | fail) only [s22,TQ.down,resE,oneV, ↓reduceIte,reduceCtorEq,uB,uE,uL,uA,uM,uS,uN,uX,uO,vR,vD,vL,vK,vE,vA,vM,vT,vS],by simp (maxSteps := 2000000) (implicitDefEqProofs := false) (disch := first | omega | (simp only [SD.down,uA,uL] <;> omega) | fail) only [TQ.down,resE,oneV, ↓reduceIte,reduceCtorEq,uB,uE,uL,uA,uM,uS,uN,uX,uO,vR,vD,vL,vK,vE,vA,vM,vT,vS],W13,(st13.trans st12).trans sb3,(lg13.trans lg12).trans lb3,PL.set hlm _,fun j x hx hj => ?_⟩
    rw [List.getElem?_set] at hx
    split at hx
    ·split at hx
     ·cases hx; rfl
     ·cases hx
    ·exact FL j x hx (by omega)
   ·exact ⟨0,C11,b11,l2,by omega,by simp (maxSteps := 2000000) (implicitDefEqProofs := false) (disch := first | omega | (simp only [SD.down,uA,uL] <;> omega) | fail) only [s1,TQ.down,resE,oneV, ↓reduceIte,reduceCtorEq,uB,uE,uL,uA,uM,uS,uN,uX,uO,vR,vD,vL,vK,vE,vA,vM,vT,vS],by simp (maxSteps := 2000000) (implicitDefEqProofs := false) (disch := first | omega | (simp only [SD.down,uA,uL] <;> omega) | fail) only [s2,TQ.down,resE,oneV, ↓reduceIte,reduceCtorEq,uB,uE,uL,uA,uM,uS,uN,uX,uO,vR,vD,vL,vK,vE,vA,vM,vT,vS],by simp (maxSteps := 2000000) (implicitDefEqProofs := false) (disch := first | omega | (simp only [SD.down,uA,uL] <;> omega) | fail) only [s3,TQ.down,resE,oneV, ↓reduceIte,reduceCtorEq,uB,uE,uL,uA,uM,uS,uN,uX,uO,vR,vD,vL,vK,vE,vA,vM,vT,vS],by simp (maxSteps := 2000000) (implicitDefEqProofs := false) (disch := first | omega | (simp only [SD.down,uA,uL] <;> omega) | fail) only [s7,TQ.down,resE,oneV, ↓reduceIte,reduceCtorEq,uB,uE,uL,uA,uM,uS,uN,uX,uO,vR,vD,vL,vK,vE,vA,vM,vT,vS],by simp (maxSteps := 2000000) (implicitDefEqProofs := false) (disch := first | omega | (simp only [SD.down,uA,uL] <;> omega) | fail) only [s8,TQ.down,resE,oneV, ↓reduceIte,reduceCtorEq,uB,uE,uL,uA,uM,uS,uN,uX,uO,vR,vD,vL,vK,vE,vA,vM,vT,vS],by simp (maxSteps := 2000000) (implicitDefEqProofs := false) (disch := first | omega | (simp only [SD.down,uA,uL] <;> omega) | fail) only [s11,TQ.down,resE,oneV, ↓reduceIte,reduceCtorEq,uB,uE,uL,uA,uM,uS,uN,uX,uO,vR,vD,vL,vK,vE,vA,vM,vT,vS],by simp (maxSteps := 2000000) (implicitDefEqProofs := false) (disch := first | omega | (simp only [SD.down,uA,uL] <;> omega) | fail) only [TQ.down,resE,oneV, ↓reduceIte,reduceCtorEq,uB,uE,uL,uA,uM,uS,uN,uX,uO,vR,vD,vL,vK,vE,vA,vM,vT,vS],by simp (maxSteps := 2000000) (implicitDefEqProofs := false) (disch := first | omega | (simp only [SD.down,uA,uL] <;> omega) | fail) only [TQ.down,resE,oneV, ↓reduceIte,reduceCtorEq,uB,uE,uL,uA,uM,uS,uN,uX,uO,vR,vD,vL,vK,vE,vA,vM,vT,vS],by simp (maxSteps := 2000000) (implicitDefEqProofs := false) (disch := first | omega | (simp only [SD.down,uA,uL] <;> omega) | fail) only [TQ.down,resE,oneV, ↓reduceIte,reduceCtorEq,uB,uE,uL,uA,uM,uS,uN,uX,uO,vR,vD,vL,vK,vE,vA,vM,vT,vS],by simp (maxSteps := 2000000) (implicitDefEqProofs := false) (disch := first | omega | (simp only [SD.down,uA,uL] <;> omega) | fail) only [TQ.down,resE,oneV, ↓reduceIte,reduceCtorEq,uB,uE,uL,uA,uM,uS,uN,uX,uO,vR,vD,vL,vK,vE,vA,vM,vT,vS],by simp (maxSteps := 2000000) (implicitDefEqProofs := false) (disch := first | omega | (simp only [SD.down,uA,uL] <;> omega) | fail) only [TQ.down,resE,oneV, ↓reduceIte,reduceCtorEq,uB,uE,uL,uA,uM,uS,uN,uX,uO,vR,vD,vL,vK,vE,vA,vM,vT,vS],by simp (maxSteps := 2000000) (implicitDefEqProofs := false) (disch := first | omega | (simp only [SD.down,uA,uL] <;> omega) | fail) only [TQ.down,resE,oneV, ↓reduceIte,reduceCtorEq,uB,uE,uL,uA,uM,uS,uN,uX,uO,vR,vD,vL,vK,vE,vA,vM,vT,vS],by simp (maxSteps := 2000000) (implicitDefEqProofs := false) (disch := first | omega | (simp only [SD.down,uA,uL] <;> omega) | fail) only [TQ.down,resE,oneV, ↓reduceIte,reduceCtorEq,uB,uE,uL,uA,uM,uS,uN,uX,uO,vR,vD,vL,vK,vE,vA,vM,vT,vS],WE,rfl,rfl,PP,fun j x _ hj => by omega⟩
  ·rintro j mm σ hh ⟨m,C,b,l,hm,s1,s2,s3,s7,s8,s10,s11,s12,W,sb,lb,S0⟩ ih
   have hm4 : m < 4 := by omega
   obtain ⟨p,hp⟩ : ∃ p,ps[m]? = some p := ⟨_,List.getElem?_eq_getElem (by omega)⟩
   have gp := ptrs_get hp
   simp (maxSteps := 2000000) (implicitDefEqProofs := false) (disch := first | omega | (simp only [SD.down,uA,uL] <;> omega) | fail) only [run_it,s1,s2,s3,s7,s8,s10,s11,s12,env_P,env_L,TQ.down,resE,oneV, ↓reduceIte,reduceCtorEq,uB,uE,uL,uA,uM,uS,uN,uX,uO,vR,vD,vL,vK,vE,vA,vM,vT,vS]
   rw [run_loop]
   refine loop_ind (fun j σ hh => ∃ (i : Nat) (C : Col) (b : BS) (l : List (Img × Bool × Bool)),i + j = 54 /\ σ 1 = b8 fv /\ σ 2 = pv /\ σ 3 = .ptr h.next 0 /\ σ 7 = .ptr h1.next 0 /\ σ 8 = .int .i64 54 /\ σ 10 = .int .i64 (T : Int) /\ σ 11 = .ptr X 0 /\ σ 12 = .int .i64 (m : Int) /\ σ 13 = .int .i64 (i : Int) /\ WL h2 C2 hh C β cp ps b l /\ b.steps = b2.steps /\ b.log = [] /\ Set0 l m i) ?_ ?_ 54 _ _ _ (by simp) ?_
   ·rintro mm σ hh ⟨i,C,b,l,hi,s1,s2,s3,s7,s8,s10,s11,s12,s13,W,sb,lb,S0⟩
    obtain rfl : i = 54 := by omega
    simp (maxSteps := 2000000) (implicitDefEqProofs := false) (disch := first | omega | (simp only [SD.down,uA,uL] <;> omega) | fail) only [run_it,s1,s2,s3,s7,s8,s10,s11,s12,s13,env_P,env_L,TQ.down,resE,oneV, ↓reduceIte,reduceCtorEq,uB,uE,uL,uA,uM,uS,uN,uX,uO,vR,vD,vL,vK,vE,vA,vM,vT,vS]
    exact ih _ _ ⟨m + 1,C,b,l,by omega,by simp (maxSteps := 2000000) (implicitDefEqProofs := false) (disch := first | omega | (simp only [SD.down,uA,uL] <;> omega) | fail) only [s1,TQ.down,resE,oneV, ↓reduceIte,reduceCtorEq,uB,uE,uL,uA,uM,uS,uN,uX,uO,vR,vD,vL,vK,vE,vA,vM,vT,vS],by simp (maxSteps := 2000000) (implicitDefEqProofs := false) (disch := first | omega | (simp only [SD.down,uA,uL] <;> omega) | fail) only [s2,TQ.down,resE,oneV, ↓reduceIte,reduceCtorEq,uB,uE,uL,uA,uM,uS,uN,uX,uO,vR,vD,vL,vK,vE,vA,vM,vT,vS],by simp (maxSteps := 2000000) (implicitDefEqProofs := false) (disch := first | omega | (simp only [SD.down,uA,uL] <;> omega) | fail) only [s3,TQ.down,resE,oneV, ↓reduceIte,reduceCtorEq,uB,uE,uL,uA,uM,uS,uN,uX,uO,vR,vD,vL,vK,vE,vA,vM,vT,vS],by simp (maxSteps := 2000000) (implicitDefEqProofs := false) (disch := first | omega | (simp only [SD.down,uA,uL] <;> omega) | fail) only [s7,TQ.down,resE,oneV, ↓reduceIte,reduceCtorEq,uB,uE,uL,uA,uM,uS,uN,uX,uO,vR,vD,vL,vK,vE,vA,vM,vT,vS],by simp (maxSteps := 2000000) (implicitDefEqProofs := false) (disch := first | omega | (simp only [SD.down,uA,uL] <;> omega) | fail) only [s8,TQ.down,resE,oneV, ↓reduceIte,reduceCtorEq,uB,uE,uL,uA,uM,uS,uN,uX,uO,vR,vD,vL,vK,vE,vA,vM,vT,vS],by simp (maxSteps := 2000000) (implicitDefEqProofs := false) (disch := first | omega | (simp only [SD.down,uA,uL] <;> omega) | fail) only [s10,TQ.down,resE,oneV, ↓reduceIte,reduceCtorEq,uB,uE,uL,uA,uM,uS,uN,uX,uO,vR,vD,vL,vK,vE,vA,vM,vT,vS],by simp (maxSteps := 2000000) (implicitDefEqProofs := false) (disch := first | omega | (simp only [SD.down,uA,uL] <;> omega) | fail) only [s11,TQ.down,resE,oneV, ↓reduceIte,reduceCtorEq,uB,uE,uL,uA,uM,uS,uN,uX,uO,vR,vD,vL,vK,vE,vA,vM,vT,vS],by simp (maxSteps := 2000000) (implicitDefEqProofs := false) (disch := first | omega | (simp only [SD.down,uA,uL] <;> omega) | fail) only [TQ.down,resE,oneV, ↓reduceIte,reduceCtorEq,uB,uE,uL,uA,uM,uS,uN,uX,uO,vR,vD,vL,vK,vE,vA,vM,vT,vS],W,sb,lb,S0.next⟩
   ·rintro j mm σ hh ⟨i,C,b,l,hi,s1,s2,s3,s7,s8,s10,s11,s12,s13,W,sb,lb,S0⟩ ih2
    have hi54 : i < 54 := by omega
    have hi256 : i % 256 = i := by omega
    have gX0 := W.at L0 mX
    have gL0 := W.at L0 mL
    unfold bnB at gX0
    unfold psB at gL0
    have lX := (L0 _ mX).1
    have lL := (L0 _ mL).1
    have r1 := W.r1
    have ov : overE 0 [b8 i] (B zz) = some (B (sec i)) := rfl
    have cs64 : cutE 0 64 (B (sec i)) = some (B (sec i)) := cut_all (by rw [B_len,sec_len]; rfl)
    simp (maxSteps := 2000000) (implicitDefEqProofs := false) (disch := first | omega | (simp only [SD.down,uA,uL] <;> omega) | fail) only [run_it,s1,s2,s3,s7,s8,s10,s11,s12,s13,gX0,gL0,gp,hm4,zz_fold,ov,cs64,env_P,env_L,TQ.down,resE,oneV, ↓reduceIte,reduceCtorEq,uB,uE,uL,uA,uM,uS,uN,uX,uO,vR,vD,vL,vK,vE,vA,vM,vT,vS]
    obtain ⟨⟨D,fa,hu⟩,hlm⟩ : ∃ x,l[m]? = some x := ⟨_,List.getElem?_eq_getElem (by rw [S0.1]; exact hm4)⟩
    have kp : Keeps hh ((hh.new (Blk.cells (B zz) 0 false)).put hh.next (some (Blk.cells (B (sec i)) 0 false))) := (Keeps.refl hh).post (by simp (maxSteps := 2000000) (implicitDefEqProofs := false) (disch := first | omega | (simp only [SD.down,uA,uL] <;> omega) | fail) only [TQ.down,resE,oneV, ↓reduceIte,reduceCtorEq,uB,uE,uL,uA,uM,uS,uN,uX,uO,vR,vD,vL,vK,vE,vA,vM,vT,vS] <;> omega) (fun j hj => by simp (maxSteps := 2000000) (implicitDefEqProofs := false) (disch := first | omega | (simp only [SD.down,uA,uL] <;> omega) | fail) only [TQ.down,resE,oneV, ↓reduceIte,reduceCtorEq,uB,uE,uL,uA,uM,uS,uN,uX,uO,vR,vD,vL,vK,vE,vA,vM,vT,vS])
    have nkp : ((hh.new (Blk.cells (B zz) 0 false)).put hh.next (some (Blk.cells (B (sec i)) 0 false))).next = hh.next + 1 := by simp (maxSteps := 2000000) (implicitDefEqProofs := false) (disch := first | omega | (simp only [SD.down,uA,uL] <;> omega) | fail) only [TQ.down,resE,oneV, ↓reduceIte,reduceCtorEq,uB,uE,uL,uA,uM,uS,uN,uX,uO,vR,vD,vL,vK,vE,vA,vM,vT,vS]
    have gkp : ((hh.new (Blk.cells (B zz) 0 false)).put hh.next (some (Blk.cells (B (sec i)) 0 false))).get hh.next = some (Blk.cells (B (sec i)) 0 false) := by simp (maxSteps := 2000000) (implicitDefEqProofs := false) (disch := first | omega | (simp only [SD.down,uA,uL] <;> omega) | fail) only [TQ.down,resE,oneV, ↓reduceIte,reduceCtorEq,uB,uE,uL,uA,uM,uS,uN,uX,uO,vR,vD,vL,vK,vE,vA,vM,vT,vS]
    generalize (hh.new (Blk.cells (B zz) 0 false)).put hh.next (some (Blk.cells (B (sec i)) 0 false)) = h3 at kp nkp gkp ⊢
    have W3 := W.kp kp (C' := pnt C hh.next 0) fun j hj => pnt_lt hj
    first | refine G.call (hset (d + 10) h3 _ 100 β cp 54 ps b l m p D fa hu (by omega) W3.B hlm hp i (sec i) (sec_len i) (by omega) (by omega)) ?_ | refine G.callC (hset (d + 10) h3 _ 100 β cp 54 ps b l m p D fa hu (by omega) W3.B hlm hp i (sec i) (sec_len i) (by omega) (by omega)) ?_ | refine G.callL (hset (d + 10) h3 _ 100 β cp 54 ps b l m p D fa hu (by omega) W3.B hlm hp i (sec i) (sec_len i) (by omega) (by omega)) ?_
    rintro v h4 ⟨⟨e,rfl⟩,C4,b4,B4,st4,lg4,fr4,hC4⟩
    have W4 := W3.do_ B4 fr4 hC4
    have gX3 := W3.at L0 mX
    have gL3 := W3.at L0 mL
    have gX4 := W4.at L0 mX
    have gL4 := W4.at L0 mL
    unfold bnB at gX3 gX4
    unfold psB at gL3 gL4
    have g4 : h4.get hh.next = some (Blk.cells (B (sec i)) 0 false) := (fr4.get _ (by omega) (by rw [pnt_ge (Nat.le_refl _)]; exact busK_0 (by omega))).trans gkp
    simp (maxSteps := 2000000) (implicitDefEqProofs := false) (disch := first | omega | (simp only [SD.down,uA,uL] <;> omega) | fail) only [s1,s2,s3,s7,s8,s10,s11,s12,s13,gX3,gL3,gX4,gL4,g4,gkp,gp,hm4,zz_fold,ov,cs64,env_P,env_L,TQ.down,resE,oneV, ↓reduceIte,reduceCtorEq,uB,uE,uL,uA,uM,uS,uN,uX,uO,vR,vD,vL,vK,vE,vA,vM,vT,vS]
    exact ih2 _ _ ⟨i + 1,C4,b4,_,by omega,by simp (maxSteps := 2000000) (implicitDefEqProofs := false) (disch := first | omega | (simp only [SD.down,uA,uL] <;> omega) | fail) only [s1,TQ.down,resE,oneV, ↓reduceIte,reduceCtorEq,uB,uE,uL,uA,uM,uS,uN,uX,uO,vR,vD,vL,vK,vE,vA,vM,vT,vS],by simp (maxSteps := 2000000) (implicitDefEqProofs := false) (disch := first | omega | (simp only [SD.down,uA,uL] <;> omega) | fail) only [s2,TQ.down,resE,oneV, ↓reduceIte,reduceCtorEq,uB,uE,uL,uA,uM,uS,uN,uX,uO,vR,vD,vL,vK,vE,vA,vM,vT,vS],by simp (maxSteps := 2000000) (implicitDefEqProofs := false) (disch := first | omega | (simp only [SD.down,uA,uL] <;> omega) | fail) only [s3,TQ.down,resE,oneV, ↓reduceIte,reduceCtorEq,uB,uE,uL,uA,uM,uS,uN,uX,uO,vR,vD,vL,vK,vE,vA,vM,vT,vS],by simp (maxSteps := 2000000) (implicitDefEqProofs := false) (disch := first | omega | (simp only [SD.down,uA,uL] <;> omega) | fail) only [s7,TQ.down,resE,oneV, ↓reduceIte,reduceCtorEq,uB,uE,uL,uA,uM,uS,uN,uX,uO,vR,vD,vL,vK,vE,vA,vM,vT,vS],by simp (maxSteps := 2000000) (implicitDefEqProofs := false) (disch := first | omega | (simp only [SD.down,uA,uL] <;> omega) | fail) only [s8,TQ.down,resE,oneV, ↓reduceIte,reduceCtorEq,uB,uE,uL,uA,uM,uS,uN,uX,uO,vR,vD,vL,vK,vE,vA,vM,vT,vS],by simp (maxSteps := 2000000) (implicitDefEqProofs := false) (disch := first | omega | (simp only [SD.down,uA,uL] <;> omega) | fail) only [s10,TQ.down,resE,oneV, ↓reduceIte,reduceCtorEq,uB,uE,uL,uA,uM,uS,uN,uX,uO,vR,vD,vL,vK,vE,vA,vM,vT,vS],by simp (maxSteps := 2000000) (implicitDefEqProofs := false) (disch := first | omega | (simp only [SD.down,uA,uL] <;> omega) | fail) only [s11,TQ.down,resE,oneV, ↓reduceIte,reduceCtorEq,uB,uE,uL,uA,uM,uS,uN,uX,uO,vR,vD,vL,vK,vE,vA,vM,vT,vS],by simp (maxSteps := 2000000) (implicitDefEqProofs := false) (disch := first | omega | (simp only [SD.down,uA,uL] <;> omega) | fail) only [s12,TQ.down,resE,oneV, ↓reduceIte,reduceCtorEq,uB,uE,uL,uA,uM,uS,uN,uX,uO,vR,vD,vL,vK,vE,vA,vM,vT,vS],by simp (maxSteps := 2000000) (implicitDefEqProofs := false) (disch := first | omega | (simp only [SD.down,uA,uL] <;> omega) | fail) only [TQ.down,resE,oneV, ↓reduceIte,reduceCtorEq,uB,uE,uL,uA,uM,uS,uN,uX,uO,vR,vD,vL,vK,vE,vA,vM,vT,vS],W4,st4.trans sb,lg4.trans lb,S0.step hlm⟩
   ·exact ⟨0,C,b,l,by omega,by simp (maxSteps := 2000000) (implicitDefEqProofs := false) (disch := first | omega | (simp only [SD.down,uA,uL] <;> omega) | fail) only [s1,TQ.down,resE,oneV, ↓reduceIte,reduceCtorEq,uB,uE,uL,uA,uM,uS,uN,uX,uO,vR,vD,vL,vK,vE,vA,vM,vT,vS],by simp (maxSteps := 2000000) (implicitDefEqProofs := false) (disch := first | omega | (simp only [SD.down,uA,uL] <;> omega) | fail) only [s2,TQ.down,resE,oneV, ↓reduceIte,reduceCtorEq,uB,uE,uL,uA,uM,uS,uN,uX,uO,vR,vD,vL,vK,vE,vA,vM,vT,vS],by simp (maxSteps := 2000000) (implicitDefEqProofs := false) (disch := first | omega | (simp only [SD.down,uA,uL] <;> omega) | fail) only [s3,TQ.down,resE,oneV, ↓reduceIte,reduceCtorEq,uB,uE,uL,uA,uM,uS,uN,uX,uO,vR,vD,vL,vK,vE,vA,vM,vT,vS],by simp (maxSteps := 2000000) (implicitDefEqProofs := false) (disch := first | omega | (simp only [SD.down,uA,uL] <;> omega) | fail) only [s7,TQ.down,resE,oneV, ↓reduceIte,reduceCtorEq,uB,uE,uL,uA,uM,uS,uN,uX,uO,vR,vD,vL,vK,vE,vA,vM,vT,vS],by simp (maxSteps := 2000000) (implicitDefEqProofs := false) (disch := first | omega | (simp only [SD.down,uA,uL] <;> omega) | fail) only [s8,TQ.down,resE,oneV, ↓reduceIte,reduceCtorEq,uB,uE,uL,uA,uM,uS,uN,uX,uO,vR,vD,vL,vK,vE,vA,vM,vT,vS],by simp (maxSteps := 2000000) (implicitDefEqProofs := false) (disch := first | omega | (simp only [SD.down,uA,uL] <;> omega) | fail) only [s10,TQ.down,resE,oneV, ↓reduceIte,reduceCtorEq,uB,uE,uL,uA,uM,uS,uN,uX,uO,vR,vD,vL,vK,vE,vA,vM,vT,vS],by simp (maxSteps := 2000000) (implicitDefEqProofs := false) (disch := first | omega | (simp only [SD.down,uA,uL] <;> omega) | fail) only [s11,TQ.down,resE,oneV, ↓reduceIte,reduceCtorEq,uB,uE,uL,uA,uM,uS,uN,uX,uO,vR,vD,vL,vK,vE,vA,vM,vT,vS],by simp (maxSteps := 2000000) (implicitDefEqProofs := false) (disch := first | omega | (simp only [SD.down,uA,uL] <;> omega) | fail) only [s12,TQ.down,resE,oneV, ↓reduceIte,reduceCtorEq,uB,uE,uL,uA,uM,uS,uN,uX,uO,vR,vD,vL,vK,vE,vA,vM,vT,vS],by simp (maxSteps := 2000000) (implicitDefEqProofs := false) (disch := first | omega | (simp only [SD.down,uA,uL] <;> omega) | fail) only [TQ.down,resE,oneV, ↓reduceIte,reduceCtorEq,uB,uE,uL,uA,uM,uS,uN,uX,uO,vR,vD,vL,vK,vE,vA,vM,vT,vS],W,sb,lb,S0⟩
  ·exact ⟨0,C2,b2,c0l 4,by omega,by simp (maxSteps := 2000000) (implicitDefEqProofs := false) (disch := first | omega | (simp only [SD.down,uA,uL] <;> omega) | fail) only [s1,TQ.down,resE,oneV, ↓reduceIte,reduceCtorEq,uB,uE,uL,uA,uM,uS,uN,uX,uO,vR,vD,vL,vK,vE,vA,vM,vT,vS],by simp (maxSteps := 2000000) (implicitDefEqProofs := false) (disch := first | omega | (simp only [SD.down,uA,uL] <;> omega) | fail) only [s2,TQ.down,resE,oneV, ↓reduceIte,reduceCtorEq,uB,uE,uL,uA,uM,uS,uN,uX,uO,vR,vD,vL,vK,vE,vA,vM,vT,vS],by simp (maxSteps := 2000000) (implicitDefEqProofs := false) (disch := first | omega | (simp only [SD.down,uA,uL] <;> omega) | fail) only [s3,TQ.down,resE,oneV, ↓reduceIte,reduceCtorEq,uB,uE,uL,uA,uM,uS,uN,uX,uO,vR,vD,vL,vK,vE,vA,vM,vT,vS],by simp (maxSteps := 2000000) (implicitDefEqProofs := false) (disch := first | omega | (simp only [SD.down,uA,uL] <;> omega) | fail) only [s7,TQ.down,resE,oneV, ↓reduceIte,reduceCtorEq,uB,uE,uL,uA,uM,uS,uN,uX,uO,vR,vD,vL,vK,vE,vA,vM,vT,vS],by simp (maxSteps := 2000000) (implicitDefEqProofs := false) (disch := first | omega | (simp only [SD.down,uA,uL] <;> omega) | fail) only [s8,TQ.down,resE,oneV, ↓reduceIte,reduceCtorEq,uB,uE,uL,uA,uM,uS,uN,uX,uO,vR,vD,vL,vK,vE,vA,vM,vT,vS],by simp (maxSteps := 2000000) (implicitDefEqProofs := false) (disch := first | omega | (simp only [SD.down,uA,uL] <;> omega) | fail) only [s10,TQ.down,resE,oneV, ↓reduceIte,reduceCtorEq,uB,uE,uL,uA,uM,uS,uN,uX,uO,vR,vD,vL,vK,vE,vA,vM,vT,vS],by simp (maxSteps := 2000000) (implicitDefEqProofs := false) (disch := first | omega | (simp only [SD.down,uA,uL] <;> omega) | fail) only [TQ.down,resE,oneV, ↓reduceIte,reduceCtorEq,uB,uE,uL,uA,uM,uS,uN,uX,uO,vR,vD,vL,vK,vE,vA,vM,vT,vS],by simp (maxSteps := 2000000) (implicitDefEqProofs := false) (disch := first | omega | (simp only [SD.down,uA,uL] <;> omega) | fail) only [TQ.down,resE,oneV, ↓reduceIte,reduceCtorEq,uB,uE,uL,uA,uM,uS,uN,uX,uO,vR,vD,vL,vK,vE,vA,vM,vT,vS],W2,rfl,lg2,Set0.nil⟩
open Go Go.Ai Go.Aw Go.Proofs Go.RowKit
def PuI (h : Heap) (v : AV) (x : Nat × Nat × Nat × Nat) : Prop := v = .agg (puC x.1 x.2.1 x.2.2.1 x.2.2.2)
theorem PuI.keep {h h' : Heap} {v : AV} {x : Nat × Nat × Nat × Nat} (p : PuI h v x) (k : Keeps h h') : PuI h' v x := p
def U8I (h : Heap) (v : AV) (n : Nat) : Prop := v = b8 n
theorem U8I.keep {h h' : Heap} {v : AV} {n : Nat} (p : U8I h v n) (k : Keeps h h') : U8I h' v n := p
theorem PickK.keep {h h' : Heap} {v : AV} {l : List Nat} (p : PickK h v l) (k : Keeps h h') : PickK h' v l := ⟨p.1.keep k,p.2⟩
theorem four_of' {l : List Nat} (h : l.length = 4) : ∃ a b c d,B l = puC a b c d := by
 match l,h with
 | [a,b,c,d],_ => exact ⟨a,b,c,d,rfl⟩
theorem u8_of' {P : Program} {w : World} {r : Reach} {base t : Nat} (hu : P.underlying t = some (.int .u8)) {v : Value} (h : Value.okWide P w r base t v) : ∃ n : Nat,n < 256 /\ v = .int .u8 (n : Int) := by
 unfold Value.okWide at h
 rw [hu] at h
 exact Go.Aw.byte_of hu h
theorem pu_cells : Try.prog.cellTypes Try.prog.depth 56 = some (List.replicate 4 5) := by kernel_rfl
theorem puts_arg {H : Type} {enc : TypeId × Value -> H} {w : World} {r : Reach} {b0 base : Nat} {sp : Nat -> Bool} {held : Bool} {v : Value} {d : DataW H} {ps : List MemPlace} {ρ : Ren} {h : Heap} (ro : RO ρ h w)
  (hval : Value.okWide Try.prog w r b0 56 v) (hd : DataW.Trod enc Try.prog w base sp held 56 v d ps) :
  ∃ ρ' h' av x,Ext ρ ρ' /\ RO ρ' h' w /\ Keeps h h' /\ av.den ρ' = some v /\ PuI h' av x /\ True := by
 obtain ⟨l,hl,_,hd⟩ := bytesS_of Try.underlying56 (by kernel_rfl) pu_cells (fun u hu => by
  obtain rfl := List.eq_of_mem_replicate hu
  exact Try.underlying5) hval
 obtain ⟨a,b,c,e,hB⟩ := four_of' (l := l) (by rw [hl])
 exact ⟨ρ,h, .agg (B l),(a,b,c,e),fun _ _ e => e,ro, .refl _,hd ρ,by rw [hB]; rfl,trivial⟩
theorem fails_arg {H : Type} {enc : TypeId × Value -> H} {w : World} {r : Reach} {b0 base : Nat} {sp : Nat -> Bool} {held : Bool} {v : Value} {d : DataW H} {ps : List MemPlace} {ρ : Ren} {h : Heap} (ro : RO ρ h w)
  (hval : Value.okWide Try.prog w r b0 5 v) (hd : DataW.Trod enc Try.prog w base sp held 5 v d ps) :
  ∃ ρ' h' av x,Ext ρ ρ' /\ RO ρ' h' w /\ Keeps h h' /\ av.den ρ' = some v /\ U8I h' av x /\ True := by
 obtain ⟨n,hn,rfl⟩ := u8_of' Try.underlying5 hval
 refine ⟨ρ,h,b8 n,n,fun _ _ e => e,ro, .refl _, ?_,rfl,trivial⟩
 unfold b8
 rw [show n % 256 = n by omega]
 rfl
theorem picks_arg {H : Type} {enc : TypeId × Value -> H} {w : World} {r : Reach} {b0 base : Nat} {sp : Nat -> Bool} {held : Bool} {v : Value} {d : DataW H} {ps : List MemPlace} {ρ : Ren} {h : Heap} (ro : RO ρ h w)
  (hval : Value.okWide Try.prog w r b0 33 v) (hd : DataW.Trod enc Try.prog w base sp held 33 v d ps) :
  ∃ ρ' h' av x,Ext ρ ρ' /\ RO ρ' h' w /\ Keeps h h' /\ av.den ρ' = some v /\ PickK h' av x /\ True := by
 have fk : flatK Try.prog 10 5 = some [IntKind.u8] := by kernel_rfl
 rcases flat_slice Try.underlying33 fk (by kernel_rfl) (by decide) hval hd with rfl | ⟨l,len,cap,cs,rfl,hle,_,hl,hc,hb⟩
 ·exact ⟨ρ,h, .nilslice,[],fun _ _ e => e,ro, .refl _,rfl,⟨.inl ⟨rfl, .inl rfl⟩,fun _ _ _ e => by cases e⟩,trivial⟩
 ·have e1 : ([IntKind.u8] : List IntKind).length = 1 := rfl
  rw [e1,Nat.mul_one] at hl
  obtain ⟨ns,g1,g2,g3⟩ := bytesAV cs fun i hi => by
   have := hc i 0 .u8 (by omega) rfl
   rw [e1,Nat.mul_one,Nat.add_zero] at this
   exact this
  obtain ⟨x1,x2⟩ := ro.new (hb ρ)
  refine ⟨_,_, .slice h.next 0 len cap,ns,x2,x1,⟨Nat.le_succ _,fun j hj => new_ne _ _ (by omega)⟩,by simp [AV.den,Ren.add_same],⟨?_,fun K o n e => ?_⟩,trivial⟩
  ·have hn : ns.length = len := by omega
   by_cases h0 : ns = []
   ·subst h0
    exact .inl ⟨rfl, .inr (.inl ⟨h.next,0,cap,by rw [<- hn]; rfl⟩)⟩
   ·refine .inr ⟨h.next,0,cap,cs,0,true,h0,by rw [hn],Nat.lt_succ_self _,new_same .., ?_⟩
    rw [g2]
    exact cut_all (by rw [B_len]; simp)
  ·simp only [AV.slice.injEq] at e
   omega
theorem jlasts_row (d : Nat) (h : Heap) (a0 : AV) (x0 : Nat × Nat × Nat × Nat) (P0 : PuI h a0 x0) (O0 : True) (a1 : AV) (x1 : Nat) (P1 : U8I h a1 x1) (O1 : True) (a2 : AV) (x2 : List Nat) (P2 : PickK h a2 x2) (O2 : True) : ∃ x h',callD env (d + 16) 5 [a0,a1,a2] h = some (x,h') /\ x = .bool true := by
 unfold PuI at P0
 unfold U8I at P1
 subst P0 P1
 exact jlasts_ok d h x0.1 x0.2.1 x0.2.2.1 x0.2.2.2 x1 a2 x2 P2
end Go.Proofs.Ytlnepbkeiianmaa
