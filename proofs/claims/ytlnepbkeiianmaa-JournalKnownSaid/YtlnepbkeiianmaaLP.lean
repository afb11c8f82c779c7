/- Of this program, for all inputs: contracts. No condition but those in the theorems. -/
import Derived.Test.YtlnepbkeiianmaaLN
namespace Go.Proofs.Ytlnepbkeiianmaa
open Go Go.Ai Go.Aw Go.Proofs
open Nat renaming reduceBEq -> uB,reduceEqDiff -> uE,reduceLT -> uL,reduceAdd -> uA,reduceMul -> uM,reduceSub -> uS,reduceAnd -> uN,reduceXor -> uX,reduceOr -> uO
open Int renaming reduceMod -> vR,reduceDiv -> vD,reduceLT -> vL,reduceLE -> vK,reduceEq -> vE,reduceAdd -> vA,reduceMul -> vM,reduceToNat -> vT,reduceSub -> vS
set_option linter.unusedSimpArgs false
set_option linter.unusedVariables false
set_option maxRecDepth 10000
theorem StK.one {h : Heap} {K : Nat} {s : Stp} (hK : K < h.next) (hg : h.get K = some (.cells (s.C .nilslice) 70 false)) (hp : s.picks = []) : StK h (.eslice K 0 0 1) [s] [.nilslice] :=
 ⟨rfl,same_eslice ..,len_eslice Try.underlying49 ..,rfl,fun i s' hs => by
  match i,hs with
  | 0,hs =>
   cases hs
   refine ⟨K,[],70,false, .nilslice,hK,rfl,by rw [hg]; simp [stpsC], ?_, .inl ⟨hp, .inl rfl⟩,fun K o n e => by cases e⟩
   rw [ia_eslice Try.underlying49 (show szE Try.prog 64 = some 70 by kernel_rfl)]
   rfl⟩
structure WL (hB : Heap) (CB_ : Col) (hh : Heap) (C : Col) (β cp : Nat) (ps : List Nat) (b : BS) (l : List (Img × Bool × Bool)) : Prop where
 r1 : hB.next <= hh.next
 r2 : ∀ j,j < hB.next -> CB_ j = 0 -> hh.get j = hB.get j
 r3 : ∀ j,j < hB.next -> C j = CB_ j
 B : HB hh C 100 β cp ps b 54 l
theorem WL.kp {hB hh h' : Heap} {CB_ C C' : Col} {β cp : Nat} {ps : List Nat} {b : BS} {l : List (Img × Bool × Bool)} (W : WL hB CB_ hh C β cp ps b l) (k : Keeps hh h') (e : ∀ j,j < hh.next -> C' j = C j) : WL hB CB_ h' C' β cp ps b l :=
 ⟨Nat.le_trans W.r1 k.1,fun j hj hc => (k.2 j (Nat.lt_of_lt_of_le hj W.r1)).trans (W.r2 j hj hc),fun j hj => (e j (Nat.lt_of_lt_of_le hj W.r1)).trans (W.r3 j hj),W.B.keep k.1 (fun j hj _ _ => k.2 j hj) e⟩
theorem WL.do_ {hB hh h' : Heap} {CB_ C C' : Col} {β cp : Nat} {ps : List Nat} {b b' : BS} {l l' : List (Img × Bool × Bool)} (W : WL hB CB_ hh C β cp ps b l) (B : HB h' C' 100 β cp ps b' 54 l') (fr : Fr (busK 100) C hh h') (e : ∀ j,j < hh.next -> C' j = C j) : WL hB CB_ h' C' β cp ps b' l' :=
 ⟨Nat.le_trans W.r1 fr.le,fun j hj hc => (fr.get j (Nat.lt_of_lt_of_le hj W.r1) (by rw [W.r3 j hj,hc]; exact busK_0 (by omega))).trans (W.r2 j hj hc),fun j hj => (e j (Nat.lt_of_lt_of_le hj W.r1)).trans (W.r3 j hj),B⟩
theorem WL.at {hB hh : Heap} {CB_ C : Col} {β cp : Nat} {ps : List Nat} {b : BS} {l : List (Img × Bool × Bool)} (W : WL hB CB_ hh C β cp ps b l) {g : List (Nat × Blk)} (L : Lc hB CB_ g) {k : Nat} {x : Blk} (m : (k,x) ∈ g) : hh.get k = some x := by
 obtain ⟨h1,h2,h3⟩ := L _ m
 exact (W.r2 k h1 h2).trans h3
theorem WL.lc {hB hh : Heap} {CB_ C : Col} {β cp : Nat} {ps : List Nat} {b : BS} {l : List (Img × Bool × Bool)} (W : WL hB CB_ hh C β cp ps b l) {g : List (Nat × Blk)} (L : Lc hB CB_ g) : Lc hh C g := fun q hq => by
 obtain ⟨h1,h2,h3⟩ := L _ hq
 exact ⟨Nat.lt_of_lt_of_le h1 W.r1,(W.r3 _ h1).trans h2,(W.r2 _ h1 h2).trans h3⟩
theorem WL.by_ {hB hh : Heap} {CB_ C : Col} {β cp : Nat} {ps : List Nat} {b : BS} {l : List (Img × Bool × Bool)} (W : WL hB CB_ hh C β cp ps b l) {v : AV} {x : List Nat} (y : ByR hB v x) (c : ∀ K,blkA v = some K -> CB_ K = 0) : ByR hh v x /\ ∀ K,blkA v = some K -> C K = 0 :=
 ⟨y.keep W.r1 fun j hj e => W.r2 j hj (c j e),fun K e => (W.r3 K (y.lt e)).trans (c K e)⟩
theorem ioC_le (k : Nat) : ∀ l : List (Img × Bool × Bool),ioC k l <= l.length * (k + 1)
 | [] => Nat.zero_le _
 | x :: r => by
  rw [ioC_cons,List.length_cons,Nat.succ_mul]
  have := ioC_le k r
  split <;> omega
theorem Put1.set {H f m : Nat} {L0 L1 : List (List Nat)} {l : List (Img × Bool × Bool)} (x : Put1 H f L0 L1 l) {D : Img} {y : Bool × Bool} (hm : l[m]? = some (D,y)) (z : Bool × Bool) : Put1 H f L0 L1 (l.set m (D,z)) := by
 refine ⟨by rw [List.length_set]; exact x.1,fun j w hw => ?_⟩
 rw [List.getElem?_set] at hw
 split at hw
 ·rename_i e
  subst e
  split at hw
  ·cases hw
   have q := x.2 m _ hm
   exact q
  ·cases hw
 ·exact x.2 j _ hw
end Go.Proofs.Ytlnepbkeiianmaa
