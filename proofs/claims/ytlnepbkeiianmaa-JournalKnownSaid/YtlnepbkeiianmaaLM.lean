/- Of this program, for all inputs: contracts. No condition but those in the theorems. -/
import Derived.Test.YtlnepbkeiianmaaLL
namespace Go.Proofs.Ytlnepbkeiianmaa
open Go Go.Ai Go.Aw Go.Proofs
open Nat renaming reduceBEq -> uB,reduceEqDiff -> uE,reduceLT -> uL,reduceAdd -> uA,reduceMul -> uM,reduceSub -> uS,reduceAnd -> uN,reduceXor -> uX,reduceOr -> uO
open Int renaming reduceMod -> vR,reduceDiv -> vD,reduceLT -> vL,reduceLE -> vK,reduceEq -> vE,reduceAdd -> vA,reduceMul -> vM,reduceToNat -> vT,reduceSub -> vS
set_option linter.unusedSimpArgs false
set_option linter.unusedVariables false
set_option maxRecDepth 10000
def puC (a b c d : Nat) : List AV := [b8 a,b8 b,b8 c,b8 d]
structure WJ (hh : Heap) (C : Col) (g : List (Nat × Blk)) (βa cpa : Nat) (psa : List Nat) (ba : BS) (Da : Img) (βb cpb : Nat) (psb : List Nat) (bb : BS) (Db : Img) (N : Nat) : Prop where
 g : Lc hh C g
 a : HB hh C 100 βa cpa psa ba 54 (c4 Da)
 sa : ba.steps = []
 la : ba.log.length <= N
 b : HB hh C 200 βb cpb psb bb 54 (c4 Db)
 sb : bb.steps = []
 lb : bb.log.length <= N
 ua : Uq Da
 ub : Uq Db
theorem WJ.kp {hh h' : Heap} {C C' : Col} {g : List (Nat × Blk)} {βa cpa : Nat} {psa : List Nat} {ba : BS} {Da : Img} {βb cpb : Nat} {psb : List Nat} {bb : BS} {Db : Img} {N : Nat} (W : WJ hh C g βa cpa psa ba Da βb cpb psb bb Db N) (k : Keeps hh h') (e : ∀ j,j < hh.next -> C' j = C j) : WJ h' C' g βa cpa psa ba Da βb cpb psb bb Db N :=
 ⟨W.g.kp k e,W.a.keep k.1 (fun j hj _ _ => k.2 j hj) e,W.sa,W.la,W.b.keep k.1 (fun j hj _ _ => k.2 j hj) e,W.sb,W.lb,W.ua,W.ub⟩
theorem WJ.mono {hh : Heap} {C : Col} {g : List (Nat × Blk)} {βa cpa : Nat} {psa : List Nat} {ba : BS} {Da : Img} {βb cpb : Nat} {psb : List Nat} {bb : BS} {Db : Img} {N N' : Nat} (W : WJ hh C g βa cpa psa ba Da βb cpb psb bb Db N) (h : N <= N') : WJ hh C g βa cpa psa ba Da βb cpb psb bb Db N' :=
 ⟨W.g,W.a,W.sa,Nat.le_trans W.la h,W.b,W.sb,Nat.le_trans W.lb h,W.ua,W.ub⟩
end Go.Proofs.Ytlnepbkeiianmaa
