/- Of this program, for all inputs: contracts. No condition but those in the theorems. -/
import Derived.Test.YtlnepbkeiianmaaAiM5
namespace Go.Ai
open Go
set_option linter.unusedSimpArgs false
set_option linter.unusedVariables false
variable {P : Program}
/-! functions whose answers at some arguments are known: what they make is forgotten -/
def plainA : AV -> Bool
 | .bool _ => true
 | .int _ _ => true
 | .str _ => true
 | _ => false
def plainV : AV -> Bool
 | .agg cs => cs.all plainA
 | v => plainA v
def plainW : AV -> Bool
 | .tup vs => vs.all plainV
 | v => plainV v
theorem denL_det {ρ ρ' : Ren} (e : Ext ρ ρ') {vs : List AV} {x y : List Value} (h : denL ρ vs = some x) (g : denL ρ' vs = some y) : x = y := by
 rw [denL_mono e _ _ h] at g; cases g; rfl
theorem MRel.det {ρ ρ' : Ren} (e : Ext ρ ρ') : ∀ {es : List (AV × AV)} {L L' : List MapEntry},MRel ρ es L -> MRel ρ' es L' -> MRel ρ es L'
 | [],[],[],_,_ => trivial
 | (k,v) :: es,a :: L,b :: L',⟨h1,h2,h3⟩,⟨g1,g2,g3⟩ => by
  refine ⟨?_, ?_,MRel.det e h3 g3⟩
  ·rw [den_mono e _ _ h1] at g1; exact h1.trans g1
  ·rw [den_mono e _ _ h2] at g2; exact h2.trans g2
 | [],[],_ :: _,_,h => h.elim
 | [],_ :: _,_,h,_ => h.elim
 | _ :: _,[],_,h,_ => h.elim
 | _ :: _,_ :: _,[],_,h => h.elim
theorem BlkRel.back {ρ ρ' : Ren} (e : Ext ρ ρ') {w w' : World} {l : Loc} {b : Blk} (h : BlkRel ρ w l b) (g : BlkRel ρ' w' l b) : BlkRel ρ w' l b := by
 cases b with
 | cells cs ext ro =>
  obtain ⟨C,T,fz,xs,h1,h2,h3,h4,h5⟩ := h
  obtain ⟨C',T',fz',xs',g1,g2,g3,g4,g5⟩ := g
  have := denL_det e h2 g2
  subst this
  exact ⟨C',T',fz',xs,g1,h2,g3,g4,g5⟩
 | map es ro =>
  obtain ⟨E,c,h1,h2⟩ := h
  obtain ⟨E',c',g1,g2⟩ := g
  exact ⟨E',c',g1,h2.det e g2⟩
def memo (tbl : List AV -> Option AV) : CallK -> List AV -> Heap -> Option (AV × Heap) := fun _ args h => match tbl args with
 | some v => some (v,h)
 | none => none
noncomputable def Env.memo1 (E : Env) (f1 : Nat) (t1 : List AV -> Option AV) : Env := { P := E.P,ora := fun f => match Nat.beq f f1 with | true => some (memo t1) | false => E.ora f,L := E.L }
end Go.Ai
