/- Of this program, for all inputs: contracts. No condition but those in the theorems. -/
import Derived.Test.YtfjcfjfgamajkaaAiM5
namespace Go.Ai
open Go
set_option linter.unusedSimpArgs false
set_option linter.unusedVariables false
variable {P : Program}
/-! functions whose answers at some arguments are known: what they make is forgotten -/
def plainA : AV -> Bool
 | .bool _ => true
 | .int _ _ => true
 | .str _ => true
 | _ => false
def plainV : AV -> Bool
 | .agg cs => cs.all plainA
 | v => plainA v
theorem plainA_den {v : AV} (h : plainA v = true) (ρ ρ' : Ren) : v.den ρ = v.den ρ' := by
 cases v <;> first | rfl | cases h
theorem plainL_den {cs : List AV} (h : cs.all plainA = true) (ρ ρ' : Ren) : denL ρ cs = denL ρ' cs := by
 induction cs with
 | nil => rfl
 | cons v cs ih =>
  simp only [List.all_cons,Bool.and_eq_true] at h
  rw [denL,denL,plainA_den h.1 ρ ρ',ih h.2]
theorem plainV_den {v : AV} (h : plainV v = true) (ρ ρ' : Ren) : v.den ρ = v.den ρ' := by
 cases v
 case agg cs => rw [AV.den,AV.den,plainL_den h ρ ρ']
 all_goals first | rfl | (simp [plainV,plainA] at h)
def plainW : AV -> Bool
 | .tup vs => vs.all plainV
 | v => plainV v
theorem plainVs_den {cs : List AV} (h : cs.all plainV = true) (ρ ρ' : Ren) : denL ρ cs = denL ρ' cs := by
 induction cs with
 | nil => rfl
 | cons v cs ih =>
  simp only [List.all_cons,Bool.and_eq_true] at h
  rw [denL,denL,plainV_den h.1 ρ ρ',ih h.2]
theorem plainW_den {v : AV} (h : plainW v = true) (ρ ρ' : Ren) : v.den ρ = v.den ρ' := by
 cases v
 case tup cs => rw [AV.den,AV.den,plainVs_den h ρ ρ']
 case agg cs => exact plainV_den (v := .agg cs) (by simpa [plainW] using h) ρ ρ'
 all_goals first | rfl | (simp [plainW,plainV,plainA] at h)
def memo (tbl : List AV -> Option AV) : CallK -> List AV -> Heap -> Option (AV × Heap) := fun _ args h => match tbl args with
 | some v => some (v,h)
 | none => none
noncomputable def Env.memo1 (E : Env) (f1 : Nat) (t1 : List AV -> Option AV) : Env := { P := E.P,ora := fun f => match Nat.beq f f1 with | true => some (memo t1) | false => E.ora f,L := E.L }
theorem memo_call {E : Env} {f : Nat} {t : List AV -> Option AV} (hf : E.ora f = some (memo t)) {args : List AV} {v : AV} (ht : t args = some v) (d : Nat) (h : Heap) : callD E (d + 1) f args h = some (v,h) := by
 simp only [callD,hf,memo,ht]
end Go.Ai
