/- sync.Once within the interpreter. No program. No condition but those in the theorems. -/
import Derived.Test.YtlnepbkeiianmaaAiM5
namespace Go.Ai
open Go
set_option linter.unusedSimpArgs false
variable {P : Program}
def onceG (call : CallK) (args : List AV) (h : Heap) : Option (AV × Heap) := match args with
 | [.ptr k off, .func (.func F) first cap] => h.getK k none fun b => (match b with
  | .cells cs _ _ => lget cs off none fun d => (match d with
   | .int .u32 d => (match ieq d 0 with
    | false => some (.tup [],h)
    | true => lget cs (off + 1) none fun s => (match s with
     | .int .i32 s => (match ieq s 0 with
      | true => storeCK h k (off + 1) [.int .i32 1] fun h1 => (match call F (first ++ cap) h1 with
       | some (_,h2) => h2.getK k none fun b2 => (match b2 with
        | .cells cs2 _ false => lget cs2 off none fun _ => lget cs2 (off + 1) none fun s2 => (match s2 with
         | .int .i32 s2 => (match ieq s2 1 with
          | true => storeCK h2 k off [.int .u32 1] fun h3 => storeCK h3 k (off + 1) [.int .i32 0] fun h4 => some (.tup [],h4)
          | false => none)
         | _ => none)
        | _ => none)
       | none => none)
      | false => none)
     | _ => none))
   | _ => none)
  | _ => none)
 | _ => none
structure OnceOk (P : Program) (f : FuncId) : Prop where
 enter : ∀ xs w,(callFunc f xs).run P w = .ok (.enter f xs) w
 done : ∀ (a : Addr) (d : Int),¬ d = 0 -> ∀ (fv : Value) (w : World),w.cell? a = some (.int .u32 d) -> Calls P f #[.pointer (some a),fv] w fun e w' => e = .returned (.tuple #[]) /\ w' = w
 first : ∀ (b off F : Nat) (first cap : Array Value) (R : Value -> World -> Prop) (w : World),w.cell? ⟨b,off,none⟩ = some (.int .u32 0) -> w.cell? ⟨b,off + 1,none⟩ = some (.int .i32 0) -> w.frozen? ⟨b,off + 1,none⟩ = false ->
  (∀ (o : Oper) (a : Act) (next : Act -> World -> Prop) (Q : Exit -> Act -> World -> Prop),(∀ z w',R z w' -> next (a.put o.dst z) w') -> o.upon P a next Q ((callFunc F (first ++ cap)).run P (w.setCell ⟨b,off + 1,none⟩ (.int .i32 1)))) ->
  (∀ z w',R z w' -> (∃ x,w'.cell? ⟨b,off,none⟩ = some x) /\ w'.cell? ⟨b,off + 1,none⟩ = some (.int .i32 1) /\ w'.frozen? ⟨b,off,none⟩ = false /\ w'.frozen? ⟨b,off + 1,none⟩ = false) ->
  Calls P f #[.pointer (some ⟨b,off,none⟩), .func (.func F) first cap] w fun e w' => e = .returned (.tuple #[]) /\
   ∃ z w₁,R z w₁ /\ w' = (w₁.drew.setCell ⟨b,off,none⟩ (.int .u32 1)).setCell ⟨b,off + 1,none⟩ (.int .i32 0)
noncomputable def Env.once (P : Program) (L f0 : Nat) : Env := { P := P,ora := fun f => match Nat.beq f f0 with | true => some onceG | false => none,L := L }
end Go.Ai
