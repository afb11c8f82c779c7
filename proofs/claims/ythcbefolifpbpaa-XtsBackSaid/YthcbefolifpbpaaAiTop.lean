import Derived.Test.YthcbefolifpbpaaAiDraw5
import Derived.ProofKit
import Derived.ChangeSame
import Derived.Below
import Derived.KernelRfl
import GoSem.Extern.Table
namespace Go.Ai
open Go Go.RowKit
set_option linter.unusedSimpArgs false

theorem hrel_nil (w : World) : HRel (fun _ => none) ⟨0, .leaf⟩ w := by
  refine ⟨fun k b h => ?_, fun _ _ => rfl, fun k j b c l m h => ?_⟩
  · simp [Heap.get, get_leaf] at h
  · simp [Heap.get, get_leaf] at h
theorem own_nil {b : Nat} : ¬ Own (fun _ => none) ⟨0, .leaf⟩ b := by
  rintro ⟨k, blk, l, h, _⟩
  simp [Heap.get, get_leaf] at h
/-- what a run without arguments comes to, in every world -/
theorem calls_run {E : Env} (ok : E.Ok) {d : Nat} {f : FuncId} {fn : Func} {c : Code} (ho : E.ora f = none) (hf : E.P.funcs.toList[f]? = some fn) (hb : fn.body = some c) {v : AV} {h' : Heap}
    (hk : run E (d + 1) f = some (v, h')) (w : World) : Calls E.P f #[] w fun e w' => ∃ ρ' z, e = .returned z ∧ v.den ρ' = some z ∧ HRel ρ' h' w' ∧ Below w.heap.size w w' := by
  have := callD_body ok (callD_ok ok d) ho hf hb [] ⟨0, .leaf⟩ v h' hk (fun _ => none) w [] (denL_nil _) (hrel_nil w)
  refine this.mono ?_
  rintro e w' ⟨ρ', z, he, hz, hs⟩
  exact ⟨ρ', z, he, hz, hs.rel, hs.os, hs.tape, hs.output, hs.size, fun k hk => hs.frm k hk own_nil⟩
theorem names_ok {P : Program} (h : (P.funcs.toList.all fun fn => !(fn.name == "runtime.NumGoroutine")) = true) : ∀ fn ∈ P.funcs.toList, fn.name ≠ "runtime.NumGoroutine" := by
  intro fn hf
  have := List.all_eq_true.1 h fn hf
  simpa using this
theorem lookN1 : Extern.allNextRows.lookup "maps.clone" = none := by kernel_rfl
theorem lookN0 : Extern.allNextRows.lookup "" = none := by kernel_rfl
theorem lookG1 : Extern.allGenericRows.lookup "maps.clone" = none := by kernel_rfl
theorem lookT1 : Extern.allTypedRows.lookup "maps.clone" = none := by kernel_rfl
theorem lookR1 : Extern.allRows.lookup "maps.clone" = some Extern.MapsClone.clone := by kernel_rfl
theorem clone_ok {P : Program} (h : (P.funcs.toList.all fun fn => !(fn.name == "maps.clone") || fn.origin == "") = true) : ∀ fn ∈ P.funcs.toList, fn.name = "maps.clone" → fn.body = none → Extern.findNext fn = none ∧ Extern.find fn = some Extern.MapsClone.clone := by
  intro fn hf hn _
  have := List.all_eq_true.1 h fn hf
  have ho : fn.origin = "" := by simpa [hn] using this
  unfold Extern.findNext Extern.find
  simp only [hn, ho, lookN1, lookN0, lookG1, lookT1, lookR1]
  exact ⟨rfl, rfl⟩
/-- a program as it is, nothing taken by a law of its own -/
noncomputable def Env.of (P : Program) (L : Nat) : Env := { P := P, ora := fun _ => none, L := L }
theorem Env.of_ok {P : Program} {L : Nat} (hm : P.follows .mixedOrders = true) (h1 : (P.funcs.toList.all fun fn => !(fn.name == "runtime.NumGoroutine")) = true)
    (h2 : (P.funcs.toList.all fun fn => !(fn.name == "maps.clone") || fn.origin == "") = true) : (Env.of P L).Ok :=
  ⟨regionOk hm, names_ok h1, clone_ok h2, fun f g h => by cases h⟩
def isTrue : Option (AV × Heap) → Bool
  | some (.bool true, _) => true
  | _ => false
theorem calls_true {E : Env} (ok : E.Ok) {d : Nat} {f : FuncId} {fn : Func} (ho : E.ora f = none) (hf : E.P.funcs[f]? = some fn) (hb : fn.body.isSome = true)
    (hk : isTrue (run E (d + 1) f) = true) (w : World) : Calls E.P f #[] w fun e w' => e = .returned (.bool true) ∧ Below w.heap.size w w' := by
  unfold isTrue at hk
  obtain ⟨c, hb⟩ := Option.isSome_iff_exists.1 hb
  have hf : E.P.funcs.toList[f]? = some fn := by simpa using hf
  split at hk
  · rename_i h' he
    refine (calls_run ok ho hf hb he w).mono ?_
    rintro e w' ⟨ρ', z, rfl, hz, _, hs⟩
    simp only [AV.den, Option.some.injEq] at hz
    subst hz
    exact ⟨rfl, hs⟩
  · cases hk
end Go.Ai
namespace Go.RowKit
/-- the row's step where the call lays new blocks alone -/
theorem post_of_below {P : Program} {H : Type} {enc : TypeId × Value → H} {f : Func} {s : ChangeSpec} {apart fresh handsOn again : Bool} {W W' : World} {args : Array Value} {v : Value} {ds gs : List (DataW H)} {before pa pv : List MemPlace}
    (hW : DataW.Whole enc P f.params.toList s.vars apart W args.toList ds gs before)
    (hres : ∀ (b : Nat) (sp : Nat → Bool) (hd : Bool), DataW.TrodAll enc P W' b sp hd f.resultTypes.toList (v.resultList f.resultTypes.size) (s.fn H (ds ++ gs)).results [])
    (hargs : ∀ sp : Nat → Bool, (∀ p ∈ before, sp p.block = true) → DataW.TrodAll enc P W' 0 sp true f.params.toList args.toList (s.fn H (ds ++ gs)).args pa)
    (hvars : ∀ sp : Nat → Bool, (∀ p ∈ before, sp p.block = true) → DataW.TrodVars enc P W' sp s.vars (s.fn H (ds ++ gs)).vars pv)
    (hps : before = pa ++ pv) (hB : Below W.heap.size W W')
    (hok : ∀ (j : Nat) (t : TypeId) (r : Value), f.resultTypes[j]? = some t → (v.resultList f.resultTypes.size)[j]? = some r → Value.okWide P W' .any 0 t r) :
    s.post enc P f apart fresh handsOn again W args v W' := by
  have hold : ∀ p ∈ before, (fun b => decide (b < W.heap.size)) p.block = true := fun p hp => by simpa using hW.lt p hp
  have hlt := hW.lt
  refine ⟨ds, gs, before, [], pa, pv, hW, hres _ _ _, hargs _ hold, hvars _ hold, World.keptBut_mono (fun p hp => ⟨hp, ?_⟩) (hB.frame (· ∈ before)), fun _ => ?_⟩
  · rw [hps, List.mem_append] at hp
    exact Or.inr hp
  · obtain ⟨_, _, _, _, _, hz, hn⟩ := hW
    refine ⟨hok, _, _, ([] ++ pa) ++ pv, ⟨[] ++ pa, pv, ChangeShapes.trodAll_append (hargs _ (fun _ _ => rfl)) (hres _ _ _), hvars _ (fun _ _ => rfl), rfl, ?_, ?_⟩, ?_⟩
    · intro b off hp
      have hp' : MemPlace.cell b off ∈ before := by rw [hps]; simpa using hp
      rw [hB.frozen (hlt _ hp')]
      exact hz b off hp'
    · intro ha
      have := hn ha
      rw [hps] at this
      simpa using this
    · intro p hp _
      rw [hps]
      simpa using hp
end Go.RowKit
