/- 'Rows.XtsHalvesSaid': 'casematelaw08.XtsHalves' returns true at every argument, whatever the world; it lays new blocks alone. No condition. (The frame began as proof-skeleton.mjs wrote it.) -/
import Derived.Test.YthcbefolifpbpaaRows
import Derived.Test.YthcbefolifpbpaaD1
import Derived.Test.YthcbefolifpbpaaAwArgs
import Derived.WalkKit
import Derived.ProofKit
import Derived.OpenShut
namespace Go.Proofs.Ythcbefolifpbpaa.xtsHalves
open Go.ChangeShapes Go.WideShapes Go.ChangeAt Go.RowKit
set_option linter.unusedVariables false

theorem own : ownKnob Try.prog.godebug = none := by kernel_rfl
theorem laid : laidOutB Try.prog = true := by kernel_rfl
theorem cells24 : Try.prog.cellTypes Try.prog.depth 24 = some (List.replicate 16 5) := by kernel_rfl
theorem byte24 : ∀ u ∈ List.replicate 16 5, Try.prog.underlying u = some (.int .u8) := by
  intro u hu
  obtain rfl := List.eq_of_mem_replicate hu
  exact Try.underlying5

theorem walk (v0 : Value) (v1 : Value) (l0 : List Nat) (hl0 : l0.length = 16) (hb0 : ∀ i, l0.getD i 0 < 256) (hd0 : ∀ ρ : Go.Ai.Ren, (Go.Ai.AV.agg (Go.Aw.B l0)).den ρ = some v0) (l1 : List Nat) (hl1 : l1.length = 16) (hb1 : ∀ i, l1.getD i 0 < 256) (hd1 : ∀ ρ : Go.Ai.Ren, (Go.Ai.AV.agg (Go.Aw.B l1)).den ρ = some v1) (w : World) : Calls Try.prog 9 #[v0, v1] w fun e w' => e = .returned (.bool true) ∧ Below w.heap.size w w' := by
  obtain ⟨x, h', e, rfl⟩ := xtsHalves_ok 0 ⟨0, .leaf⟩ l0 hl0 hb0 l1 hl1 hb1
  exact Go.Aw.calls_of env_ok (d := 7) (avs := [.agg (Go.Aw.B l0), .agg (Go.Aw.B l1)]) (xs := [v0, v1]) rfl Try.func9 (by kernel_rfl) (by simp [Go.Ai.denL, hd0, hd1]) e w

set_option maxRecDepth 100000 in
theorem lifted (os : Os) (started : os.Started) (H : Type) (enc : TypeId × Value → H) :
    ReturnsInHanded {} Try.checked os 9 .any (Rows.xtsHalvesSpec.pre6 enc Try.prog Try.f9 Rows.xtsHalvesRow.domain false) (Rows.xtsHalvesSpec.post enc Try.prog Try.f9 false true false false) := by
  refine returnsInHanded_of_change (C := Try.checked) own started (by kernel_rfl) Try.func9
    (ChangeSpec.witness6 (enc := enc) (C := Try.checked) false ⟨#[], #[.agg (Array.replicate 16 (.int .u8 0)), .agg (Array.replicate 16 (.int .u8 0))], []⟩ 9 (by kernel_rfl) (by kernel_rfl) (by kernel_rfl) (by kernel_rfl)) ?_
  intro W base args ds gs before hval0 hW hcnd _
  have hval : ∀ (j : Nat) t v, Try.f9.params[j]? = some t → args[j]? = some v → Value.okWide Try.prog W .any base t v := hval0
  have hW' := hW
  obtain ⟨p, q, hA0, hV, rfl, hfz, hnd⟩ := hW
  have hA : DataW.TrodAll enc Try.prog W 0 (fun _ => true) true Try.f9.params.toList args.toList ds p := hA0
  rw [Try.params9] at hA hval
  obtain ⟨v0, v1, d0, d1, p0, p1, rfl, rfl, rfl, hT0, hT1⟩ := trodAll_two hA
  obtain ⟨rfl, rfl⟩ := trodVars_none hV
  clear hA0 hval0
  simp only [List.append_nil] at hW'
  obtain ⟨l0, hl0, hb0, hd0⟩ := Go.Aw.bytes_of Try.underlying24 (by kernel_rfl) cells24 byte24 (hval 0 24 v0 rfl rfl)
  obtain ⟨l1, hl1, hb1, hd1⟩ := Go.Aw.bytes_of Try.underlying24 (by kernel_rfl) cells24 byte24 (hval 1 24 v1 rfl rfl)
  have hlt : ∀ x ∈ p0 ++ p1, x.block < W.heap.size := fun x hx => by simpa using hW'.lt x hx
  refine (walk v0 v1 l0 hl0 hb0 hd0 l1 hl1 hb1 hd1 W).mono fun e W' ⟨he, hg⟩ => ?_
  subst he
  exact ⟨_, rfl, post_of_below (pa := p0 ++ p1) (pv := []) hW' (fun _ _ _ => (trodAll_cons_mk (shut_bool Try.underlying4 _) trodAll_mk0))
    (fun sp hsp => trodAll_mk2 (WideElems.Trod_stays laid (by kernel_rfl) (of_decide_eq_true (by kernel_rfl)) hT0 (fun x hx => hg.same (hlt x (by simp [hx]))) (fun x hx => hsp x (by simp [hx]))) (WideElems.Trod_stays laid (by kernel_rfl) (of_decide_eq_true (by kernel_rfl)) hT1 (fun x hx => hg.same (hlt x (by simp [hx]))) (fun x hx => hsp x (by simp [hx])))) (fun _ _ => rfl) (by simp)
    hg (ok_one (by kernel_rfl) rfl (okWide_bool_mk Try.underlying4 _))⟩

theorem over : Rows.xtsHalvesRow.holds Try.pinned (OpenSpec.ofChange Rows.xtsHalvesSpec) :=
  OpenClaim.holds_of_wide 9 Try.f9 rfl rfl rfl rfl rfl rfl rfl ⟨rfl, rfl, rfl, rfl, rfl⟩ rfl rfl rfl rfl rfl (by kernel_rfl) Try.func9 (by kernel_rfl)
    (of_decide_eq_true (by kernel_rfl)) (by unfold Func.isWrapper; first | (rw [if_pos (by decide +kernel)]; kernel_rfl) | (rw [if_neg (by decide +kernel)]; exact ⟨rfl, rfl⟩))
    (fun os started H enc _ => lifted os started H enc)

theorem proved : Rows.XtsHalvesSaid :=
  over
#print axioms proved
end Go.Proofs.Ythcbefolifpbpaa.xtsHalves
