/- 'Rows.BusPlaysSaid': 'casematelaw13.BusPlays' returns true at every argument, whatever the world; it lays new blocks alone. No condition. (The frame began as proof-skeleton.mjs wrote it.) -/
import Derived.Test.YtfjcfjfgamajkaaRows
import Derived.Test.YtfjcfjfgamajkaaZZ6
import Derived.Test.YtfjcfjfgamajkaaAwA
import Derived.WalkKit
import Derived.ProofKit
import Derived.OpenShut
import Derived.SizedLaws
namespace Go.Proofs.Ytfjcfjfgamajkaa.busPlays
open Go.ChangeShapes Go.WideShapes Go.ChangeAt Go.RowKit
set_option linter.unusedVariables false

theorem own : ownKnob Try.prog.godebug = none := by kernel_rfl
theorem laid : laidOutB Try.prog = true := by kernel_rfl

set_option maxRecDepth 100000 in
theorem lifted (os : Os) (started : os.Started) (H : Type) (enc : TypeId × Value → H) :
    ReturnsInHanded {} Try.checked os 9 .any (Rows.busPlaysSpec.pre6 enc Try.prog Try.f9 Rows.busPlaysRow.domain false) (Rows.busPlaysSpec.post enc Try.prog Try.f9 false true false false) := by
  refine returnsInHanded_of_change_sized (C := Try.checked) own started (by kernel_rfl) Try.func9
    (ChangeSpec.witness6 (enc := enc) (C := Try.checked) false ⟨#[], #[.agg (#[.slice none 0 0, .int .u64 0] ++ Array.replicate 32 (.int .u8 0) ++ #[.slice none 0 0]), .slice none 0 0], []⟩ 9 (by kernel_rfl) (by kernel_rfl) (by kernel_rfl) (by kernel_rfl)) ?_
  intro W base args ds gs before hval0 hW hcnd hsz _
  have hval : ∀ (j : Nat) t v, Try.f9.params[j]? = some t → args[j]? = some v → Value.okWide Try.prog W .any base t v := hval0
  have hW' := hW
  obtain ⟨p, q, hA0, hV, rfl, hfz, hnd⟩ := hW
  have hA : DataW.TrodAll enc Try.prog W 0 (fun _ => true) true Try.f9.params.toList args.toList ds p := hA0
  rw [Try.params9] at hA hval hsz
  obtain ⟨v0, v1, d0, d1, p0, p1, rfl, rfl, rfl, hT0, hT1⟩ := trodAll_two hA
  obtain ⟨rfl, rfl⟩ := trodVars_none hV
  clear hA0 hval0
  simp only [List.append_nil] at hW'
  have r0 := Go.Aw.RO.nil W
  obtain ⟨ρ1, h1, a0, x0, e0, r1, k0, d0', P0, O0⟩ := case_arg r0 (hval 0 89 v0 rfl rfl) hT0 (fun q hq => of_decide_eq_true (List.all_eq_true.1 hsz q (DataW.weights_mem_each (j := 0) (t := 89) rfl rfl q hq)))
  obtain ⟨ρ2, h2, a1, x1, e1, r2, k1, d1', P1, O1⟩ := acts_arg r1 (hval 1 48 v1 rfl rfl) hT1
  replace d0' := Go.Ai.den_mono e1 _ _ d0'
  replace P0 := P0.keep k1
  have hlt : ∀ x ∈ p0 ++ p1, x.block < W.heap.size := fun x hx => by simpa using hW'.lt x hx
  have walk : Calls Try.prog 9 #[v0, v1] W fun e w' => e = .returned (.bool true) ∧ Below W.heap.size W w' := by
    obtain ⟨x, h', e, rfl⟩ := busPlays_row 0 h2 a0 x0 P0 O0 a1 x1 P1 O1
    exact Go.Aw.calls_of_at env_ok (d := 12) rfl Try.func9 (by kernel_rfl) r2.rel r2.own (avs := [a0, a1]) (xs := [v0, v1]) (Go.Ai.denL_cons.2 ⟨_, _, d0', Go.Ai.denL_cons.2 ⟨_, _, d1', Go.Ai.denL_nil _, rfl⟩, rfl⟩) e
  refine walk.mono fun e W' ⟨he, hg⟩ => ?_
  subst he
  exact ⟨_, rfl, post_of_below (pa := p0 ++ p1) (pv := []) hW' (fun _ _ _ => (trodAll_cons_mk (shut_bool Try.underlying4 _) trodAll_mk0))
    (fun sp hsp => trodAll_mk2 (WideElems.Trod_stays laid (by kernel_rfl) (of_decide_eq_true (by kernel_rfl)) hT0 (fun x hx => hg.same (hlt x (by simp [hx]))) (fun x hx => hsp x (by simp [hx]))) (WideElems.Trod_stays laid (by kernel_rfl) (of_decide_eq_true (by kernel_rfl)) hT1 (fun x hx => hg.same (hlt x (by simp [hx]))) (fun x hx => hsp x (by simp [hx])))) (fun _ _ => rfl) (by simp)
    hg (ok_one (by kernel_rfl) rfl (okWide_bool_mk Try.underlying4 _))⟩

theorem over : Rows.busPlaysRow.holds Try.pinned (OpenSpec.ofChange Rows.busPlaysSpec) :=
  OpenClaim.holds_of_wide 9 Try.f9 rfl rfl rfl rfl rfl rfl rfl ⟨rfl, rfl, rfl, rfl, rfl⟩ rfl rfl rfl rfl rfl (by kernel_rfl) Try.func9 (by kernel_rfl)
    (of_decide_eq_true (by kernel_rfl)) (by unfold Func.isWrapper; first | (rw [if_pos (by decide +kernel)]; kernel_rfl) | (rw [if_neg (by decide +kernel)]; exact ⟨rfl, rfl⟩))
    (fun os started H enc _ => lifted os started H enc)

theorem proved : Rows.BusPlaysSaid :=
  over
#print axioms proved
end Go.Proofs.Ytfjcfjfgamajkaa.busPlays
