/- 'Rows.JournalLastsSaid': 'casematelaw22.JournalLasts' returns true at every argument, whatever the world; it lays new blocks alone. No condition. (The frame began as proof-skeleton.mjs wrote it.) -/
import Derived.Test.YtlnepbkeiianmaaRows
import Derived.Test.YtlnepbkeiianmaaLP
import Derived.Test.YtlnepbkeiianmaaAwA
import Derived.WalkKit
import Derived.ProofKit
import Derived.OpenShut
namespace Go.Proofs.Ytlnepbkeiianmaa.journalLasts
open Go.ChangeShapes Go.WideShapes Go.ChangeAt Go.RowKit
set_option linter.unusedVariables false

theorem own : ownKnob Try.prog.godebug = none := by kernel_rfl
theorem laid : laidOutB Try.prog = true := by kernel_rfl

set_option maxRecDepth 100000 in
theorem lifted (os : Os) (started : os.Started) (H : Type) (enc : TypeId × Value → H) :
    ReturnsInHanded {} Try.checked os 5 .any (Rows.journalLastsSpec.pre6 enc Try.prog Try.f5 Rows.journalLastsRow.domain false) (Rows.journalLastsSpec.post enc Try.prog Try.f5 false true false false) := by
  refine returnsInHanded_of_change (C := Try.checked) own started (by kernel_rfl) Try.func5
    (ChangeSpec.witness6 (enc := enc) (C := Try.checked) false ⟨#[], #[.agg (Array.replicate 4 (.int .u8 0)), .int .u8 0, .slice none 0 0], []⟩ 5 (by kernel_rfl) (by kernel_rfl) (by kernel_rfl) (by kernel_rfl)) ?_
  intro W base args ds gs before hval0 hW hcnd _
  have hval : ∀ (j : Nat) t v, Try.f5.params[j]? = some t → args[j]? = some v → Value.okWide Try.prog W .any base t v := hval0
  have hW' := hW
  obtain ⟨p, q, hA0, hV, rfl, hfz, hnd⟩ := hW
  have hA : DataW.TrodAll enc Try.prog W 0 (fun _ => true) true Try.f5.params.toList args.toList ds p := hA0
  rw [Try.params5] at hA hval
  obtain ⟨v0, v1, v2, d0, d1, d2, p0, p1, p2, rfl, rfl, rfl, hT0, hT1, hT2⟩ := trodAll_three hA
  obtain ⟨rfl, rfl⟩ := trodVars_none hV
  clear hA0 hval0
  simp only [List.append_nil] at hW'
  have r0 := Go.Aw.RO.nil W
  obtain ⟨ρ1, h1, a0, x0, e0, r1, k0, d0', P0, O0⟩ := puts_arg r0 (hval 0 56 v0 rfl rfl) hT0
  obtain ⟨ρ2, h2, a1, x1, e1, r2, k1, d1', P1, O1⟩ := fails_arg r1 (hval 1 5 v1 rfl rfl) hT1
  replace d0' := Go.Ai.den_mono e1 _ _ d0'
  replace P0 := P0.keep k1
  obtain ⟨ρ3, h3, a2, x2, e2, r3, k2, d2', P2, O2⟩ := picks_arg r2 (hval 2 33 v2 rfl rfl) hT2
  replace d0' := Go.Ai.den_mono e2 _ _ d0'
  replace P0 := P0.keep k2
  replace d1' := Go.Ai.den_mono e2 _ _ d1'
  replace P1 := P1.keep k2
  have hlt : ∀ x ∈ p0 ++ p1 ++ p2, x.block < W.heap.size := fun x hx => by simpa using hW'.lt x hx
  have walk : Calls Try.prog 5 #[v0, v1, v2] W fun e w' => e = .returned (.bool true) ∧ Below W.heap.size W w' := by
    obtain ⟨x, h', e, rfl⟩ := jlasts_row 0 h3 a0 x0 P0 O0 a1 x1 P1 O1 a2 x2 P2 O2
    exact Go.Aw.calls_of_at env_ok (d := 15) rfl Try.func5 (by kernel_rfl) r3.rel r3.own (avs := [a0, a1, a2]) (xs := [v0, v1, v2]) (Go.Ai.denL_cons.2 ⟨_, _, d0', Go.Ai.denL_cons.2 ⟨_, _, d1', Go.Ai.denL_cons.2 ⟨_, _, d2', Go.Ai.denL_nil _, rfl⟩, rfl⟩, rfl⟩) e
  refine walk.mono fun e W' ⟨he, hg⟩ => ?_
  subst he
  exact ⟨_, rfl, post_of_below (pa := p0 ++ (p1 ++ p2)) (pv := []) hW' (fun _ _ _ => (trodAll_cons_mk (shut_bool Try.underlying4 _) trodAll_mk0))
    (fun sp hsp => trodAll_mk3 (WideElems.Trod_stays laid (by kernel_rfl) (of_decide_eq_true (by kernel_rfl)) hT0 (fun x hx => hg.same (hlt x (by simp [hx]))) (fun x hx => hsp x (by simp [hx]))) (WideElems.Trod_stays laid (by kernel_rfl) (of_decide_eq_true (by kernel_rfl)) hT1 (fun x hx => hg.same (hlt x (by simp [hx]))) (fun x hx => hsp x (by simp [hx]))) (WideElems.Trod_stays laid (by kernel_rfl) (of_decide_eq_true (by kernel_rfl)) hT2 (fun x hx => hg.same (hlt x (by simp [hx]))) (fun x hx => hsp x (by simp [hx])))) (fun _ _ => rfl) (by simp)
    hg (ok_one (by kernel_rfl) rfl (okWide_bool_mk Try.underlying4 _))⟩

theorem over : Rows.journalLastsRow.holds Try.pinned (OpenSpec.ofChange Rows.journalLastsSpec) :=
  OpenClaim.holds_of_wide 5 Try.f5 rfl rfl rfl rfl rfl rfl rfl ⟨rfl, rfl, rfl, rfl, rfl⟩ rfl rfl rfl rfl rfl (by kernel_rfl) Try.func5 (by kernel_rfl)
    (of_decide_eq_true (by kernel_rfl)) (by unfold Func.isWrapper; first | (rw [if_pos (by decide +kernel)]; kernel_rfl) | (rw [if_neg (by decide +kernel)]; exact ⟨rfl, rfl⟩))
    (fun os started H enc _ => lifted os started H enc)

theorem proved : Rows.JournalLastsSaid :=
  over
#print axioms proved
end Go.Proofs.Ytlnepbkeiianmaa.journalLasts
