/- 'Rows.JournalOrderSaid': 'casematelaw22.JournalOrder' returns true at every argument, whatever the world; it lays new blocks alone. No condition. (The frame began as proof-skeleton.mjs wrote it.) -/
import Derived.Test.YtlnepbkeiianmaaRows
import Derived.Test.YtlnepbkeiianmaaLM
import Derived.Test.YtlnepbkeiianmaaAwA
import Derived.WalkKit
import Derived.ProofKit
import Derived.OpenShut
namespace Go.Proofs.Ytlnepbkeiianmaa.journalOrder
open Go.ChangeShapes Go.WideShapes Go.ChangeAt Go.RowKit
set_option linter.unusedVariables false

theorem own : ownKnob Try.prog.godebug = none := by kernel_rfl
theorem laid : laidOutB Try.prog = true := by kernel_rfl
theorem cells56 : Try.prog.cellTypes Try.prog.depth 56 = some (List.replicate 4 5) := by kernel_rfl
theorem byte56 : ∀ u ∈ List.replicate 4 5, Try.prog.underlying u = some (.int .u8) := by
  intro u hu
  obtain rfl := List.eq_of_mem_replicate hu
  exact Try.underlying5

theorem walk (v0 : Value) (v1 : Value) (l0 : List Nat) (hl0 : l0.length = 4) (hb0 : ∀ i, l0.getD i 0 < 256) (hd0 : ∀ ρ : Go.Ai.Ren, (Go.Ai.AV.agg (Go.Aw.B l0)).den ρ = some v0) (l1 : List Nat) (hl1 : l1.length = 4) (hb1 : ∀ i, l1.getD i 0 < 256) (hd1 : ∀ ρ : Go.Ai.Ren, (Go.Ai.AV.agg (Go.Aw.B l1)).den ρ = some v1) (w : World) : Calls Try.prog 4 #[v0, v1] w fun e w' => e = .returned (.bool true) ∧ Below w.heap.size w w' := by
  obtain ⟨x, h', e, rfl⟩ := jorder_row 0 ⟨0, .leaf⟩ l0 hl0 hb0 l1 hl1 hb1
  exact Go.Aw.calls_of env_ok (d := 15) (avs := [.agg (Go.Aw.B l0), .agg (Go.Aw.B l1)]) (xs := [v0, v1]) rfl Try.func4 (by kernel_rfl) (Go.Ai.denL_cons.2 ⟨_, _, hd0 _, Go.Ai.denL_cons.2 ⟨_, _, hd1 _, Go.Ai.denL_nil _, rfl⟩, rfl⟩) e w

set_option maxRecDepth 100000 in
theorem lifted (os : Os) (started : os.Started) (H : Type) (enc : TypeId × Value → H) :
    ReturnsInHanded {} Try.checked os 4 .any (Rows.journalOrderSpec.pre6 enc Try.prog Try.f4 Rows.journalOrderRow.domain false) (Rows.journalOrderSpec.post enc Try.prog Try.f4 false true false false) := by
  refine returnsInHanded_of_change (C := Try.checked) own started (by kernel_rfl) Try.func4
    (ChangeSpec.witness6 (enc := enc) (C := Try.checked) false ⟨#[], #[.agg (Array.replicate 4 (.int .u8 0)), .agg (Array.replicate 4 (.int .u8 0))], []⟩ 4 (by kernel_rfl) (by kernel_rfl) (by kernel_rfl) (by kernel_rfl)) ?_
  intro W base args ds gs before hval0 hW hcnd _
  have hval : ∀ (j : Nat) t v, Try.f4.params[j]? = some t → args[j]? = some v → Value.okWide Try.prog W .any base t v := hval0
  have hW' := hW
  obtain ⟨p, q, hA0, hV, rfl, hfz, hnd⟩ := hW
  have hA : DataW.TrodAll enc Try.prog W 0 (fun _ => true) true Try.f4.params.toList args.toList ds p := hA0
  rw [Try.params4] at hA hval
  obtain ⟨v0, v1, d0, d1, p0, p1, rfl, rfl, rfl, hT0, hT1⟩ := trodAll_two hA
  obtain ⟨rfl, rfl⟩ := trodVars_none hV
  clear hA0 hval0
  simp only [List.append_nil] at hW'
  obtain ⟨l0, hl0, hb0, hd0⟩ := Go.Aw.bytesS_of Try.underlying56 (by kernel_rfl) cells56 byte56 (hval 0 56 v0 rfl rfl)
  obtain ⟨l1, hl1, hb1, hd1⟩ := Go.Aw.bytesS_of Try.underlying56 (by kernel_rfl) cells56 byte56 (hval 1 56 v1 rfl rfl)
  have hlt : ∀ x ∈ p0 ++ p1, x.block < W.heap.size := fun x hx => by simpa using hW'.lt x hx
  refine (walk v0 v1 l0 hl0 hb0 hd0 l1 hl1 hb1 hd1 W).mono fun e W' ⟨he, hg⟩ => ?_
  subst he
  exact ⟨_, rfl, post_of_below (pa := p0 ++ p1) (pv := []) hW' (fun _ _ _ => (trodAll_cons_mk (shut_bool Try.underlying4 _) trodAll_mk0))
    (fun sp hsp => trodAll_mk2 (WideElems.Trod_stays laid (by kernel_rfl) (of_decide_eq_true (by kernel_rfl)) hT0 (fun x hx => hg.same (hlt x (by simp [hx]))) (fun x hx => hsp x (by simp [hx]))) (WideElems.Trod_stays laid (by kernel_rfl) (of_decide_eq_true (by kernel_rfl)) hT1 (fun x hx => hg.same (hlt x (by simp [hx]))) (fun x hx => hsp x (by simp [hx])))) (fun _ _ => rfl) (by simp)
    hg (ok_one (by kernel_rfl) rfl (okWide_bool_mk Try.underlying4 _))⟩

theorem over : Rows.journalOrderRow.holds Try.pinned (OpenSpec.ofChange Rows.journalOrderSpec) :=
  OpenClaim.holds_of_wide 4 Try.f4 rfl rfl rfl rfl rfl rfl rfl ⟨rfl, rfl, rfl, rfl, rfl⟩ rfl rfl rfl rfl rfl (by kernel_rfl) Try.func4 (by kernel_rfl)
    (of_decide_eq_true (by kernel_rfl)) (by unfold Func.isWrapper; first | (rw [if_pos (by decide +kernel)]; kernel_rfl) | (rw [if_neg (by decide +kernel)]; exact ⟨rfl, rfl⟩))
    (fun os started H enc _ => lifted os started H enc)

theorem proved : Rows.JournalOrderSaid :=
  over
#print axioms proved
end Go.Proofs.Ytlnepbkeiianmaa.journalOrder
