/- 'Rows.AesTogetherSaid': 'casematelaw07.AesTogether' returns true at every argument, whatever the world; it lays new blocks alone. No condition. (The frame began as proof-skeleton.mjs wrote it.) -/
import Derived.Test.YthcbefolifpbpaaRows
import Derived.Test.YthcbefolifpbpaaD3
import Derived.Test.YthcbefolifpbpaaAwArg2
import Derived.WalkKit
import Derived.ProofKit
import Derived.OpenShut
namespace Go.Proofs.Ythcbefolifpbpaa.aesTogether
open Go.ChangeShapes Go.WideShapes Go.ChangeAt Go.RowKit
set_option linter.unusedVariables false

theorem own : ownKnob Try.prog.godebug = none := by kernel_rfl
theorem laid : laidOutB Try.prog = true := by kernel_rfl
theorem cells23 : Try.prog.cellTypes Try.prog.depth 23 = some (List.replicate 32 5) := by kernel_rfl
theorem byte23 : ∀ u ∈ List.replicate 32 5, Try.prog.underlying u = some (.int .u8) := by
  intro u hu
  obtain rfl := List.eq_of_mem_replicate hu
  exact Try.underlying5

theorem walk (v0 v1 : Value) (l0 : List Nat) (hl0 : l0.length = 32) (hd0 : ∀ ρ : Go.Ai.Ren, (Go.Ai.AV.agg (Go.Aw.B l0)).den ρ = some v0) (w : World)
    (h1 : v1 = .slice none 0 0 ∨ ∃ (l : Go.Ai.Loc) (len cap : Nat) (L : List Nat), v1 = .slice (some ⟨l.blk, l.off, none⟩) len cap ∧ L.length = 16 * len ∧ (∀ i, L.getD i 0 < 256) ∧ Go.Ai.BlkRel (Go.Aw.ren1 l) w l (.cells (Go.Aw.B L) 0 true)) :
    Calls Try.prog 4 #[v0, v1] w fun e w' => e = .returned (.bool true) ∧ Below w.heap.size w w' := by
  rcases h1 with rfl | ⟨l, len, cap, L, rfl, hL, _, hb⟩
  · obtain ⟨x, h', e, rfl⟩ := together_nil 0 ⟨0, .leaf⟩ l0 hl0
    exact Go.Aw.calls_of env_ok (d := 7) (avs := [.agg (Go.Aw.B l0), .nilslice]) (xs := [v0, .slice none 0 0]) rfl Try.func4 (by kernel_rfl) (Go.Ai.denL_cons.2 ⟨_, _, hd0 _, Go.Ai.denL_cons.2 ⟨_, _, rfl, Go.Ai.denL_nil _, rfl⟩, rfl⟩) e w
  · obtain ⟨x, h', e, rfl⟩ := together_ok 0 (Go.Aw.heap1 (Go.Aw.B L)) l0 hl0 L len 0 cap hL (Go.Aw.heap1_get _) (by rw [Go.Aw.heap1_next]; omega)
    exact Go.Aw.calls_of_at env_ok (d := 7) rfl Try.func4 (by kernel_rfl) (Go.Aw.heap1_rel hb) (Go.Aw.heap1_own _ _) (avs := [.agg (Go.Aw.B l0), .slice 0 0 len cap]) (xs := [v0, .slice (some ⟨l.blk, l.off, none⟩) len cap]) (Go.Ai.denL_cons.2 ⟨_, _, hd0 _, Go.Ai.denL_cons.2 ⟨_, _, by simp [Go.Ai.AV.den, Go.Aw.ren1], Go.Ai.denL_nil _, rfl⟩, rfl⟩) e

set_option maxRecDepth 100000 in
theorem lifted (os : Os) (started : os.Started) (H : Type) (enc : TypeId × Value → H) :
    ReturnsInHanded {} Try.checked os 4 .any (Rows.aesTogetherSpec.pre6 enc Try.prog Try.f4 Rows.aesTogetherRow.domain false) (Rows.aesTogetherSpec.post enc Try.prog Try.f4 false true false false) := by
  refine returnsInHanded_of_change (C := Try.checked) own started (by kernel_rfl) Try.func4
    (ChangeSpec.witness6 (enc := enc) (C := Try.checked) false ⟨#[], #[.agg (Array.replicate 32 (.int .u8 0)), .slice none 0 0], []⟩ 4 (by kernel_rfl) (by kernel_rfl) (by kernel_rfl) (by kernel_rfl)) ?_
  intro W base args ds gs before hval0 hW hcnd _
  have hval : ∀ (j : Nat) t v, Try.f4.params[j]? = some t → args[j]? = some v → Value.okWide Try.prog W .any base t v := hval0
  have hW' := hW
  obtain ⟨p, q, hA0, hV, rfl, hfz, hnd⟩ := hW
  have hA : DataW.TrodAll enc Try.prog W 0 (fun _ => true) true Try.f4.params.toList args.toList ds p := hA0
  rw [Try.params4] at hA hval
  obtain ⟨v0, v1, d0, d1, p0, p1, rfl, rfl, rfl, hT0, hT1⟩ := trodAll_two hA
  obtain ⟨rfl, rfl⟩ := trodVars_none hV
  clear hA0 hval0
  simp only [List.append_nil] at hW'
  obtain ⟨l0, hl0, hb0, hd0⟩ := Go.Aw.bytes_of Try.underlying23 (by kernel_rfl) cells23 byte23 (hval 0 23 v0 rfl rfl)
  have h1 := Go.Aw.slice_arg Try.underlying47 Try.underlying24 Try.underlying5 (by kernel_rfl) (by kernel_rfl) (by omega) (hval 1 47 v1 rfl rfl) hT1
  have hlt : ∀ x ∈ p0 ++ p1, x.block < W.heap.size := fun x hx => by simpa using hW'.lt x hx
  refine (walk v0 v1 l0 hl0 hd0 W h1).mono fun e W' ⟨he, hg⟩ => ?_
  subst he
  exact ⟨_, rfl, post_of_below (pa := p0 ++ p1) (pv := []) hW' (fun _ _ _ => (trodAll_cons_mk (shut_bool Try.underlying4 _) trodAll_mk0))
    (fun sp hsp => trodAll_mk2 (WideElems.Trod_stays laid (by kernel_rfl) (of_decide_eq_true (by kernel_rfl)) hT0 (fun x hx => hg.same (hlt x (by simp [hx]))) (fun x hx => hsp x (by simp [hx]))) (WideElems.Trod_stays laid (by kernel_rfl) (of_decide_eq_true (by kernel_rfl)) hT1 (fun x hx => hg.same (hlt x (by simp [hx]))) (fun x hx => hsp x (by simp [hx])))) (fun _ _ => rfl) (by simp)
    hg (ok_one (by kernel_rfl) rfl (okWide_bool_mk Try.underlying4 _))⟩

theorem over : Rows.aesTogetherRow.holds Try.pinned (OpenSpec.ofChange Rows.aesTogetherSpec) :=
  OpenClaim.holds_of_wide 4 Try.f4 rfl rfl rfl rfl rfl rfl rfl ⟨rfl, rfl, rfl, rfl, rfl⟩ rfl rfl rfl rfl rfl (by kernel_rfl) Try.func4 (by kernel_rfl)
    (of_decide_eq_true (by kernel_rfl)) (by unfold Func.isWrapper; first | (rw [if_pos (by decide +kernel)]; kernel_rfl) | (rw [if_neg (by decide +kernel)]; exact ⟨rfl, rfl⟩))
    (fun os started H enc _ => lifted os started H enc)

theorem proved : Rows.AesTogetherSaid :=
  over
#print axioms proved
end Go.Proofs.Ythcbefolifpbpaa.aesTogether
