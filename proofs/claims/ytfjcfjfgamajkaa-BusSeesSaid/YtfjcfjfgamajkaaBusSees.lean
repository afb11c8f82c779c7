/- 'Rows.BusSeesSaid': 'casematelaw13.BusSees' returns true at every argument, whatever the world; it lays new blocks alone. No condition. (The frame began as proof-skeleton.mjs wrote it.) -/
import Derived.Test.YtfjcfjfgamajkaaRows
import Derived.Test.YtfjcfjfgamajkaaT1
import Derived.Test.YtfjcfjfgamajkaaAwArgs
import Derived.WalkKit
import Derived.ProofKit
import Derived.OpenShut
namespace Go.Proofs.Ytfjcfjfgamajkaa.busSees
open Go.ChangeShapes Go.WideShapes Go.ChangeAt Go.RowKit
set_option linter.unusedVariables false

theorem u8_of {P : Program} {w : World} {r : Reach} {base t : Nat} (hu : P.underlying t = some (.int .u8)) {v : Value} (h : Value.okWide P w r base t v) : ∃ n : Nat, n < 256 ∧ v = .int .u8 (n : Int) := by
  unfold Value.okWide at h
  rw [hu] at h
  exact Go.Aw.byte_of hu h
theorem own : ownKnob Try.prog.godebug = none := by kernel_rfl
theorem laid : laidOutB Try.prog = true := by kernel_rfl
theorem cells25 : Try.prog.cellTypes Try.prog.depth 25 = some (List.replicate 64 5) := by kernel_rfl
theorem byte25 : ∀ u ∈ List.replicate 64 5, Try.prog.underlying u = some (.int .u8) := by
  intro u hu
  obtain rfl := List.eq_of_mem_replicate hu
  exact Try.underlying5

theorem walk (v0 : Value) (v1 : Value) (n0 : Nat) (hn0 : n0 < 256) (hd0 : v0 = .int .u8 (n0 : Int)) (l1 : List Nat) (hl1 : l1.length = 64) (hb1 : ∀ i, l1.getD i 0 < 256) (hd1 : ∀ ρ : Go.Ai.Ren, (Go.Ai.AV.agg (Go.Aw.B l1)).den ρ = some v1) (w : World) : Calls Try.prog 4 #[v0, v1] w fun e w' => e = .returned (.bool true) ∧ Below w.heap.size w w' := by
  subst hd0
  obtain ⟨x, h', e, rfl⟩ := busSees_ok 0 ⟨0, .leaf⟩ n0 l1 hn0 hl1
  exact Go.Aw.calls_of env_ok (d := 11) (avs := [.int .u8 (n0 : Int), .agg (Go.Aw.B l1)]) (xs := [.int .u8 (n0 : Int), v1]) rfl Try.func4 (by kernel_rfl) (Go.Ai.denL_cons.2 ⟨_, _, rfl, Go.Ai.denL_cons.2 ⟨_, _, hd1 _, Go.Ai.denL_nil _, rfl⟩, rfl⟩) e w

set_option maxRecDepth 100000 in
theorem lifted (os : Os) (started : os.Started) (H : Type) (enc : TypeId × Value → H) :
    ReturnsInHanded {} Try.checked os 4 .any (Rows.busSeesSpec.pre6 enc Try.prog Try.f4 Rows.busSeesRow.domain false) (Rows.busSeesSpec.post enc Try.prog Try.f4 false true false false) := by
  refine returnsInHanded_of_change (C := Try.checked) own started (by kernel_rfl) Try.func4
    (ChangeSpec.witness6 (enc := enc) (C := Try.checked) false ⟨#[], #[.int .u8 0, .agg (Array.replicate 64 (.int .u8 0))], []⟩ 4 (by kernel_rfl) (by kernel_rfl) (by kernel_rfl) (by kernel_rfl)) ?_
  intro W base args ds gs before hval0 hW hcnd _
  have hval : ∀ (j : Nat) t v, Try.f4.params[j]? = some t → args[j]? = some v → Value.okWide Try.prog W .any base t v := hval0
  have hW' := hW
  obtain ⟨p, q, hA0, hV, rfl, hfz, hnd⟩ := hW
  have hA : DataW.TrodAll enc Try.prog W 0 (fun _ => true) true Try.f4.params.toList args.toList ds p := hA0
  rw [Try.params4] at hA hval
  obtain ⟨v0, v1, d0, d1, p0, p1, rfl, rfl, rfl, hT0, hT1⟩ := trodAll_two hA
  obtain ⟨rfl, rfl⟩ := trodVars_none hV
  clear hA0 hval0
  simp only [List.append_nil] at hW'
  obtain ⟨n0, hn0, hd0⟩ := u8_of Try.underlying5 (hval 0 5 v0 rfl rfl)
  obtain ⟨l1, hl1, hb1, hd1⟩ := Go.Aw.bytes_of Try.underlying25 (by kernel_rfl) cells25 byte25 (hval 1 25 v1 rfl rfl)
  have hlt : ∀ x ∈ p0 ++ p1, x.block < W.heap.size := fun x hx => by simpa using hW'.lt x hx
  refine (walk v0 v1 n0 hn0 hd0 l1 hl1 hb1 hd1 W).mono fun e W' ⟨he, hg⟩ => ?_
  subst he
  exact ⟨_, rfl, post_of_below (pa := p0 ++ p1) (pv := []) hW' (fun _ _ _ => (trodAll_cons_mk (shut_bool Try.underlying4 _) trodAll_mk0))
    (fun sp hsp => trodAll_mk2 (WideElems.Trod_stays laid (by kernel_rfl) (of_decide_eq_true (by kernel_rfl)) hT0 (fun x hx => hg.same (hlt x (by simp [hx]))) (fun x hx => hsp x (by simp [hx]))) (WideElems.Trod_stays laid (by kernel_rfl) (of_decide_eq_true (by kernel_rfl)) hT1 (fun x hx => hg.same (hlt x (by simp [hx]))) (fun x hx => hsp x (by simp [hx])))) (fun _ _ => rfl) (by simp)
    hg (ok_one (by kernel_rfl) rfl (okWide_bool_mk Try.underlying4 _))⟩

theorem over : Rows.busSeesRow.holds Try.pinned (OpenSpec.ofChange Rows.busSeesSpec) :=
  OpenClaim.holds_of_wide 4 Try.f4 rfl rfl rfl rfl rfl rfl rfl ⟨rfl, rfl, rfl, rfl, rfl⟩ rfl rfl rfl rfl rfl (by kernel_rfl) Try.func4 (by kernel_rfl)
    (of_decide_eq_true (by kernel_rfl)) (by unfold Func.isWrapper; first | (rw [if_pos (by decide +kernel)]; kernel_rfl) | (rw [if_neg (by decide +kernel)]; exact ⟨rfl, rfl⟩))
    (fun os started H enc _ => lifted os started H enc)

theorem proved : Rows.BusSeesSaid :=
  over
#print axioms proved
end Go.Proofs.Ytfjcfjfgamajkaa.busSees
