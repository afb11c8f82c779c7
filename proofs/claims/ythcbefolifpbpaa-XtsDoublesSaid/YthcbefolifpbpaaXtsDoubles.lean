/- 'Rows.XtsDoublesSaid': 'casematelaw08.XtsDoubles' returns true at every argument, whatever the world; it lays new blocks alone. No condition. (The frame began as proof-skeleton.mjs wrote it.) -/
import Derived.Test.YthcbefolifpbpaaRows
import Derived.Test.YthcbefolifpbpaaB4
import Derived.Test.YthcbefolifpbpaaAwArgs
import Derived.WalkKit
import Derived.ProofKit
import Derived.OpenShut
namespace Go.Proofs.Ythcbefolifpbpaa.xtsDoubles
open Go.ChangeShapes Go.WideShapes Go.ChangeAt Go.RowKit
set_option linter.unusedVariables false

theorem own : ownKnob Try.prog.godebug = none := by kernel_rfl
theorem laid : laidOutB Try.prog = true := by kernel_rfl
theorem cells : Try.prog.cellTypes Try.prog.depth 24 = some (List.replicate 16 5) := by kernel_rfl
theorem byte : ∀ u ∈ List.replicate 16 5, Try.prog.underlying u = some (.int .u8) := by
  intro u hu
  obtain rfl := List.eq_of_mem_replicate hu
  exact Try.underlying5

theorem walk (v : Value) (l : List Nat) (hl : l.length = 16) (hb : ∀ i, l.getD i 0 < 256) (hd : ∀ ρ : Go.Ai.Ren, (Go.Ai.AV.agg (Go.Aw.B l)).den ρ = some v) (w : World) : Calls Try.prog 6 #[v] w fun e w' => e = .returned (.bool true) ∧ Below w.heap.size w w' := by
  obtain ⟨x, h', e, rfl⟩ := xtsDoubles_ok 0 ⟨0, .leaf⟩ l hl hb
  exact Go.Aw.calls_of env_ok (d := 7) (avs := [.agg (Go.Aw.B l)]) (xs := [v]) rfl Try.func6 (by kernel_rfl) (by rw [Go.Ai.denL, hd]; rfl) e w

set_option maxRecDepth 100000 in
theorem lifted (os : Os) (started : os.Started) (H : Type) (enc : TypeId × Value → H) :
    ReturnsInHanded {} Try.checked os 6 .any (Rows.xtsDoublesSpec.pre6 enc Try.prog Try.f6 Rows.xtsDoublesRow.domain false) (Rows.xtsDoublesSpec.post enc Try.prog Try.f6 false true false false) := by
  refine returnsInHanded_of_change (C := Try.checked) own started (by kernel_rfl) Try.func6
    (ChangeSpec.witness6 (enc := enc) (C := Try.checked) false ⟨#[], #[.agg (Array.replicate 16 (.int .u8 0))], []⟩ 6 (by kernel_rfl) (by kernel_rfl) (by kernel_rfl) (by kernel_rfl)) ?_
  intro W base args ds gs before hval0 hW hcnd _
  have hval : ∀ (j : Nat) t v, Try.f6.params[j]? = some t → args[j]? = some v → Value.okWide Try.prog W .any base t v := hval0
  have hW' := hW
  obtain ⟨p, q, hA0, hV, rfl, hfz, hnd⟩ := hW
  have hA : DataW.TrodAll enc Try.prog W 0 (fun _ => true) true Try.f6.params.toList args.toList ds p := hA0
  rw [Try.params6] at hA hval
  obtain ⟨v, d, rfl, rfl, hT⟩ := trodAll_one hA
  obtain ⟨rfl, rfl⟩ := trodVars_none hV
  clear hA0 hval0
  simp only [List.append_nil] at hW'
  obtain ⟨l, hl, hb, hd⟩ := Go.Aw.bytes_of Try.underlying24 (by kernel_rfl) cells byte (hval 0 24 v rfl rfl)
  have hlt : ∀ x ∈ p, x.block < W.heap.size := fun x hx => by simpa using hW'.lt x hx
  refine (walk v l hl hb hd W).mono fun e W' ⟨he, hg⟩ => ?_
  subst he
  exact ⟨_, rfl, post_of_below (pa := p) (pv := []) hW' (fun _ _ _ => (trodAll_cons_mk (shut_bool Try.underlying4 _) trodAll_mk0))
    (fun sp hsp => trodAll_mk1 (WideElems.Trod_stays laid (by kernel_rfl) (of_decide_eq_true (by kernel_rfl)) hT (fun x hx => hg.same (hlt x hx)) (fun x hx => hsp x (by simpa using hx)))) (fun _ _ => rfl) (List.append_nil p).symm
    hg (ok_one (by kernel_rfl) rfl (okWide_bool_mk Try.underlying4 _))⟩

theorem over : Rows.xtsDoublesRow.holds Try.pinned (OpenSpec.ofChange Rows.xtsDoublesSpec) :=
  OpenClaim.holds_of_wide 6 Try.f6 rfl rfl rfl rfl rfl rfl rfl ⟨rfl, rfl, rfl, rfl, rfl⟩ rfl rfl rfl rfl rfl (by kernel_rfl) Try.func6 (by kernel_rfl)
    (of_decide_eq_true (by kernel_rfl)) (by unfold Func.isWrapper; first | (rw [if_pos (by decide +kernel)]; kernel_rfl) | (rw [if_neg (by decide +kernel)]; exact ⟨rfl, rfl⟩))
    (fun os started H enc _ => lifted os started H enc)

theorem proved : Rows.XtsDoublesSaid :=
  over
#print axioms proved
end Go.Proofs.Ythcbefolifpbpaa.xtsDoubles
