/- Of this program, for all inputs: contracts. No condition but those in the theorems. -/
import Derived.Test.YtfjcfjfgamajkaaU2
namespace Go.Proofs.Ytfjcfjfgamajkaa
open Go Go.Ai Go.Aw Go.Proofs Go.RowKit
set_option linter.unusedSimpArgs false
set_option linter.unusedVariables false
set_option maxRecDepth 10000
theorem PickB.keep {h h' : Heap} {u : AV} {l : List Nat} (x : PickB h u l) (k : Keeps h h') : PickB h' u l := ⟨x.1.keep k, x.2⟩
theorem byteK_flat : flatK Try.prog 10 5 = some [.u8] := by kernel_rfl
theorem byteK_cells : Try.prog.cellsOf 5 = 1 := by kernel_rfl
theorem picks_arg {H : Type} {enc : TypeId × Value → H} {w : World} {r : Reach} {b0 base : Nat} {sp : Nat → Bool} {held : Bool} {v : Value} {d : DataW H} {ps : List MemPlace} {ρ : Ren} {h : Heap} (ro : RO ρ h w)
    (hval : Value.okWide Try.prog w r b0 40 v) (hd : DataW.Trod enc Try.prog w base sp held 40 v d ps) :
    ∃ ρ' h' av l, Ext ρ ρ' ∧ RO ρ' h' w ∧ Keeps h h' ∧ av.den ρ' = some v ∧ PickB h' av l ∧ True := by
  rcases flat_slice Try.underlying40 byteK_flat byteK_cells (by decide) hval hd with rfl | ⟨l, len, cap, cs, rfl, _, _, hl, hc, hb⟩
  · exact ⟨ρ, h, .nilslice, [], fun _ _ e => e, ro, .refl _, rfl, ⟨.inl ⟨rfl, .inl rfl⟩, lnn40⟩, trivial⟩
  · have hl1 : cs.length = len := by rw [hl]; exact Nat.mul_one _
    obtain ⟨ns, g1, g2, g3⟩ := bytesAV cs fun i hi => by
      obtain ⟨z, gz, gw⟩ := hc i 0 .u8 (by omega) rfl
      refine ⟨z, ?_, gw⟩
      rw [← gz]
      congr 1
      show i = i * 1 + 0
      omega
    obtain ⟨x1, x2⟩ := ro.new (hb ρ)
    refine ⟨_, _, .slice h.next 0 len cap, ns, x2, x1, ⟨Nat.le_succ _, fun j hj => new_ne _ _ (by omega)⟩, by simp [AV.den, Ren.add_same], ⟨?_, by rw [g1, hl1]; exact lns40 ..⟩, trivial⟩
    by_cases h0 : ns = []
    · subst h0
      have : len = 0 := by simp at g1; omega
      subst this
      exact .inl ⟨rfl, .inr ⟨_, _, _, rfl⟩⟩
    · refine .inr ⟨h.next, 0, cap, cs, 0, true, h0, by rw [g1, hl1], Nat.lt_succ_self _, new_same _ _, ?_⟩
      rw [g2]
      exact cut_all (by simp [B_len])
theorem busOff_row (d : Nat) (h : Heap) (a1 : AV) (x1 : List Act) (h1 : ActsI h a1 x1) (o1 : ∀ a ∈ x1, a.ok) (a2 : AV) (x2 : List Act) (h2 : ActsI h a2 x2) (o2 : ∀ a ∈ x2, a.ok) (a3 : AV) (x3 : List Nat) (h3 : PickB h a3 x3) (_ : True) : G (callD env (d + 13) 7 [a1, a2, a3] h) fun v h' => v = .bool true :=
  busOff_ok d h a1 x1 h1 o1 a2 x2 h2 o2 a3 x3 h3
end Go.Proofs.Ytfjcfjfgamajkaa
