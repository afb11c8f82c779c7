/- Of this program, for all inputs: contracts. No condition but those in the theorems. -/
import Derived.Test.YthcbefolifpbpaaAwM3
import Derived.Test.YthcbefolifpbpaaE2
namespace Go.Proofs.Ythcbefolifpbpaa.R
open Go Go.Ai Go.Aw Go.Proofs
open Nat renaming reduceBEq → uB, reduceEqDiff → uE, reduceLT → uL, reduceAdd → uA, reduceMul → uM, reduceSub → uS, reduceAnd → uN, reduceXor → uX, reduceOr → uO
open Int renaming reduceMod → vR, reduceDiv → vD, reduceLT → vL, reduceLE → vK, reduceEq → vE, reduceAdd → vA, reduceMul → vM, reduceToNat → vT
set_option linter.unusedSimpArgs false
set_option linter.unusedVariables false
set_option maxRecDepth 10000
theorem env_P : c2.P = Try.prog := rfl
theorem env_L : c2.L = 100000 := rfl
theorem bsE_of {P : Program} {T len : Nat} {l : List (Nat × AV)} {b : Blk} {n c : Nat} (hb : ∀ K : Blk → (Nat → AV) → Option (AV × Heap), buildSliceK P T len l K = K b (fun k => .slice k 0 n c)) (h : Heap) : bsE P T len l h = some (.slice h.next 0 n c, h.new b) := by
  unfold bsE
  rw [hb]
  simp only [newK_E, fK_E, okv_slice, th_some]
theorem bs63_1 (x : Nat) (h : Heap) : bsE Try.prog 63 1 [(0, b8 x)] h = some (.slice h.next 0 1 1, h.new (.cells [b8 x] 0 false)) := bsE_of (fun K => by kernel_rfl) h
theorem bs63_4 (x y z u : Nat) (h : Heap) : bsE Try.prog 63 4 [(0, b8 x), (1, b8 y), (2, b8 z), (3, b8 u)] h = some (.slice h.next 0 4 4, h.new (.cells [b8 x, b8 y, b8 z, b8 u] 0 false)) := bsE_of (fun K => by kernel_rfl) h
theorem bs88_1 (k o l c : Nat) (h : Heap) : bsE Try.prog 88 1 [(0, .slice k o l c)] h = some (.slice h.next 0 1 1, h.new (.cells [.slice k o l c] 0 false)) := bsE_of (fun K => by kernel_rfl) h
theorem el63 : Elem Try.prog 63 5 0 ((Try.prog.info? 5).getD default) (.int .u8 0) := ⟨Try.underlying63, by kernel_rfl, by kernel_rfl, by kernel_rfl, by kernel_rfl, by decide +kernel⟩
theorem el88 : Elem Try.prog 88 63 0 ((Try.prog.info? 63).getD default) (.slice none 0 0) := ⟨Try.underlying88, by kernel_rfl, by kernel_rfl, by kernel_rfl, by kernel_rfl, by decide +kernel⟩
theorem ap63 (call : CallK) (ρ : Operand → AV) (dd : Option Tmp) (t : TypeId) (p : String) (a : Array Edge) (g : Option (Nat × Bool)) (h : Heap) (s x : Operand) : opE Try.prog call ρ ⟨dd, .call ⟨.builtin .append, #[s, x], #[63, 63]⟩, t, p, a, g⟩ h = th (okv (ρ s)) fun u => th (okv (ρ x)) fun v => appE Try.prog 63 u v h := opE_append Try.underlying63 s x
theorem ap88 (call : CallK) (ρ : Operand → AV) (dd : Option Tmp) (t : TypeId) (p : String) (a : Array Edge) (g : Option (Nat × Bool)) (h : Heap) (s x : Operand) : opE Try.prog call ρ ⟨dd, .call ⟨.builtin .append, #[s, x], #[88, 88]⟩, t, p, a, g⟩ h = th (okv (ρ s)) fun u => th (okv (ρ x)) fun v => appE Try.prog 88 u v h := opE_append Try.underlying88 s x
theorem an63 (h : Heap) (v : AV) (hv : isSc v = true) : appE Try.prog 63 .nilslice (.slice h.next 0 1 1) (h.new (.cells [v] 0 false)) = some (.eslice (h.next + 1) 0 0 1, (h.new (.cells [v] 0 false)).new (.cells [v] 1 false)) := by
  have := app_nil (h := h.new (.cells [v] 0 false)) (c := 1) el63 (kx := h.next) (ox := 0) (cs := [v]) (nw := [v]) (new_same h _) rfl rfl (by simp [allSc, hv])
  rw [this, new_next]
theorem ae63 (h : Heap) (k n : Nat) (old : List AV) (v : AV) (hv : isSc v = true) (hk : h.get k = some (.cells old 1 false)) (hkn : k < h.next) (ho : old.length = n) (hn : n < 4095) :
    appE Try.prog 63 (.eslice k 0 0 n) (.slice h.next 0 1 1) (h.new (.cells [v] 0 false)) = some (.eslice (h.next + 1) 0 0 (n + 1), ((h.new (.cells [v] 0 false)).put k none).new (.cells (old ++ [v]) 1 false)) := by
  have := app_es (h := h.new (.cells [v] 0 false)) (c := 1) el63 (k := k) (n := n) (old := old) (by rw [new_ne _ _ (by omega)]; exact hk) (by omega) hn (kx := h.next) (ox := 0) (cs := [v]) (nw := [v]) (new_same h _) rfl rfl (by simp [allSc, hv])
  rw [this, new_next]
theorem an88 (h : Heap) (v : AV) (hv : isSc v = true) : appE Try.prog 88 .nilslice (.slice h.next 0 1 1) (h.new (.cells [v] 0 false)) = some (.eslice (h.next + 1) 0 0 1, (h.new (.cells [v] 0 false)).new (.cells [v] 1 false)) := by
  have := app_nil (h := h.new (.cells [v] 0 false)) (c := 1) el88 (kx := h.next) (ox := 0) (cs := [v]) (nw := [v]) (new_same h _) rfl rfl (by simp [allSc, hv])
  rw [this, new_next]
theorem ae88 (h : Heap) (k n : Nat) (old : List AV) (v : AV) (hv : isSc v = true) (hk : h.get k = some (.cells old 1 false)) (hkn : k < h.next) (ho : old.length = n) (hn : n < 4095) :
    appE Try.prog 88 (.eslice k 0 0 n) (.slice h.next 0 1 1) (h.new (.cells [v] 0 false)) = some (.eslice (h.next + 1) 0 0 (n + 1), ((h.new (.cells [v] 0 false)).put k none).new (.cells (old ++ [v]) 1 false)) := by
  have := app_es (h := h.new (.cells [v] 0 false)) (c := 1) el88 (k := k) (n := n) (old := old) (by rw [new_ne _ _ (by omega)]; exact hk) (by omega) hn (kx := h.next) (ox := 0) (cs := [v]) (nw := [v]) (new_same h _) rfl rfl (by simp [allSc, hv])
  rw [this, new_next]
theorem sbT_len : sbT.length = 256 := rfl
theorem sb_at (i : Nat) (hi : i < 256) : B (sbT.take i) ++ [b8 (sb i)] = B (sbT.take (i + 1)) := by
  have e : sb i = sbT.getD i 0 := by rw [sb, Nat.mod_eq_of_lt hi]
  rw [e, List.take_add_one, B, B, List.map_append]
  congr 1
  rw [List.getD_eq_getElem?_getD]
  rw [List.getElem?_eq_getElem (by rw [sbT_len]; exact hi)]
  rfl
theorem get_put_none {h : Heap} {k j : Nat} (hj : j ≠ k) : (h.put k none).get j = h.get j := put_ne _ _ hj
set_option maxHeartbeats 4000000 in
theorem boxes_ok (d : Nat) (h : Heap) : G (callD c2 (d + 2) 43 [] h) fun v h' => ∃ k, v = .eslice k 0 0 256 ∧ h.next ≤ k ∧ k < h'.next ∧ h'.get k = some (.cells (B sbT) 1 false) ∧ ∀ j, j < h.next → h'.get j = h.get j := by
  generalize hX : (fun (v : AV) (h' : Heap) => ∃ k, v = .eslice k 0 0 256 ∧ h.next ≤ k ∧ k < h'.next ∧ h'.get k = some (.cells (B sbT) 1 false) ∧ ∀ j, j < h.next → h'.get j = h.get j) = Q
  rw [callD_run (E := c2) [] (by kernel_rfl) Try.func43 rfl (by rw [Try.ntmps43]; simp) (by kernel_rfl)]; simp (maxSteps := 2000000) (implicitDefEqProofs := false) (disch := first | omega | (simp only [SD.down, uA, uL] <;> omega) | fail) only [Try.ntmps43, Try.results43, env_P, env_L, TA.down, resE, oneV, ↓reduceIte, reduceCtorEq, uB, uE, uL, uA, uM, uS, uN, uX, uO, vR, vD, vL, vK, vE, vA, vM, vT]
  rw [run_loop]
  refine loop_ind (fun j σ hh => ∃ i, i + j = 256 ∧ σ 2 = .int .i64 (i : Int) ∧ ((i = 0 ∧ σ 1 = .nilslice) ∨ ∃ k, 0 < i ∧ σ 1 = .eslice k 0 0 i ∧ h.next ≤ k ∧ k < hh.next ∧ hh.get k = some (.cells (B (sbT.take i)) 1 false)) ∧ h.next ≤ hh.next ∧ ∀ j, j < h.next → hh.get j = h.get j) ?_ ?_ 256 _ _ _ (by simp) ?_
  · rintro mm σ hh ⟨i, hi, s2, hs, hn, hf⟩
    obtain rfl : i = 256 := by omega
    rcases hs with ⟨h0, _⟩ | ⟨k, _, s1, k1, k2, gk⟩
    · omega
    · simp (maxSteps := 2000000) (implicitDefEqProofs := false) (disch := first | omega | (simp only [SD.down, uA, uL] <;> omega) | fail) only [run_it, s1, s2, env_P, TA.down, resE, oneV, ↓reduceIte, reduceCtorEq, uB, uE, uL, uA, uM, uS, uN, uX, uO, vR, vD, vL, vK, vE, vA, vM, vT]
      subst hX
      exact G.ok ⟨k, rfl, k1, k2, gk, hf⟩
  · rintro j mm σ hh ⟨i, hi, s2, hs, hn, hf⟩ ih
    have hi2 : i < 256 := by omega
    rcases hs with ⟨rfl, s1⟩ | ⟨k, h0, s1, k1, k2, gk⟩
    · have A := an63 hh (b8 (sb 0)) rfl
      simp (maxSteps := 2000000) (implicitDefEqProofs := false) (disch := first | omega | (simp only [SD.down, uA, uL] <;> omega) | fail) only [run_it, s1, s2, qBox, cls_append, ap63, cls_bs, opE_bs, bs63_1, A, env_P, TA.down, resE, oneV, ↓reduceIte, reduceCtorEq, uB, uE, uL, uA, uM, uS, uN, uX, uO, vR, vD, vL, vK, vE, vA, vM, vT]
      refine ih _ _ ⟨1, by omega, by simp (maxSteps := 2000000) (implicitDefEqProofs := false) (disch := first | omega | (simp only [SD.down, uA, uL] <;> omega) | fail) only [TA.down, resE, oneV, ↓reduceIte, reduceCtorEq, uB, uE, uL, uA, uM, uS, uN, uX, uO, vR, vD, vL, vK, vE, vA, vM, vT], .inr ⟨hh.next + 1, by omega, by simp (maxSteps := 2000000) (implicitDefEqProofs := false) (disch := first | omega | (simp only [SD.down, uA, uL] <;> omega) | fail) only [TA.down, resE, oneV, ↓reduceIte, reduceCtorEq, uB, uE, uL, uA, uM, uS, uN, uX, uO, vR, vD, vL, vK, vE, vA, vM, vT], by omega, by simp (maxSteps := 2000000) (implicitDefEqProofs := false) (disch := first | omega | (simp only [SD.down, uA, uL] <;> omega) | fail) only [TA.down, resE, oneV, ↓reduceIte, reduceCtorEq, uB, uE, uL, uA, uM, uS, uN, uX, uO, vR, vD, vL, vK, vE, vA, vM, vT]; omega, ?_⟩, by simp (maxSteps := 2000000) (implicitDefEqProofs := false) (disch := first | omega | (simp only [SD.down, uA, uL] <;> omega) | fail) only [TA.down, resE, oneV, ↓reduceIte, reduceCtorEq, uB, uE, uL, uA, uM, uS, uN, uX, uO, vR, vD, vL, vK, vE, vA, vM, vT]; omega, fun j hj => by simp (maxSteps := 2000000) (implicitDefEqProofs := false) (disch := first | omega | (simp only [SD.down, uA, uL] <;> omega) | fail) only [hf j hj, TA.down, resE, oneV, ↓reduceIte, reduceCtorEq, uB, uE, uL, uA, uM, uS, uN, uX, uO, vR, vD, vL, vK, vE, vA, vM, vT]⟩
      rw [← sb_at 0 (by omega)]
      simp (maxSteps := 2000000) (implicitDefEqProofs := false) (disch := first | omega | (simp only [SD.down, uA, uL] <;> omega) | fail) only [TA.down, resE, oneV, ↓reduceIte, reduceCtorEq, uB, uE, uL, uA, uM, uS, uN, uX, uO, vR, vD, vL, vK, vE, vA, vM, vT]
      rfl
    · have A := ae63 hh k i (B (sbT.take i)) (b8 (sb i)) rfl gk k2 (by rw [B_len, List.length_take, sbT_len]; omega) (by omega)
      simp (maxSteps := 2000000) (implicitDefEqProofs := false) (disch := first | omega | (simp only [SD.down, uA, uL] <;> omega) | fail) only [run_it, s1, s2, qBox, cls_append, ap63, cls_bs, opE_bs, bs63_1, A, env_P, TA.down, resE, oneV, ↓reduceIte, reduceCtorEq, uB, uE, uL, uA, uM, uS, uN, uX, uO, vR, vD, vL, vK, vE, vA, vM, vT]
      refine ih _ _ ⟨i + 1, by omega, by simp (maxSteps := 2000000) (implicitDefEqProofs := false) (disch := first | omega | (simp only [SD.down, uA, uL] <;> omega) | fail) only [TA.down, resE, oneV, ↓reduceIte, reduceCtorEq, uB, uE, uL, uA, uM, uS, uN, uX, uO, vR, vD, vL, vK, vE, vA, vM, vT], .inr ⟨hh.next + 1, by omega, by simp (maxSteps := 2000000) (implicitDefEqProofs := false) (disch := first | omega | (simp only [SD.down, uA, uL] <;> omega) | fail) only [TA.down, resE, oneV, ↓reduceIte, reduceCtorEq, uB, uE, uL, uA, uM, uS, uN, uX, uO, vR, vD, vL, vK, vE, vA, vM, vT], by omega, by simp (maxSteps := 2000000) (implicitDefEqProofs := false) (disch := first | omega | (simp only [SD.down, uA, uL] <;> omega) | fail) only [TA.down, resE, oneV, ↓reduceIte, reduceCtorEq, uB, uE, uL, uA, uM, uS, uN, uX, uO, vR, vD, vL, vK, vE, vA, vM, vT]; omega, ?_⟩, by simp (maxSteps := 2000000) (implicitDefEqProofs := false) (disch := first | omega | (simp only [SD.down, uA, uL] <;> omega) | fail) only [TA.down, resE, oneV, ↓reduceIte, reduceCtorEq, uB, uE, uL, uA, uM, uS, uN, uX, uO, vR, vD, vL, vK, vE, vA, vM, vT]; omega, fun j hj => by simp (maxSteps := 2000000) (implicitDefEqProofs := false) (disch := first | omega | (simp only [SD.down, uA, uL] <;> omega) | fail) only [hf j hj, TA.down, resE, oneV, ↓reduceIte, reduceCtorEq, uB, uE, uL, uA, uM, uS, uN, uX, uO, vR, vD, vL, vK, vE, vA, vM, vT]⟩
      rw [← sb_at i hi2]
      simp (maxSteps := 2000000) (implicitDefEqProofs := false) (disch := first | omega | (simp only [SD.down, uA, uL] <;> omega) | fail) only [TA.down, resE, oneV, ↓reduceIte, reduceCtorEq, uB, uE, uL, uA, uM, uS, uN, uX, uO, vR, vD, vL, vK, vE, vA, vM, vT]
  · refine ⟨0, by omega, by simp (maxSteps := 2000000) (implicitDefEqProofs := false) (disch := first | omega | (simp only [SD.down, uA, uL] <;> omega) | fail) only [TA.down, resE, oneV, ↓reduceIte, reduceCtorEq, uB, uE, uL, uA, uM, uS, uN, uX, uO, vR, vD, vL, vK, vE, vA, vM, vT], .inl ⟨rfl, by simp (maxSteps := 2000000) (implicitDefEqProofs := false) (disch := first | omega | (simp only [SD.down, uA, uL] <;> omega) | fail) only [TA.down, resE, oneV, ↓reduceIte, reduceCtorEq, uB, uE, uL, uA, uM, uS, uN, uX, uO, vR, vD, vL, vK, vE, vA, vM, vT]⟩, by omega, fun _ _ => rfl⟩
end Go.Proofs.Ythcbefolifpbpaa.R
