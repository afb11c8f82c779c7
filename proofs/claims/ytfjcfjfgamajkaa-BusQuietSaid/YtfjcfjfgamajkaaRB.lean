/- Of this program, for all inputs: contracts. No condition but those in the theorems. -/
import Derived.Test.YtfjcfjfgamajkaaRA
import Derived.Test.YtfjcfjfgamajkaaPC
import Derived.Test.YtfjcfjfgamajkaaQ2
namespace Go.Aw
open Go Go.Ai
set_option linter.unusedSimpArgs false
set_option linter.unusedVariables false
variable {P : Program} {h : Heap}
/-- nothing appended to an empty slice -/
theorem app_00 {T e s k o : Nat} {ie : TypeInfo} {zv : Value} (E : Elem P T e s ie zv) (x : AV) (hx : lenA x = some 0) (hf : ∀ {β : Type} (K : List AV → Option β), firstK h (s + 1) 0 x K = K []) : appE P T (.slice k o 0 0) x h = some (.slice k o 0 0, h) := by
  have hsm := small_ok E.small (show 0 < 4096 by omega)
  have hl : lenA (.slice k o 0 0) = some 0 := rfl
  simp only [appE, appendK, unK_E, E.sl, th_some, E.info, E.zero, E.zsz, E.size, hx, hl, fN_eq, Nat.zero_add, hsm, hf, llen_eq, List.length_nil, Nat.zero_mul, Nat.beq_refl, lsc, p2]
  rfl
theorem app_capB {T e s k o kx ox n c ex : Nat} {ie : TypeInfo} {zv : Value} (E : Elem P T e s ie zv) (hsm : Nat.ble ((n + 1 + 1) * (s + 2) * (ie.bytes + 1)) (capRoom s ie.bytes) = true) {cs nw : List AV} {ro : Bool} (hg : h.get kx = some (.cells cs ex ro)) (hc : cutE ox ((n + 1) * (s + 1)) cs = some nw) (hl : nw.length = (n + 1) * (s + 1)) (hs : allSc nw = true) :
    appE P T (.slice k o 0 0) (.slice kx ox (n + 1) c) h = some (.eslice h.next 0 0 (n + 1), h.new (.cells nw (s + 1) false)) := by
  have e0 : (n + 1) * (s + 1) = ((n + 1) * s + n) + 1 := by rw [Nat.mul_add]; omega
  have eb : Nat.ble (n + 1) 0 = false := rfl
  simp only [appE, appendK, unK_E, E.sl, th_some, E.info, E.zero, E.zsz, E.size, lenA, fN_eq, Nat.zero_add, hsm, firstK, eb, Nat.zero_mul, growK, p2]
  rw [e0] at hc hl ⊢
  simp only [hgetK_eq, hg, lcut_th, hc, llen_eq, Nat.zero_add, hl, Nat.beq_refl, lsc_eq, hs, lapp_eq, List.nil_append, newK_E, th_some]
end Go.Aw
namespace Go.Proofs.Ytfjcfjfgamajkaa
open Go Go.Ai Go.Aw Go.Proofs
open Nat renaming reduceBEq → uB, reduceEqDiff → uE, reduceLT → uL, reduceAdd → uA, reduceMul → uM, reduceSub → uS, reduceAnd → uN, reduceXor → uX, reduceOr → uO
open Int renaming reduceMod → vR, reduceDiv → vD, reduceLT → vL, reduceLE → vK, reduceEq → vE, reduceAdd → vA, reduceMul → vM, reduceToNat → vT, reduceSub → vS
set_option linter.unusedSimpArgs false
set_option linter.unusedVariables false
set_option maxRecDepth 10000
/-- picks that are handed in -/
def PickA (h : Heap) (u : AV) (l : List Nat) : Prop :=
  (l = [] ∧ (u = .nilslice ∨ (∃ q o n, u = .slice q o 0 n) ∨ ∃ a, u = .zslice a)) ∨ ∃ (K o n : Nat) (cells : List AV) (ext : Nat) (ro : Bool), l ≠ [] ∧ u = .slice K o l.length n ∧ K < h.next ∧ h.get K = some (.cells cells ext ro) ∧ cutE o l.length cells = some (B l)
theorem okv_z (a : Addr) : Aw.okv (.zslice a) = some (.zslice a) := rfl
theorem same_z (a : Addr) : AV.same (.zslice a) (.zslice a) = true := by simp [AV.same, scSame]
theorem PickA.ok {h : Heap} {u : AV} {l : List Nat} (x : PickA h u l) : okv u = some u ∧ isSc u = true ∧ AV.same u u = true := by
  rcases x with ⟨_, rfl | ⟨q, o, n, rfl⟩ | ⟨a, rfl⟩⟩ | ⟨K, o, n, cs, ext, ro, _, rfl, _⟩
  · exact ⟨rfl, rfl, rfl⟩
  · exact ⟨rfl, rfl, same_slice ..⟩
  · exact ⟨rfl, rfl, same_z a⟩
  · exact ⟨rfl, rfl, same_slice ..⟩
theorem PickA.keep {h h' : Heap} {u : AV} {l : List Nat} (x : PickA h u l) (k : Keeps h h') : PickA h' u l := by
  rcases x with x | ⟨K, o, n, cs, ext, ro, h0, rfl, h1, h2, h3⟩
  · exact .inl x
  · exact .inr ⟨K, o, n, cs, ext, ro, h0, rfl, Nat.lt_of_lt_of_le h1 k.1, (k.2 _ h1).trans h2, h3⟩
theorem nq40z (a : Addr) : binE Try.prog .eql 40 (.zslice a) .nilslice = some (.bool false) := by kernel_rfl
theorem clone_b (d : Nat) (h : Heap) (u : AV) (l : List Nat) (hl : l.length ≤ 140737488351232) (x : PickA h u l) : G (callD env (d + 1) 79 [u] h) fun v h' => Keeps h h' ∧ ((l = [] ∧ (v = .nilslice ∨ ∃ q o n, v = .slice q o 0 n)) ∨ ∃ K, v = .eslice K 0 0 l.length ∧ h.next ≤ K ∧ K < h'.next ∧ h'.get K = some (.cells (B l) 1 false)) := by
  generalize hX : (fun (v : AV) (h' : Heap) => Keeps h h' ∧ ((l = [] ∧ (v = .nilslice ∨ ∃ q o n, v = .slice q o 0 n)) ∨ ∃ K, v = .eslice K 0 0 l.length ∧ h.next ≤ K ∧ K < h'.next ∧ h'.get K = some (.cells (B l) 1 false))) = Q
  rcases x with ⟨h0, rfl | ⟨q, o, n, rfl⟩ | ⟨a, rfl⟩⟩ | ⟨K, o, n, cs, ext, ro, h0, rfl, h1, h2, h3⟩
  · rw [callD_run (E := env) [] (by kernel_rfl) Try.func79 rfl (by rw [Try.ntmps79]; simp) (by kernel_rfl)]; simp (maxSteps := 2000000) (implicitDefEqProofs := false) (disch := first | omega | (simp only [SD.down, uA, uL] <;> omega) | fail) only [Try.ntmps79, Try.results79, env_P, env_L, nn40, TA.down, TL.down, same_nilslice, resE, oneV, ↓reduceIte, reduceCtorEq, uB, uE, uL, uA, uM, uS, uN, uX, uO, vR, vD, vL, vK, vE, vA, vM, vT, vS]
    subst hX
    exact G.ok ⟨.refl _, .inl ⟨h0, .inl rfl⟩⟩
  · have ea : ∀ k o' H, appE Try.prog 40 (.slice k o' 0 0) (.slice q o 0 n) H = some (.slice k o' 0 0, H) := fun k o' H => app_00 el40 _ rfl (fun K => rfl)
    rw [callD_run (E := env) [] (by kernel_rfl) Try.func79 rfl (by rw [Try.ntmps79]; simp) (by kernel_rfl)]; simp (maxSteps := 2000000) (implicitDefEqProofs := false) (disch := first | omega | (simp only [SD.down, uA, uL] <;> omega) | fail) only [Try.ntmps79, Try.results79, env_P, env_L, nq40, b040, cls_append, ap40, ea, TA.down, TL.down, same_nilslice, resE, oneV, ↓reduceIte, reduceCtorEq, uB, uE, uL, uA, uM, uS, uN, uX, uO, vR, vD, vL, vK, vE, vA, vM, vT, vS]
    subst hX
    exact G.ok ⟨⟨by simp (maxSteps := 2000000) (implicitDefEqProofs := false) (disch := first | omega | (simp only [SD.down, uA, uL] <;> omega) | fail) only [TA.down, TL.down, same_nilslice, resE, oneV, ↓reduceIte, reduceCtorEq, uB, uE, uL, uA, uM, uS, uN, uX, uO, vR, vD, vL, vK, vE, vA, vM, vT, vS]; omega, fun j hj => by simp (maxSteps := 2000000) (implicitDefEqProofs := false) (disch := first | omega | (simp only [SD.down, uA, uL] <;> omega) | fail) only [TA.down, TL.down, same_nilslice, resE, oneV, ↓reduceIte, reduceCtorEq, uB, uE, uL, uA, uM, uS, uN, uX, uO, vR, vD, vL, vK, vE, vA, vM, vT, vS]⟩, .inl ⟨h0, .inr ⟨_, _, _, rfl⟩⟩⟩
  · have ea : ∀ k o' H, appE Try.prog 40 (.slice k o' 0 0) (.zslice a) H = some (.slice k o' 0 0, H) := fun k o' H => app_00 el40 _ rfl (fun K => rfl)
    rw [callD_run (E := env) [] (by kernel_rfl) Try.func79 rfl (by rw [Try.ntmps79]; simp) (by kernel_rfl)]; simp (maxSteps := 2000000) (implicitDefEqProofs := false) (disch := first | omega | (simp only [SD.down, uA, uL] <;> omega) | fail) only [Try.ntmps79, Try.results79, env_P, env_L, nq40z, same_z, okv_z, b040, cls_append, ap40, ea, TA.down, TL.down, same_nilslice, resE, oneV, ↓reduceIte, reduceCtorEq, uB, uE, uL, uA, uM, uS, uN, uX, uO, vR, vD, vL, vK, vE, vA, vM, vT, vS]
    subst hX
    exact G.ok ⟨⟨by simp (maxSteps := 2000000) (implicitDefEqProofs := false) (disch := first | omega | (simp only [SD.down, uA, uL] <;> omega) | fail) only [TA.down, TL.down, same_nilslice, resE, oneV, ↓reduceIte, reduceCtorEq, uB, uE, uL, uA, uM, uS, uN, uX, uO, vR, vD, vL, vK, vE, vA, vM, vT, vS]; omega, fun j hj => by simp (maxSteps := 2000000) (implicitDefEqProofs := false) (disch := first | omega | (simp only [SD.down, uA, uL] <;> omega) | fail) only [TA.down, TL.down, same_nilslice, resE, oneV, ↓reduceIte, reduceCtorEq, uB, uE, uL, uA, uM, uS, uN, uX, uO, vR, vD, vL, vK, vE, vA, vM, vT, vS]⟩, .inl ⟨h0, .inr ⟨_, _, _, rfl⟩⟩⟩
  · obtain ⟨m, hm⟩ : ∃ m, l.length = m + 1 := ⟨l.length - 1, by have := List.length_pos_iff.2 h0; omega⟩
    have hq' : (h.new (.cells [] 0 false)).get K = some (.cells cs ext ro) := by simp (maxSteps := 2000000) (implicitDefEqProofs := false) (disch := first | omega | (simp only [SD.down, uA, uL] <;> omega) | fail) only [TA.down, TL.down, same_nilslice, resE, oneV, ↓reduceIte, reduceCtorEq, uB, uE, uL, uA, uM, uS, uN, uX, uO, vR, vD, vL, vK, vE, vA, vM, vT, vS]; exact h2
    have hby : ((Try.prog.info? 5).getD default).bytes = 1 := by kernel_rfl
    have hsm : Nat.ble ((m + 1 + 1) * (0 + 2) * (((Try.prog.info? 5).getD default).bytes + 1)) (capRoom 0 ((Try.prog.info? 5).getD default).bytes) = true := by
      rw [hby]
      apply Nat.ble_eq_true_of_le
      have : capRoom 0 1 = 562949953420512 := rfl
      omega
    have ea := fun k o' => app_capB (P := Try.prog) (h := h.new (.cells [] 0 false)) (k := k) (o := o') (c := n) (n := m) el40 hsm hq' (by rw [Nat.mul_one, ← hm]; exact h3) (by rw [B_len, hm]; omega) (allSc_B l)
    rw [hm] at hX ⊢
    rw [callD_run (E := env) [] (by kernel_rfl) Try.func79 rfl (by rw [Try.ntmps79]; simp) (by kernel_rfl)]; simp (maxSteps := 2000000) (implicitDefEqProofs := false) (disch := first | omega | (simp only [SD.down, uA, uL] <;> omega) | fail) only [Try.ntmps79, Try.results79, env_P, env_L, nq40, b040, cls_append, ap40, ea, TA.down, TL.down, same_nilslice, resE, oneV, ↓reduceIte, reduceCtorEq, uB, uE, uL, uA, uM, uS, uN, uX, uO, vR, vD, vL, vK, vE, vA, vM, vT, vS]
    subst hX
    exact G.ok ⟨⟨by simp (maxSteps := 2000000) (implicitDefEqProofs := false) (disch := first | omega | (simp only [SD.down, uA, uL] <;> omega) | fail) only [TA.down, TL.down, same_nilslice, resE, oneV, ↓reduceIte, reduceCtorEq, uB, uE, uL, uA, uM, uS, uN, uX, uO, vR, vD, vL, vK, vE, vA, vM, vT, vS]; omega, fun j hj => by simp (maxSteps := 2000000) (implicitDefEqProofs := false) (disch := first | omega | (simp only [SD.down, uA, uL] <;> omega) | fail) only [TA.down, TL.down, same_nilslice, resE, oneV, ↓reduceIte, reduceCtorEq, uB, uE, uL, uA, uM, uS, uN, uX, uO, vR, vD, vL, vK, vE, vA, vM, vT, vS]⟩, .inr ⟨_, rfl, by omega, by simp (maxSteps := 2000000) (implicitDefEqProofs := false) (disch := first | omega | (simp only [SD.down, uA, uL] <;> omega) | fail) only [TA.down, TL.down, same_nilslice, resE, oneV, ↓reduceIte, reduceCtorEq, uB, uE, uL, uA, uM, uS, uN, uX, uO, vR, vD, vL, vK, vE, vA, vM, vT, vS]; omega, by simp (maxSteps := 2000000) (implicitDefEqProofs := false) (disch := first | omega | (simp only [SD.down, uA, uL] <;> omega) | fail) only [TA.down, TL.down, same_nilslice, resE, oneV, ↓reduceIte, reduceCtorEq, uB, uE, uL, uA, uM, uS, uN, uX, uO, vR, vD, vL, vK, vE, vA, vM, vT, vS]⟩⟩
/-- steps that are handed in -/
def StA (h : Heap) (v : AV) (l : List Stp) : Prop :=
  (l = [] ∧ (v = .nilslice ∨ ∃ q o n, v = .slice q o 0 n)) ∨ ∃ (K : Nat) (vs : List AV) (junk : List AV) (ext : Nat) (ro : Bool), l ≠ [] ∧ ((∃ n, v = .slice K 0 l.length n) ∨ v = .eslice K 0 0 l.length) ∧ K < h.next ∧ vs.length = l.length ∧ h.get K = some (.cells (stpsC (l.zip vs) ++ junk) ext ro) ∧ ∀ (i : Nat) (s : Stp) (u : AV), l[i]? = some s → vs[i]? = some u → PickA h u s.picks
theorem StA.keep {h h' : Heap} {v : AV} {l : List Stp} (x : StA h v l) (k : Keeps h h') : StA h' v l := by
  rcases x with x | ⟨K, vs, junk, ext, ro, h0, hv, h1, h2, h3, h4⟩
  · exact .inl x
  · exact .inr ⟨K, vs, junk, ext, ro, h0, hv, Nat.lt_of_lt_of_le h1 k.1, h2, (k.2 _ h1).trans h3, fun i s u a b => (h4 i s u a b).keep k⟩
theorem stps_len {l : List Stp} {vs : List AV} (hl : ∀ s ∈ l, s.data.length = 64) (hv : vs.length = l.length) : (stpsC (l.zip vs)).length = l.length * 70 := by
  have := flat_len (fun x : Stp × AV => x.1.C x.2) 70 (l.zip vs) (fun x hx => x.1.C_len x.2 (hl _ (List.of_mem_zip hx).1))
  rw [List.length_zip, hv, Nat.min_self] at this
  exact this
theorem stps_sc {l : List Stp} {vs : List AV} (hu : ∀ u ∈ vs, isSc u = true) : allSc (stpsC (l.zip vs)) = true := by
  induction l generalizing vs with
  | nil => rfl
  | cons s l ih =>
    cases vs with
    | nil => rfl
    | cons u vs =>
      show allSc (s.C u ++ stpsC (l.zip vs)) = true
      exact allSc_app (s.C_sc u (hu u (by simp))) (ih fun x hx => hu x (List.mem_cons_of_mem _ hx))
theorem nq43e (q o l c : Nat) : binE Try.prog .eql 43 (.eslice q o l c) .nilslice = some (.bool false) := by kernel_rfl
theorem clone_st (d : Nat) (h : Heap) (v : AV) (l : List Stp) (hl : ∀ s ∈ l, s.data.length = 64) (hn : l.length < 4000) (x : StA h v l) : G (callD env (d + 1) 78 [v] h) fun w h' => Keeps h h' ∧ ((l = [] ∧ (w = .nilslice ∨ ∃ q o n, w = .slice q o 0 n)) ∨ ∃ (K : Nat) (vs : List AV), l ≠ [] ∧ w = .eslice K 0 0 l.length ∧ h.next ≤ K ∧ K < h'.next ∧ vs.length = l.length ∧ h'.get K = some (.cells (stpsC (l.zip vs)) 70 false) ∧ ∀ (i : Nat) (s : Stp) (u : AV), l[i]? = some s → vs[i]? = some u → PickA h u s.picks) := by
  generalize hX : (fun (w : AV) (h' : Heap) => Keeps h h' ∧ ((l = [] ∧ (w = .nilslice ∨ ∃ q o n, w = .slice q o 0 n)) ∨ ∃ (K : Nat) (vs : List AV), l ≠ [] ∧ w = .eslice K 0 0 l.length ∧ h.next ≤ K ∧ K < h'.next ∧ vs.length = l.length ∧ h'.get K = some (.cells (stpsC (l.zip vs)) 70 false) ∧ ∀ (i : Nat) (s : Stp) (u : AV), l[i]? = some s → vs[i]? = some u → PickA h u s.picks)) = Q
  rcases x with ⟨h0, rfl | ⟨q, o, n, rfl⟩⟩ | ⟨K, vs, junk, ext, ro, h0, hv, h1, h2, h3, h4⟩
  · rw [callD_run (E := env) [] (by kernel_rfl) Try.func78 rfl (by rw [Try.ntmps78]; simp) (by kernel_rfl)]; simp (maxSteps := 2000000) (implicitDefEqProofs := false) (disch := first | omega | (simp only [SD.down, uA, uL] <;> omega) | fail) only [Try.ntmps78, Try.results78, env_P, env_L, nn43, TA.down, TL.down, same_nilslice, resE, oneV, ↓reduceIte, reduceCtorEq, uB, uE, uL, uA, uM, uS, uN, uX, uO, vR, vD, vL, vK, vE, vA, vM, vT, vS]
    subst hX
    exact G.ok ⟨.refl _, .inl ⟨h0, .inl rfl⟩⟩
  · have ea : ∀ k o' H, appE Try.prog 43 (.slice k o' 0 0) (.slice q o 0 n) H = some (.slice k o' 0 0, H) := fun k o' H => app_00 el43 _ rfl (fun K => rfl)
    rw [callD_run (E := env) [] (by kernel_rfl) Try.func78 rfl (by rw [Try.ntmps78]; simp) (by kernel_rfl)]; simp (maxSteps := 2000000) (implicitDefEqProofs := false) (disch := first | omega | (simp only [SD.down, uA, uL] <;> omega) | fail) only [Try.ntmps78, Try.results78, env_P, env_L, nq43, b043, cls_append, ap43, ea, TA.down, TL.down, same_nilslice, resE, oneV, ↓reduceIte, reduceCtorEq, uB, uE, uL, uA, uM, uS, uN, uX, uO, vR, vD, vL, vK, vE, vA, vM, vT, vS]
    subst hX
    exact G.ok ⟨⟨by simp (maxSteps := 2000000) (implicitDefEqProofs := false) (disch := first | omega | (simp only [SD.down, uA, uL] <;> omega) | fail) only [TA.down, TL.down, same_nilslice, resE, oneV, ↓reduceIte, reduceCtorEq, uB, uE, uL, uA, uM, uS, uN, uX, uO, vR, vD, vL, vK, vE, vA, vM, vT, vS]; omega, fun j hj => by simp (maxSteps := 2000000) (implicitDefEqProofs := false) (disch := first | omega | (simp only [SD.down, uA, uL] <;> omega) | fail) only [TA.down, TL.down, same_nilslice, resE, oneV, ↓reduceIte, reduceCtorEq, uB, uE, uL, uA, uM, uS, uN, uX, uO, vR, vD, vL, vK, vE, vA, vM, vT, vS]⟩, .inl ⟨h0, .inr ⟨_, _, _, rfl⟩⟩⟩
  · obtain ⟨m, hm⟩ : ∃ m, l.length = m + 1 := ⟨l.length - 1, by have := List.length_pos_iff.2 h0; omega⟩
    have hq' : (h.new (.cells [] 0 false)).get K = some (.cells (stpsC (l.zip vs) ++ junk) ext ro) := by simp (maxSteps := 2000000) (implicitDefEqProofs := false) (disch := first | omega | (simp only [SD.down, uA, uL] <;> omega) | fail) only [TA.down, TL.down, same_nilslice, resE, oneV, ↓reduceIte, reduceCtorEq, uB, uE, uL, uA, uM, uS, uN, uX, uO, vR, vD, vL, vK, vE, vA, vM, vT, vS]; exact h3
    have hll := stps_len hl h2
    have hsc : allSc (stpsC (l.zip vs)) = true := stps_sc fun u hu => by
      obtain ⟨i, hi⟩ := List.mem_iff_getElem?.1 hu
      have hlt := (List.getElem?_eq_some_iff.1 hi).1
      exact (h4 i _ u (List.getElem?_eq_getElem (by omega)) hi).ok.2.1
    have hcut : cutE 0 ((m + 1) * (69 + 1)) (stpsC (l.zip vs) ++ junk) = some (stpsC (l.zip vs)) := by
      rw [cutE_of (by rw [List.length_append, hll, hm]; omega), List.drop_zero, List.take_append_of_le_length (by rw [hll, hm]; omega), List.take_of_length_le (by rw [hll, hm]; omega)]
    rcases hv with ⟨n, rfl⟩ | rfl
    · have ea := fun k o' => app_cap (P := Try.prog) (h := h.new (.cells [] 0 false)) (k := k) (o := o') (c := n) (n := m) el43 (by omega) hq' hcut (by rw [hll, hm]) hsc
      rw [hm] at hX ⊢
      rw [callD_run (E := env) [] (by kernel_rfl) Try.func78 rfl (by rw [Try.ntmps78]; simp) (by kernel_rfl)]; simp (maxSteps := 2000000) (implicitDefEqProofs := false) (disch := first | omega | (simp only [SD.down, uA, uL] <;> omega) | fail) only [Try.ntmps78, Try.results78, env_P, env_L, nq43, b043, cls_append, ap43, ea, TA.down, TL.down, same_nilslice, resE, oneV, ↓reduceIte, reduceCtorEq, uB, uE, uL, uA, uM, uS, uN, uX, uO, vR, vD, vL, vK, vE, vA, vM, vT, vS]
      subst hX
      exact G.ok ⟨⟨by simp (maxSteps := 2000000) (implicitDefEqProofs := false) (disch := first | omega | (simp only [SD.down, uA, uL] <;> omega) | fail) only [TA.down, TL.down, same_nilslice, resE, oneV, ↓reduceIte, reduceCtorEq, uB, uE, uL, uA, uM, uS, uN, uX, uO, vR, vD, vL, vK, vE, vA, vM, vT, vS]; omega, fun j hj => by simp (maxSteps := 2000000) (implicitDefEqProofs := false) (disch := first | omega | (simp only [SD.down, uA, uL] <;> omega) | fail) only [TA.down, TL.down, same_nilslice, resE, oneV, ↓reduceIte, reduceCtorEq, uB, uE, uL, uA, uM, uS, uN, uX, uO, vR, vD, vL, vK, vE, vA, vM, vT, vS]⟩, .inr ⟨_, vs, h0, rfl, by omega, by simp (maxSteps := 2000000) (implicitDefEqProofs := false) (disch := first | omega | (simp only [SD.down, uA, uL] <;> omega) | fail) only [TA.down, TL.down, same_nilslice, resE, oneV, ↓reduceIte, reduceCtorEq, uB, uE, uL, uA, uM, uS, uN, uX, uO, vR, vD, vL, vK, vE, vA, vM, vT, vS]; omega, by omega, by simp (maxSteps := 2000000) (implicitDefEqProofs := false) (disch := first | omega | (simp only [SD.down, uA, uL] <;> omega) | fail) only [TA.down, TL.down, same_nilslice, resE, oneV, ↓reduceIte, reduceCtorEq, uB, uE, uL, uA, uM, uS, uN, uX, uO, vR, vD, vL, vK, vE, vA, vM, vT, vS], h4⟩⟩
    · have ea := fun k o' => app_capE (P := Try.prog) (h := h.new (.cells [] 0 false)) (k := k) (o := o') (i := 0) (n := m) el43 (by omega) hq' hcut (by rw [hll, hm]) hsc
      rw [hm] at hX ⊢
      rw [callD_run (E := env) [] (by kernel_rfl) Try.func78 rfl (by rw [Try.ntmps78]; simp) (by kernel_rfl)]; simp (maxSteps := 2000000) (implicitDefEqProofs := false) (disch := first | omega | (simp only [SD.down, uA, uL] <;> omega) | fail) only [Try.ntmps78, Try.results78, env_P, env_L, nq43e, b043, cls_append, ap43, ea, TA.down, TL.down, same_nilslice, resE, oneV, ↓reduceIte, reduceCtorEq, uB, uE, uL, uA, uM, uS, uN, uX, uO, vR, vD, vL, vK, vE, vA, vM, vT, vS]
      subst hX
      exact G.ok ⟨⟨by simp (maxSteps := 2000000) (implicitDefEqProofs := false) (disch := first | omega | (simp only [SD.down, uA, uL] <;> omega) | fail) only [TA.down, TL.down, same_nilslice, resE, oneV, ↓reduceIte, reduceCtorEq, uB, uE, uL, uA, uM, uS, uN, uX, uO, vR, vD, vL, vK, vE, vA, vM, vT, vS]; omega, fun j hj => by simp (maxSteps := 2000000) (implicitDefEqProofs := false) (disch := first | omega | (simp only [SD.down, uA, uL] <;> omega) | fail) only [TA.down, TL.down, same_nilslice, resE, oneV, ↓reduceIte, reduceCtorEq, uB, uE, uL, uA, uM, uS, uN, uX, uO, vR, vD, vL, vK, vE, vA, vM, vT, vS]⟩, .inr ⟨_, vs, h0, rfl, by omega, by simp (maxSteps := 2000000) (implicitDefEqProofs := false) (disch := first | omega | (simp only [SD.down, uA, uL] <;> omega) | fail) only [TA.down, TL.down, same_nilslice, resE, oneV, ↓reduceIte, reduceCtorEq, uB, uE, uL, uA, uM, uS, uN, uX, uO, vR, vD, vL, vK, vE, vA, vM, vT, vS]; omega, by omega, by simp (maxSteps := 2000000) (implicitDefEqProofs := false) (disch := first | omega | (simp only [SD.down, uA, uL] <;> omega) | fail) only [TA.down, TL.down, same_nilslice, resE, oneV, ↓reduceIte, reduceCtorEq, uB, uE, uL, uA, uM, uS, uN, uX, uO, vR, vD, vL, vK, vE, vA, vM, vT, vS], h4⟩⟩
end Go.Proofs.Ytfjcfjfgamajkaa
namespace Go.Proofs.Ytfjcfjfgamajkaa
open Go Go.Ai Go.Aw Go.Proofs
open Nat renaming reduceBEq → uB, reduceEqDiff → uE, reduceLT → uL, reduceAdd → uA, reduceMul → uM, reduceSub → uS, reduceAnd → uN, reduceXor → uX, reduceOr → uO
open Int renaming reduceMod → vR, reduceDiv → vD, reduceLT → vL, reduceLE → vK, reduceEq → vE, reduceAdd → vA, reduceMul → vM, reduceToNat → vT, reduceSub → vS
set_option linter.unusedSimpArgs false
set_option linter.unusedVariables false
set_option maxRecDepth 10000
theorem flat_set {α : Type} (f : α → List AV) (n : Nat) : ∀ (l : List α) (k j : Nat) (x x' : α) (v : AV), (∀ x ∈ l, (f x).length = n) → l[k]? = some x → j < n → f x' = (f x).set j v → (l.flatMap f).set (k * n + j) v = (l.set k x').flatMap f
  | [], k, j, x, x', v, _, hk, _, _ => by simp at hk
  | y :: l, k, j, x, x', v, h, hk, hj, hx => by
    have hy := h y (by simp)
    rw [List.flatMap_cons]
    cases k with
    | zero =>
      simp at hk
      subst hk
      rw [Nat.zero_mul, Nat.zero_add, List.set_append_left _ _ (by omega), List.set_cons_zero, List.flatMap_cons, hx]
    | succ k =>
      have ih := flat_set f n l k j x x' v (fun z hz => h z (List.mem_cons_of_mem _ hz)) (by simpa using hk) hj hx
      rw [List.set_append_right _ _ (by rw [hy, Nat.succ_mul]; omega), List.set_cons_succ, List.flatMap_cons, ← ih, hy]
      congr 2
      rw [Nat.succ_mul]; omega
theorem zip_set {α : Type} {β : Type} : ∀ (l : List α) (ws : List β) (k : Nat) (s : α) (v : β), l[k]? = some s → (l.zip ws).set k (s, v) = l.zip (ws.set k v)
  | [], ws, k, s, v, h => by simp at h
  | a :: l, [], k, s, v, h => by simp
  | a :: l, w :: ws, 0, s, v, h => by simp at h; subst h; rfl
  | a :: l, w :: ws, k + 1, s, v, h => by
    simp only [List.zip_cons_cons, List.set_cons_succ]
    rw [zip_set l ws k s v (by simpa using h)]
def PkN (n : Nat) (hh : Heap) (K : Nat) (u : AV) (l : List Nat) : Prop :=
  (l = [] ∧ (u = .nilslice ∨ ∃ q o n, u = .slice q o 0 n)) ∨ ∃ K', u = .eslice K' 0 0 l.length ∧ n ≤ K' ∧ K' < hh.next ∧ K' ≠ K ∧ hh.get K' = some (.cells (B l) 1 false)
theorem PkN.sc {n : Nat} {hh : Heap} {K : Nat} {u : AV} {l : List Nat} (x : PkN n hh K u l) : isSc u = true := by
  rcases x with ⟨_, rfl | ⟨q, o, n, rfl⟩⟩ | ⟨K', rfl, _⟩ <;> rfl
theorem Stp.C_set (s : Stp) (u v : AV) (hs : s.data.length = 64) : s.C v = (s.C u).set 69 v := by
  simp only [Stp.C, List.cons_append, List.nil_append, List.set_cons_succ]
  rw [List.set_append_right _ _ (by rw [B_len, hs]; omega), B_len, hs]
  rfl
set_option maxHeartbeats 1000000 in
theorem bnew_g (d : Nat) (h : Heap) (a b c k a1 a2 b1 b2 : Nat) (sv : AV) (l : List Stp) (hsd : ∀ s ∈ l, s.data.length = 64) (hsn : l.length < 4000) (hpk : ∀ s ∈ l, s.picks.length ≤ 140737488351232) (hst : StA h sv l) (hcn : c < h.next) (hkn : k < h.next) (han : a < h.next) (hbn : b < h.next) (hl : h.get k = some (.cells [.ptr a 0, .ptr b 0] 0 false)) (ha : h.get a = some (.cells (memC a1 a2) 0 false)) (hb : h.get b = some (.cells (memC b1 b2) 0 false)) (hc : h.get c = some (.cells [.slice (c - 1) 0 1 1] 0 false)) (hc1 : h.get (c - 1) = some (.cells c33 0 false)) (kb : Nat) : G (callD env (d + 7) 39 [.slice k 0 2 2, .ptr c 0, sv] h) fun v h' => ∃ β Ms stv, v = .tup [.ptr β 0, .int .i64 0] ∧ h.next ≤ β ∧ h.next ≤ Ms ∧ β < h'.next ∧ Ms < h'.next ∧ β ≠ Ms ∧ h'.get β = some (.cells [.eslice Ms 0 0 2, .ptr c 0, stv, .bool false, .nilslice] 0 false) ∧ h'.get Ms = some (.cells [.ptr a 0, .ptr b 0] 1 false) ∧ Keeps h h' ∧ ∀ C : Col, (∀ j, h.next ≤ j → C j = kb) → StI h' C kb stv [β, Ms] l := by
  generalize hX : (fun (v : AV) (h' : Heap) => ∃ β Ms stv, v = .tup [.ptr β 0, .int .i64 0] ∧ h.next ≤ β ∧ h.next ≤ Ms ∧ β < h'.next ∧ Ms < h'.next ∧ β ≠ Ms ∧ h'.get β = some (.cells [.eslice Ms 0 0 2, .ptr c 0, stv, .bool false, .nilslice] 0 false) ∧ h'.get Ms = some (.cells [.ptr a 0, .ptr b 0] 1 false) ∧ Keeps h h' ∧ ∀ C : Col, (∀ j, h.next ≤ j → C j = kb) → StI h' C kb stv [β, Ms] l) = Q
  rw [callD_run (E := env) [] (by kernel_rfl) Try.func39 rfl (by rw [Try.ntmps39]; simp) (by kernel_rfl)]; simp (maxSteps := 2000000) (implicitDefEqProofs := false) (disch := first | omega | (simp only [SD.down, uA, uL] <;> omega) | fail) only [Try.ntmps39, Try.results39, env_P, env_L, c33_fold, c33_cut, c33_over, c33_len, c33_0, TA.down, TL.down, same_nilslice, resE, oneV, ↓reduceIte, reduceCtorEq, uB, uE, uL, uA, uM, uS, uN, uX, uO, vR, vD, vL, vK, vE, vA, vM, vT, vS]
  first | refine G.call (cread (d + 4) h c hcn hc hc1) ?_ | refine G.callC (cread (d + 4) h c hcn hc hc1) ?_ | refine G.callL (cread (d + 4) h c hcn hc hc1) ?_
  rintro v h1 ⟨rfl, k1⟩
  have n1 := k1.1
  simp (maxSteps := 2000000) (implicitDefEqProofs := false) (disch := first | omega | (simp only [SD.down, uA, uL] <;> omega) | fail) only [c33_fold, c33_cut, c33_over, c33_len, c33_0, TA.down, TL.down, same_nilslice, resE, oneV, ↓reduceIte, reduceCtorEq, uB, uE, uL, uA, uM, uS, uN, uX, uO, vR, vD, vL, vK, vE, vA, vM, vT, vS]
  rw [cfun (d + 1) _ a b k a1 a2 b1 b2 (by simp (maxSteps := 2000000) (implicitDefEqProofs := false) (disch := first | omega | (simp only [SD.down, uA, uL] <;> omega) | fail) only [TA.down, TL.down, same_nilslice, resE, oneV, ↓reduceIte, reduceCtorEq, uB, uE, uL, uA, uM, uS, uN, uX, uO, vR, vD, vL, vK, vE, vA, vM, vT, vS]; rw [k1.2 _ hkn]; exact hl) (by simp (maxSteps := 2000000) (implicitDefEqProofs := false) (disch := first | omega | (simp only [SD.down, uA, uL] <;> omega) | fail) only [TA.down, TL.down, same_nilslice, resE, oneV, ↓reduceIte, reduceCtorEq, uB, uE, uL, uA, uM, uS, uN, uX, uO, vR, vD, vL, vK, vE, vA, vM, vT, vS]; rw [k1.2 _ han]; exact ha) (by simp (maxSteps := 2000000) (implicitDefEqProofs := false) (disch := first | omega | (simp only [SD.down, uA, uL] <;> omega) | fail) only [TA.down, TL.down, same_nilslice, resE, oneV, ↓reduceIte, reduceCtorEq, uB, uE, uL, uA, uM, uS, uN, uX, uO, vR, vD, vL, vK, vE, vA, vM, vT, vS]; rw [k1.2 _ hbn]; exact hb)]
  have svok : okv sv = some sv := by
    rcases hst with ⟨_, rfl | ⟨q, o, n, rfl⟩⟩ | ⟨K, vs, junk, ext, ro, _, ⟨n, rfl⟩ | rfl, _⟩ <;> rfl
  simp (maxSteps := 2000000) (implicitDefEqProofs := false) (disch := first | omega | (simp only [SD.down, uA, uL] <;> omega) | fail) only [c33_fold, c33_cut, c33_over, c33_len, c33_0, svok, TA.down, TL.down, same_nilslice, resE, oneV, ↓reduceIte, reduceCtorEq, uB, uE, uL, uA, uM, uS, uN, uX, uO, vR, vD, vL, vK, vE, vA, vM, vT, vS]
  have kp0 : Keeps h ((h1.new (Blk.cells c33 0 false)).put h1.next (some (Blk.cells c33 0 false))) := ⟨by simp (maxSteps := 2000000) (implicitDefEqProofs := false) (disch := first | omega | (simp only [SD.down, uA, uL] <;> omega) | fail) only [TA.down, TL.down, same_nilslice, resE, oneV, ↓reduceIte, reduceCtorEq, uB, uE, uL, uA, uM, uS, uN, uX, uO, vR, vD, vL, vK, vE, vA, vM, vT, vS]; omega, fun j hj => by simp (maxSteps := 2000000) (implicitDefEqProofs := false) (disch := first | omega | (simp only [SD.down, uA, uL] <;> omega) | fail) only [TA.down, TL.down, same_nilslice, resE, oneV, ↓reduceIte, reduceCtorEq, uB, uE, uL, uA, uM, uS, uN, uX, uO, vR, vD, vL, vK, vE, vA, vM, vT, vS]; exact k1.2 j hj⟩
  generalize (h1.new (Blk.cells c33 0 false)).put h1.next (some (Blk.cells c33 0 false)) = g0 at kp0 ⊢
  first | refine G.call (clone_st (d + 5) g0 sv l hsd hsn (hst.keep kp0)) ?_ | refine G.callC (clone_st (d + 5) g0 sv l hsd hsn (hst.keep kp0)) ?_ | refine G.callL (clone_st (d + 5) g0 sv l hsd hsn (hst.keep kp0)) ?_
  rintro v h2 ⟨k2, hcs⟩
  have hlen : lenE Try.prog 43 v = some (.int .i64 (l.length : Int)) := by
    rcases hcs with ⟨rfl, rfl | ⟨q, o, n, rfl⟩⟩ | ⟨K, vs, _, rfl, _⟩
    · exact lnn43
    · exact lns43 ..
    · exact lne43 ..
  have vok : okv v = some v := by
    rcases hcs with ⟨rfl, rfl | ⟨q, o, n, rfl⟩⟩ | ⟨K, vs, _, rfl, _⟩ <;> rfl
  have vcl : v.cells = [v] := by
    rcases hcs with ⟨rfl, rfl | ⟨q, o, n, rfl⟩⟩ | ⟨K, vs, _, rfl, _⟩ <;> rfl
  have vsc : isSc v = true := by
    rcases hcs with ⟨rfl, rfl | ⟨q, o, n, rfl⟩⟩ | ⟨K, vs, _, rfl, _⟩ <;> rfl
  simp (maxSteps := 2000000) (implicitDefEqProofs := false) (disch := first | omega | (simp only [SD.down, uA, uL] <;> omega) | fail) only [hlen, vok, TA.down, TL.down, same_nilslice, resE, oneV, ↓reduceIte, reduceCtorEq, uB, uE, uL, uA, uM, uS, uN, uX, uO, vR, vD, vL, vK, vE, vA, vM, vT, vS]
  rw [run_loop]
  have kp2 : Keeps h h2 := kp0.trans k2
  refine loop_ind (fun j σ hh => ∃ q, q + j = l.length ∧ σ 0 = .slice k 0 2 2 ∧ σ 1 = .ptr c 0 ∧ σ 10 = v ∧ σ 34 = .int .i64 (l.length : Int) ∧ σ 35 = .int .i64 (q : Int) ∧ Keeps g0 hh ∧ ((l = [] ∧ (v = .nilslice ∨ ∃ q o n, v = .slice q o 0 n)) ∨ ∃ (K : Nat) (ws : List AV), v = .eslice K 0 0 l.length ∧ g0.next ≤ K ∧ K < hh.next ∧ ws.length = l.length ∧ hh.get K = some (.cells (stpsC (l.zip ws)) 70 false) ∧ ∀ (i : Nat) (s : Stp) (u : AV), l[i]? = some s → ws[i]? = some u → (i < q → PkN h.next hh K u s.picks) ∧ (q ≤ i → PickA g0 u s.picks))) ?_ ?_ l.length _ _ _ (by simp; omega) ?_
  · rintro mm σ hh ⟨q, hq, s0, s1, s10, s34, s35, kg, hst2⟩
    have kh := kp0.trans kg
    obtain rfl : q = l.length := by omega
    simp (maxSteps := 2000000) (implicitDefEqProofs := false) (disch := first | omega | (simp only [SD.down, uA, uL] <;> omega) | fail) only [run_it, s0, s1, s10, s34, s35, env_P, env_L, TA.down, TL.down, same_nilslice, resE, oneV, ↓reduceIte, reduceCtorEq, uB, uE, uL, uA, uM, uS, uN, uX, uO, vR, vD, vL, vK, vE, vA, vM, vT, vS]
    have kn := kh.1
    have q1 := cl80 (d + 5) hh a b k (by omega) ((kh.2 _ hkn).trans hl)
    simp (maxSteps := 2000000) (implicitDefEqProofs := false) (disch := first | omega | (simp only [SD.down, uA, uL] <;> omega) | fail) only [q1, s0, s1, s10, s34, s35, vok, vcl, vsc, env_P, env_L, TA.down, TL.down, same_nilslice, resE, oneV, ↓reduceIte, reduceCtorEq, uB, uE, uL, uA, uM, uS, uN, uX, uO, vR, vD, vL, vK, vE, vA, vM, vT, vS]
    subst hX
    refine G.ok ⟨hh.next + 2, hh.next + 1, v, rfl, by omega, by omega, by simp (maxSteps := 2000000) (implicitDefEqProofs := false) (disch := first | omega | (simp only [SD.down, uA, uL] <;> omega) | fail) only [TA.down, TL.down, same_nilslice, resE, oneV, ↓reduceIte, reduceCtorEq, uB, uE, uL, uA, uM, uS, uN, uX, uO, vR, vD, vL, vK, vE, vA, vM, vT, vS]; omega, by simp (maxSteps := 2000000) (implicitDefEqProofs := false) (disch := first | omega | (simp only [SD.down, uA, uL] <;> omega) | fail) only [TA.down, TL.down, same_nilslice, resE, oneV, ↓reduceIte, reduceCtorEq, uB, uE, uL, uA, uM, uS, uN, uX, uO, vR, vD, vL, vK, vE, vA, vM, vT, vS]; omega, by omega, by simp (maxSteps := 2000000) (implicitDefEqProofs := false) (disch := first | omega | (simp only [SD.down, uA, uL] <;> omega) | fail) only [TA.down, TL.down, same_nilslice, resE, oneV, ↓reduceIte, reduceCtorEq, uB, uE, uL, uA, uM, uS, uN, uX, uO, vR, vD, vL, vK, vE, vA, vM, vT, vS], by simp (maxSteps := 2000000) (implicitDefEqProofs := false) (disch := first | omega | (simp only [SD.down, uA, uL] <;> omega) | fail) only [TA.down, TL.down, same_nilslice, resE, oneV, ↓reduceIte, reduceCtorEq, uB, uE, uL, uA, uM, uS, uN, uX, uO, vR, vD, vL, vK, vE, vA, vM, vT, vS], ⟨by simp (maxSteps := 2000000) (implicitDefEqProofs := false) (disch := first | omega | (simp only [SD.down, uA, uL] <;> omega) | fail) only [TA.down, TL.down, same_nilslice, resE, oneV, ↓reduceIte, reduceCtorEq, uB, uE, uL, uA, uM, uS, uN, uX, uO, vR, vD, vL, vK, vE, vA, vM, vT, vS]; omega, fun j hj => by simp (maxSteps := 2000000) (implicitDefEqProofs := false) (disch := first | omega | (simp only [SD.down, uA, uL] <;> omega) | fail) only [TA.down, TL.down, same_nilslice, resE, oneV, ↓reduceIte, reduceCtorEq, uB, uE, uL, uA, uM, uS, uN, uX, uO, vR, vD, vL, vK, vE, vA, vM, vT, vS]; exact kh.2 j hj⟩, fun C hC => ?_⟩
    rcases hst2 with ⟨e0, e1⟩ | ⟨K, ws, rfl, x1, x2, x3, x4, x5⟩
    · exact .inl ⟨e0, e1⟩
    · refine .inr ⟨K, ws, rfl, by simp (maxSteps := 2000000) (implicitDefEqProofs := false) (disch := first | omega | (simp only [SD.down, uA, uL] <;> omega) | fail) only [TA.down, TL.down, same_nilslice, resE, oneV, ↓reduceIte, reduceCtorEq, uB, uE, uL, uA, uM, uS, uN, uX, uO, vR, vD, vL, vK, vE, vA, vM, vT, vS]; omega, hC _ (by have := kp0.1; omega), fun e he => ?_, x3, by simp (maxSteps := 2000000) (implicitDefEqProofs := false) (disch := first | omega | (simp only [SD.down, uA, uL] <;> omega) | fail) only [TA.down, TL.down, same_nilslice, resE, oneV, ↓reduceIte, reduceCtorEq, uB, uE, uL, uA, uM, uS, uN, uX, uO, vR, vD, vL, vK, vE, vA, vM, vT, vS]; exact x4, fun i s u h1 h2 => ?_⟩
      · simp only [List.mem_cons, List.not_mem_nil, or_false] at he; omega
      · rcases (x5 i s u h1 h2).1 (List.getElem?_eq_some_iff.1 h1).1 with y | ⟨K', rfl, y1, y2, y3, y4⟩
        · exact .inl y
        · refine .inr ⟨K', rfl, by simp (maxSteps := 2000000) (implicitDefEqProofs := false) (disch := first | omega | (simp only [SD.down, uA, uL] <;> omega) | fail) only [TA.down, TL.down, same_nilslice, resE, oneV, ↓reduceIte, reduceCtorEq, uB, uE, uL, uA, uM, uS, uN, uX, uO, vR, vD, vL, vK, vE, vA, vM, vT, vS]; omega, hC _ y1, fun e he => ?_, by simp (maxSteps := 2000000) (implicitDefEqProofs := false) (disch := first | omega | (simp only [SD.down, uA, uL] <;> omega) | fail) only [TA.down, TL.down, same_nilslice, resE, oneV, ↓reduceIte, reduceCtorEq, uB, uE, uL, uA, uM, uS, uN, uX, uO, vR, vD, vL, vK, vE, vA, vM, vT, vS]; exact y4⟩
          simp only [List.mem_cons, List.not_mem_nil, or_false] at he; omega
  · rintro j mm σ hh ⟨q, hq, s0, s1, s10, s34, s35, kg, hst2⟩ ih
    have kh := kp0.trans kg
    have hql : q < l.length := by omega
    rcases hst2 with ⟨e0, _⟩ | ⟨K, ws, rfl, x1, x2, x3, x4, x5⟩
    · rw [e0] at hql; simp at hql
    obtain ⟨s, hs⟩ : ∃ s, l[q]? = some s := ⟨l[q]'hql, List.getElem?_eq_getElem hql⟩
    obtain ⟨u, hu⟩ : ∃ u, ws[q]? = some u := ⟨ws[q]'(by omega), List.getElem?_eq_getElem (by omega)⟩
    have hsl := hsd s (List.mem_of_getElem? hs)
    have hsp := hpk s (List.mem_of_getElem? hs)
    have hzip : (l.zip ws)[q]? = some (s, u) := by rw [List.getElem?_zip_eq_some]; exact ⟨hs, hu⟩
    have hzl : ∀ x ∈ l.zip ws, (x.1.C x.2).length = 70 := fun x hx => x.1.C_len x.2 (hsd _ (List.of_mem_zip hx).1)
    have hpu := (x5 q s u hs hu).2 (Nat.le_refl _)
    obtain ⟨uok, usc, usm⟩ := hpu.ok
    have h69 : (stpsC (l.zip ws))[q * 70 + 69]? = some u := by
      have := flat_get (fun x : Stp × AV => x.1.C x.2) 70 (l.zip ws) q 69 (s, u) hzl hzip (by omega)
      refine this.trans ?_
      show (B s.data ++ [u])[64]? = _
      rw [List.getElem?_append_right (by simp [B_len, hsl])]
      simp [B_len, hsl]
    have hll := stps_len hsd x3
    have hlt : q * 70 + 69 < (stpsC (l.zip ws)).length := by rw [hll]; omega
    simp (maxSteps := 2000000) (implicitDefEqProofs := false) (disch := first | omega | (simp only [SD.down, uA, uL] <;> omega) | fail) only [run_it, s0, s1, s10, s34, s35, x4, h69, uok, env_P, env_L, TA.down, TL.down, same_nilslice, resE, oneV, ↓reduceIte, reduceCtorEq, uB, uE, uL, uA, uM, uS, uN, uX, uO, vR, vD, vL, vK, vE, vA, vM, vT, vS]
    first | refine G.call (clone_b (d + 5) hh u s.picks hsp (hpu.keep kg)) ?_ | refine G.callC (clone_b (d + 5) hh u s.picks hsp (hpu.keep kg)) ?_ | refine G.callL (clone_b (d + 5) hh u s.picks hsp (hpu.keep kg)) ?_
    rintro v3 h3 ⟨k3, hv3⟩
    have hn3 := k3.1
    have gK := (k3.2 _ x2).trans x4
    have v3ok : okv v3 = some v3 ∧ isSc v3 = true ∧ v3.cells = [v3] := by
      rcases hv3 with ⟨_, rfl | ⟨q, o, n, rfl⟩⟩ | ⟨K', rfl, _⟩ <;> exact ⟨rfl, rfl, rfl⟩
    obtain ⟨w1, w2, w3⟩ := v3ok
    have eset : (stpsC (l.zip ws)).set (q * 70 + 69) v3 = stpsC (l.zip (ws.set q v3)) := by
      rw [← zip_set l ws q s v3 hs]
      exact flat_set (fun x : Stp × AV => x.1.C x.2) 70 (l.zip ws) q 69 (s, u) (s, v3) v3 hzl hzip (by omega) (s.C_set u v3 hsl)
    simp (maxSteps := 2000000) (implicitDefEqProofs := false) (disch := first | omega | (simp only [SD.down, uA, uL] <;> omega) | fail) only [s0, s1, s10, s34, s35, gK, w1, w2, w3, hlt, eset, env_P, env_L, TA.down, TL.down, same_nilslice, resE, oneV, ↓reduceIte, reduceCtorEq, uB, uE, uL, uA, uM, uS, uN, uX, uO, vR, vD, vL, vK, vE, vA, vM, vT, vS]
    have kfin : Keeps g0 (h3.put K (some (Blk.cells (stpsC (l.zip (ws.set q v3))) 70 false))) := ⟨by have := kg.1; simp (maxSteps := 2000000) (implicitDefEqProofs := false) (disch := first | omega | (simp only [SD.down, uA, uL] <;> omega) | fail) only [TA.down, TL.down, same_nilslice, resE, oneV, ↓reduceIte, reduceCtorEq, uB, uE, uL, uA, uM, uS, uN, uX, uO, vR, vD, vL, vK, vE, vA, vM, vT, vS]; omega, fun j hj => by
      have := kp0.1
      have e1 : j ≠ K := by omega
      simp (maxSteps := 2000000) (implicitDefEqProofs := false) (disch := first | omega | (simp only [SD.down, uA, uL] <;> omega) | fail) only [TA.down, TL.down, same_nilslice, resE, oneV, ↓reduceIte, reduceCtorEq, uB, uE, uL, uA, uM, uS, uN, uX, uO, vR, vD, vL, vK, vE, vA, vM, vT, vS]
      exact (k3.2 j (by have := kg.1; omega)).trans (kg.2 j hj)⟩
    refine ih _ _ ⟨q + 1, by omega, by simp (maxSteps := 2000000) (implicitDefEqProofs := false) (disch := first | omega | (simp only [SD.down, uA, uL] <;> omega) | fail) only [s0, TA.down, TL.down, same_nilslice, resE, oneV, ↓reduceIte, reduceCtorEq, uB, uE, uL, uA, uM, uS, uN, uX, uO, vR, vD, vL, vK, vE, vA, vM, vT, vS], by simp (maxSteps := 2000000) (implicitDefEqProofs := false) (disch := first | omega | (simp only [SD.down, uA, uL] <;> omega) | fail) only [s1, TA.down, TL.down, same_nilslice, resE, oneV, ↓reduceIte, reduceCtorEq, uB, uE, uL, uA, uM, uS, uN, uX, uO, vR, vD, vL, vK, vE, vA, vM, vT, vS], by simp (maxSteps := 2000000) (implicitDefEqProofs := false) (disch := first | omega | (simp only [SD.down, uA, uL] <;> omega) | fail) only [s10, TA.down, TL.down, same_nilslice, resE, oneV, ↓reduceIte, reduceCtorEq, uB, uE, uL, uA, uM, uS, uN, uX, uO, vR, vD, vL, vK, vE, vA, vM, vT, vS], by simp (maxSteps := 2000000) (implicitDefEqProofs := false) (disch := first | omega | (simp only [SD.down, uA, uL] <;> omega) | fail) only [s34, TA.down, TL.down, same_nilslice, resE, oneV, ↓reduceIte, reduceCtorEq, uB, uE, uL, uA, uM, uS, uN, uX, uO, vR, vD, vL, vK, vE, vA, vM, vT, vS], by simp (maxSteps := 2000000) (implicitDefEqProofs := false) (disch := first | omega | (simp only [SD.down, uA, uL] <;> omega) | fail) only [TA.down, TL.down, same_nilslice, resE, oneV, ↓reduceIte, reduceCtorEq, uB, uE, uL, uA, uM, uS, uN, uX, uO, vR, vD, vL, vK, vE, vA, vM, vT, vS], kfin, .inr ⟨K, ws.set q v3, rfl, x1, by simp (maxSteps := 2000000) (implicitDefEqProofs := false) (disch := first | omega | (simp only [SD.down, uA, uL] <;> omega) | fail) only [TA.down, TL.down, same_nilslice, resE, oneV, ↓reduceIte, reduceCtorEq, uB, uE, uL, uA, uM, uS, uN, uX, uO, vR, vD, vL, vK, vE, vA, vM, vT, vS]; omega, by rw [List.length_set]; exact x3, by simp (maxSteps := 2000000) (implicitDefEqProofs := false) (disch := first | omega | (simp only [SD.down, uA, uL] <;> omega) | fail) only [TA.down, TL.down, same_nilslice, resE, oneV, ↓reduceIte, reduceCtorEq, uB, uE, uL, uA, uM, uS, uN, uX, uO, vR, vD, vL, vK, vE, vA, vM, vT, vS], fun i s' u' h1 h2 => ?_⟩⟩
    rw [List.getElem?_set] at h2
    by_cases hiq : q = i
    · subst hiq
      rw [if_pos rfl, if_pos (by omega)] at h2
      cases h2
      rw [hs] at h1; cases h1
      refine ⟨fun _ => ?_, fun h => by omega⟩
      rcases hv3 with y | ⟨K', rfl, y1, y2, y3⟩
      · exact .inl y
      · have hkn := kh.1
        exact .inr ⟨K', rfl, by omega, by simp (maxSteps := 2000000) (implicitDefEqProofs := false) (disch := first | omega | (simp only [SD.down, uA, uL] <;> omega) | fail) only [TA.down, TL.down, same_nilslice, resE, oneV, ↓reduceIte, reduceCtorEq, uB, uE, uL, uA, uM, uS, uN, uX, uO, vR, vD, vL, vK, vE, vA, vM, vT, vS]; omega, by omega, by simp (maxSteps := 2000000) (implicitDefEqProofs := false) (disch := first | omega | (simp only [SD.down, uA, uL] <;> omega) | fail) only [TA.down, TL.down, same_nilslice, resE, oneV, ↓reduceIte, reduceCtorEq, uB, uE, uL, uA, uM, uS, uN, uX, uO, vR, vD, vL, vK, vE, vA, vM, vT, vS]; exact y3⟩
    · rw [if_neg hiq] at h2
      obtain ⟨z1, z2⟩ := x5 i s' u' h1 h2
      refine ⟨fun hi => ?_, fun hi => z2 (by omega)⟩
      rcases z1 (by omega) with y | ⟨K', rfl, y1, y2, y3, y4⟩
      · exact .inl y
      · refine .inr ⟨K', rfl, y1, by simp (maxSteps := 2000000) (implicitDefEqProofs := false) (disch := first | omega | (simp only [SD.down, uA, uL] <;> omega) | fail) only [TA.down, TL.down, same_nilslice, resE, oneV, ↓reduceIte, reduceCtorEq, uB, uE, uL, uA, uM, uS, uN, uX, uO, vR, vD, vL, vK, vE, vA, vM, vT, vS]; omega, y3, ?_⟩
        simp (maxSteps := 2000000) (implicitDefEqProofs := false) (disch := first | omega | (simp only [SD.down, uA, uL] <;> omega) | fail) only [TA.down, TL.down, same_nilslice, resE, oneV, ↓reduceIte, reduceCtorEq, uB, uE, uL, uA, uM, uS, uN, uX, uO, vR, vD, vL, vK, vE, vA, vM, vT, vS]
        exact (k3.2 _ y2).trans y4
  · refine ⟨0, by omega, by simp (maxSteps := 2000000) (implicitDefEqProofs := false) (disch := first | omega | (simp only [SD.down, uA, uL] <;> omega) | fail) only [TA.down, TL.down, same_nilslice, resE, oneV, ↓reduceIte, reduceCtorEq, uB, uE, uL, uA, uM, uS, uN, uX, uO, vR, vD, vL, vK, vE, vA, vM, vT, vS], by simp (maxSteps := 2000000) (implicitDefEqProofs := false) (disch := first | omega | (simp only [SD.down, uA, uL] <;> omega) | fail) only [TA.down, TL.down, same_nilslice, resE, oneV, ↓reduceIte, reduceCtorEq, uB, uE, uL, uA, uM, uS, uN, uX, uO, vR, vD, vL, vK, vE, vA, vM, vT, vS], by simp (maxSteps := 2000000) (implicitDefEqProofs := false) (disch := first | omega | (simp only [SD.down, uA, uL] <;> omega) | fail) only [TA.down, TL.down, same_nilslice, resE, oneV, ↓reduceIte, reduceCtorEq, uB, uE, uL, uA, uM, uS, uN, uX, uO, vR, vD, vL, vK, vE, vA, vM, vT, vS], by simp (maxSteps := 2000000) (implicitDefEqProofs := false) (disch := first | omega | (simp only [SD.down, uA, uL] <;> omega) | fail) only [TA.down, TL.down, same_nilslice, resE, oneV, ↓reduceIte, reduceCtorEq, uB, uE, uL, uA, uM, uS, uN, uX, uO, vR, vD, vL, vK, vE, vA, vM, vT, vS], by simp (maxSteps := 2000000) (implicitDefEqProofs := false) (disch := first | omega | (simp only [SD.down, uA, uL] <;> omega) | fail) only [TA.down, TL.down, same_nilslice, resE, oneV, ↓reduceIte, reduceCtorEq, uB, uE, uL, uA, uM, uS, uN, uX, uO, vR, vD, vL, vK, vE, vA, vM, vT, vS], k2, ?_⟩
    rcases hcs with x | ⟨K, vs, h0, rfl, y1, y2, y3, y4, y5⟩
    · exact .inl x
    · have := kp0.1
      exact .inr ⟨K, vs, rfl, y1, y2, y3, y4, fun i s u h1 h2 => ⟨fun h => by omega, fun _ => y5 i s u h1 h2⟩⟩
theorem two_g (d : Nat) (h : Heap) (c : Col) (kb : Nat) (sv : AV) (l : List Stp) (hsd : ∀ s ∈ l, s.data.length = 64) (hsn : l.length < 4000) (hpk : ∀ s ∈ l, s.picks.length ≤ 140737488351232) (hst : StA h sv l) : G (callD env (d + 8) 17 [sv] h) fun v h' => ∃ β a b cp C', v = .tup [.ptr β 0, .ptr a 0, .ptr b 0] ∧ BusI h' C' kb β cp [a, b] (BS.two l) ∧ Keeps h h' ∧ (∀ j, j < h.next → C' j = c j) ∧ ∀ j, h.next ≤ j → kb ≤ C' j ∧ C' j < kb + 100 := by
  generalize hX : (fun (v : AV) (h' : Heap) => ∃ β a b cp C', v = .tup [.ptr β 0, .ptr a 0, .ptr b 0] ∧ BusI h' C' kb β cp [a, b] (BS.two l) ∧ Keeps h h' ∧ (∀ j, j < h.next → C' j = c j) ∧ ∀ j, h.next ≤ j → kb ≤ C' j ∧ C' j < kb + 100) = Q
  have bc : buildE Try.prog 70 [] = some (.agg c33) := by kernel_rfl
  have svok : okv sv = some sv := by
    rcases hst with ⟨_, rfl | ⟨q, o, n, rfl⟩⟩ | ⟨K, vs, junk, ext, ro, _, ⟨n, rfl⟩ | rfl, _⟩ <;> rfl
  rw [callD_run (E := env) [] (by kernel_rfl) Try.func17 rfl (by rw [Try.ntmps17]; simp) (by kernel_rfl)]; simp (maxSteps := 2000000) (implicitDefEqProofs := false) (disch := first | omega | (simp only [SD.down, uA, uL] <;> omega) | fail) only [Try.ntmps17, Try.results17, env_P, env_L, mnew, cnew, bs50, c33_fold, bc, svok, TA.down, TL.down, same_nilslice, resE, oneV, ↓reduceIte, reduceCtorEq, uB, uE, uL, uA, uM, uS, uN, uX, uO, vR, vD, vL, vK, vE, vA, vM, vT, vS]
  generalize hH : ((((((((((h.new (Blk.map [] false)).new (Blk.map [] false)).new (Blk.cells (memC h.next (h.next + 1)) 0 false)).new (Blk.map [] false)).new (Blk.map [] false)).new (Blk.cells (memC (h.next + 3) (h.next + 4)) 0 false)).new (Blk.cells c33 0 false)).new (Blk.cells c33 0 false)).new (Blk.cells [AV.slice (h.next + 7) 0 1 1] 0 false)).new (Blk.cells [AV.ptr (h.next + 2) 0, AV.ptr (h.next + 5) 0] 0 false)) = H
  have f0 : H.get h.next = some (.map [] false) := by rw [← hH]; simp (maxSteps := 2000000) (implicitDefEqProofs := false) (disch := first | omega | (simp only [SD.down, uA, uL] <;> omega) | fail) only [TA.down, TL.down, same_nilslice, resE, oneV, ↓reduceIte, reduceCtorEq, uB, uE, uL, uA, uM, uS, uN, uX, uO, vR, vD, vL, vK, vE, vA, vM, vT, vS]
  have f1 : H.get (h.next + 1) = some (.map [] false) := by rw [← hH]; simp (maxSteps := 2000000) (implicitDefEqProofs := false) (disch := first | omega | (simp only [SD.down, uA, uL] <;> omega) | fail) only [TA.down, TL.down, same_nilslice, resE, oneV, ↓reduceIte, reduceCtorEq, uB, uE, uL, uA, uM, uS, uN, uX, uO, vR, vD, vL, vK, vE, vA, vM, vT, vS]
  have f2 : H.get (h.next + 2) = some (.cells (memC h.next (h.next + 1)) 0 false) := by rw [← hH]; simp (maxSteps := 2000000) (implicitDefEqProofs := false) (disch := first | omega | (simp only [SD.down, uA, uL] <;> omega) | fail) only [TA.down, TL.down, same_nilslice, resE, oneV, ↓reduceIte, reduceCtorEq, uB, uE, uL, uA, uM, uS, uN, uX, uO, vR, vD, vL, vK, vE, vA, vM, vT, vS]
  have f3 : H.get (h.next + 3) = some (.map [] false) := by rw [← hH]; simp (maxSteps := 2000000) (implicitDefEqProofs := false) (disch := first | omega | (simp only [SD.down, uA, uL] <;> omega) | fail) only [TA.down, TL.down, same_nilslice, resE, oneV, ↓reduceIte, reduceCtorEq, uB, uE, uL, uA, uM, uS, uN, uX, uO, vR, vD, vL, vK, vE, vA, vM, vT, vS]
  have f4 : H.get (h.next + 4) = some (.map [] false) := by rw [← hH]; simp (maxSteps := 2000000) (implicitDefEqProofs := false) (disch := first | omega | (simp only [SD.down, uA, uL] <;> omega) | fail) only [TA.down, TL.down, same_nilslice, resE, oneV, ↓reduceIte, reduceCtorEq, uB, uE, uL, uA, uM, uS, uN, uX, uO, vR, vD, vL, vK, vE, vA, vM, vT, vS]
  have f5 : H.get (h.next + 5) = some (.cells (memC (h.next + 3) (h.next + 4)) 0 false) := by rw [← hH]; simp (maxSteps := 2000000) (implicitDefEqProofs := false) (disch := first | omega | (simp only [SD.down, uA, uL] <;> omega) | fail) only [TA.down, TL.down, same_nilslice, resE, oneV, ↓reduceIte, reduceCtorEq, uB, uE, uL, uA, uM, uS, uN, uX, uO, vR, vD, vL, vK, vE, vA, vM, vT, vS]
  have f7 : H.get (h.next + 7) = some (.cells c33 0 false) := by rw [← hH]; simp (maxSteps := 2000000) (implicitDefEqProofs := false) (disch := first | omega | (simp only [SD.down, uA, uL] <;> omega) | fail) only [TA.down, TL.down, same_nilslice, resE, oneV, ↓reduceIte, reduceCtorEq, uB, uE, uL, uA, uM, uS, uN, uX, uO, vR, vD, vL, vK, vE, vA, vM, vT, vS]
  have f8 : H.get (h.next + 8) = some (.cells [.slice (h.next + 7) 0 1 1] 0 false) := by rw [← hH]; simp (maxSteps := 2000000) (implicitDefEqProofs := false) (disch := first | omega | (simp only [SD.down, uA, uL] <;> omega) | fail) only [TA.down, TL.down, same_nilslice, resE, oneV, ↓reduceIte, reduceCtorEq, uB, uE, uL, uA, uM, uS, uN, uX, uO, vR, vD, vL, vK, vE, vA, vM, vT, vS]
  have f9 : H.get (h.next + 9) = some (.cells [.ptr (h.next + 2) 0, .ptr (h.next + 5) 0] 0 false) := by rw [← hH]; simp (maxSteps := 2000000) (implicitDefEqProofs := false) (disch := first | omega | (simp only [SD.down, uA, uL] <;> omega) | fail) only [TA.down, TL.down, same_nilslice, resE, oneV, ↓reduceIte, reduceCtorEq, uB, uE, uL, uA, uM, uS, uN, uX, uO, vR, vD, vL, vK, vE, vA, vM, vT, vS]
  have fn : H.next = h.next + 10 := by rw [← hH]; simp (maxSteps := 2000000) (implicitDefEqProofs := false) (disch := first | omega | (simp only [SD.down, uA, uL] <;> omega) | fail) only [TA.down, TL.down, same_nilslice, resE, oneV, ↓reduceIte, reduceCtorEq, uB, uE, uL, uA, uM, uS, uN, uX, uO, vR, vD, vL, vK, vE, vA, vM, vT, vS]
  have fk : ∀ j, j < h.next → H.get j = h.get j := fun j hj => by rw [← hH]; simp (maxSteps := 2000000) (implicitDefEqProofs := false) (disch := first | omega | (simp only [SD.down, uA, uL] <;> omega) | fail) only [TA.down, TL.down, same_nilslice, resE, oneV, ↓reduceIte, reduceCtorEq, uB, uE, uL, uA, uM, uS, uN, uX, uO, vR, vD, vL, vK, vE, vA, vM, vT, vS]
  clear hH
  have kH : Keeps h H := ⟨by omega, fk⟩
  first | refine G.call (bnew_g d H (h.next + 2) (h.next + 5) (h.next + 8) (h.next + 9) h.next (h.next + 1) (h.next + 3) (h.next + 4) sv l hsd hsn hpk (hst.keep kH) (by omega) (by omega) (by omega) (by omega) f9 f2 f5 f8 f7 kb) ?_ | refine G.callC (bnew_g d H (h.next + 2) (h.next + 5) (h.next + 8) (h.next + 9) h.next (h.next + 1) (h.next + 3) (h.next + 4) sv l hsd hsn hpk (hst.keep kH) (by omega) (by omega) (by omega) (by omega) f9 f2 f5 f8 f7 kb) ?_ | refine G.callL (bnew_g d H (h.next + 2) (h.next + 5) (h.next + 8) (h.next + 9) h.next (h.next + 1) (h.next + 3) (h.next + 4) sv l hsd hsn hpk (hst.keep kH) (by omega) (by omega) (by omega) (by omega) f9 f2 f5 f8 f7 kb) ?_
  rintro v h1 ⟨β, Ms, stv, rfl, g1, g2, g4, g6, g7, b1, b3, kk, hstI⟩
  have kn := kk.1
  simp (maxSteps := 2000000) (implicitDefEqProofs := false) (disch := first | omega | (simp only [SD.down, uA, uL] <;> omega) | fail) only [TA.down, TL.down, same_nilslice, resE, oneV, ↓reduceIte, reduceCtorEq, uB, uE, uL, uA, uM, uS, uN, uX, uO, vR, vD, vL, vK, vE, vA, vM, vT, vS]
  subst hX
  have cc : ∀ j k, h.next + 9 ≤ j → colT c h.next k j = k := fun j k hj => by unfold colT; rw [if_neg (by omega), if_neg (by omega), if_neg (by omega), if_neg (by omega), if_neg (by omega)]
  have ca : ∀ j, h.next ≤ j → j < h.next + 3 → colT c h.next kb j = kb + 2 := fun j h1 h2 => by unfold colT; rw [if_neg (by omega), if_pos h2]
  have cb : ∀ j, h.next + 3 ≤ j → j < h.next + 6 → colT c h.next kb j = kb + 3 := fun j h1 h2 => by unfold colT; rw [if_neg (by omega), if_neg (by omega), if_pos h2]
  have cc1 : ∀ j, h.next + 7 ≤ j → j < h.next + 9 → colT c h.next kb j = kb + 1 := fun j h1 h2 => by unfold colT; rw [if_neg (by omega), if_neg (by omega), if_neg (by omega), if_neg (by omega), if_pos h2]
  have mem : ∀ m a b k, H.get m = some (.cells (memC a b) 0 false) → H.get a = some (.map [] false) → H.get b = some (.map [] false) → m < H.next → a < H.next → b < H.next → m ≠ a → m ≠ b → a ≠ b → colT c h.next kb m = k → colT c h.next kb a = k → colT c h.next kb b = k → MemI h1 (colT c h.next kb) k m (MS.new 4) := by
    intro m a b k x1 x2 x3 l1 l2 l3 n1 n2 n3 c1 c2 c3
    exact ⟨a, b, .nilslice, .nilslice, by omega, by omega, by omega, c1, c2, c3, n1, n2, n3, (kk.2 _ l1).trans x1, (kk.2 _ l2).trans x2, (kk.2 _ l3).trans x3, .inl ⟨rfl, .inl rfl⟩, .inl ⟨rfl, rfl⟩⟩
  refine G.ok ⟨β, h.next + 2, h.next + 5, h.next + 8, colT c h.next kb, rfl, ⟨Ms, stv, .nilslice, g4, cc _ _ (by omega), g6, cc _ _ (by omega), g7, b1, b3, rfl, fun i p S hp hS => ?_, ⟨.slice (h.next + 7) 0 1 1, h.next + 7, by omega, cc1 _ (by omega) (by omega), (kk.2 _ (by omega)).trans f8, .inl ⟨(0, czz), rfl, rfl, (kk.2 _ (by omega)).trans f7, by omega⟩, cc1 _ (by omega) (by omega), by omega⟩, hstI _ (fun j hj => cc j _ (by omega)), .inl ⟨rfl, rfl⟩⟩, ⟨by omega, fun j hj => (kk.2 j (by omega)).trans (fk j hj)⟩, fun j hj => if_pos hj, fun j hj => ?_⟩
  · match i, hp, hS with
    | 0, hp, hS =>
      simp at hp
      simp [BS.two] at hS
      subst hp; subst hS
      exact mem _ h.next (h.next + 1) _ f2 f0 f1 (by omega) (by omega) (by omega) (by omega) (by omega) (by omega) (ca _ (by omega) (by omega)) (ca _ (by omega) (by omega)) (ca _ (by omega) (by omega))
    | 1, hp, hS =>
      simp at hp
      simp [BS.two] at hS
      subst hp; subst hS
      exact mem _ (h.next + 3) (h.next + 4) _ f5 f3 f4 (by omega) (by omega) (by omega) (by omega) (by omega) (by omega) (cb _ (by omega) (by omega)) (cb _ (by omega) (by omega)) (cb _ (by omega) (by omega))
    | i + 2, hp, hS => simp at hp
  · unfold colT
    rw [if_neg (by omega)]
    split
    · omega
    · split
      · omega
      · split
        · omega
        · split <;> omega
end Go.Proofs.Ytfjcfjfgamajkaa
namespace Go.Proofs.Ytfjcfjfgamajkaa
open Go Go.Ai Go.Aw Go.Proofs
open Nat renaming reduceBEq → uB, reduceEqDiff → uE, reduceLT → uL, reduceAdd → uA, reduceMul → uM, reduceSub → uS, reduceAnd → uN, reduceXor → uX, reduceOr → uO
open Int renaming reduceMod → vR, reduceDiv → vD, reduceLT → vL, reduceLE → vK, reduceEq → vE, reduceAdd → vA, reduceMul → vM, reduceToNat → vT, reduceSub → vS
set_option linter.unusedSimpArgs false
set_option linter.unusedVariables false
set_option maxRecDepth 10000
theorem nq126 (q o l c : Nat) : binE Try.prog .eql 126 (.slice q o l c) .nilslice = some (.bool false) := by kernel_rfl
theorem nq126e (q o l c : Nat) : binE Try.prog .eql 126 (.eslice q o l c) .nilslice = some (.bool false) := by kernel_rfl
theorem nn126 : binE Try.prog .eql 126 .nilslice .nilslice = some (.bool true) := by kernel_rfl
theorem b0126 (h : Heap) : bsE Try.prog 126 0 [] h = some (.slice h.next 0 0 0, h.new (.cells [] 0 false)) := bsE_of (fun K => by kernel_rfl) h
theorem nn127 : binE Try.prog .eql 127 .nilslice .nilslice = some (.bool true) := by kernel_rfl
theorem clone_wr (d : Nat) (h : Heap) (c : Col) (k : Nat) (v : AV) (ex : List Nat) (l : Img) (hl : Img.ok l) (hn : l.length < 4000) (x : LogJ h c k v ex l) : G (callD env (d + 1) 61 [v] h) fun w h' => Keeps h h' ∧ isSc w = true ∧ okv w = some w ∧ w.cells = [w] ∧ ((l = [] ∧ (w = .nilslice ∨ ∃ q o, w = .slice q o 0 0)) ∨ ∃ L, w = .eslice L 0 0 l.length ∧ h.next ≤ L ∧ L < h'.next ∧ h'.get L = some (.cells (logC l) 65 false)) := by
  generalize hX : (fun (w : AV) (h' : Heap) => Keeps h h' ∧ isSc w = true ∧ okv w = some w ∧ w.cells = [w] ∧ ((l = [] ∧ (w = .nilslice ∨ ∃ q o, w = .slice q o 0 0)) ∨ ∃ L, w = .eslice L 0 0 l.length ∧ h.next ≤ L ∧ L < h'.next ∧ h'.get L = some (.cells (logC l) 65 false))) = Q
  rcases x with ⟨h0, rfl | ⟨q, o, rfl⟩⟩ | ⟨L, junk, rfl, hLn, hLc, hLe, hg⟩
  · rw [callD_run (E := env) [] (by kernel_rfl) Try.func61 rfl (by rw [Try.ntmps61]; simp) (by kernel_rfl)]; simp (maxSteps := 2000000) (implicitDefEqProofs := false) (disch := first | omega | (simp only [SD.down, uA, uL] <;> omega) | fail) only [Try.ntmps61, Try.results61, env_P, env_L, nn126, TA.down, TL.down, same_nilslice, resE, oneV, ↓reduceIte, reduceCtorEq, uB, uE, uL, uA, uM, uS, uN, uX, uO, vR, vD, vL, vK, vE, vA, vM, vT, vS]
    subst hX
    exact G.ok ⟨.refl _, rfl, rfl, rfl, .inl ⟨h0, .inl rfl⟩⟩
  · have ea : ∀ k o' H, appE Try.prog 126 (.slice k o' 0 0) (.slice q o 0 0) H = some (.slice k o' 0 0, H) := fun k o' H => app_00 el126 _ rfl (fun K => rfl)
    rw [callD_run (E := env) [] (by kernel_rfl) Try.func61 rfl (by rw [Try.ntmps61]; simp) (by kernel_rfl)]; simp (maxSteps := 2000000) (implicitDefEqProofs := false) (disch := first | omega | (simp only [SD.down, uA, uL] <;> omega) | fail) only [Try.ntmps61, Try.results61, env_P, env_L, nq126, b0126, cls_append, ap126, ea, TA.down, TL.down, same_nilslice, resE, oneV, ↓reduceIte, reduceCtorEq, uB, uE, uL, uA, uM, uS, uN, uX, uO, vR, vD, vL, vK, vE, vA, vM, vT, vS]
    subst hX
    exact G.ok ⟨⟨by simp (maxSteps := 2000000) (implicitDefEqProofs := false) (disch := first | omega | (simp only [SD.down, uA, uL] <;> omega) | fail) only [TA.down, TL.down, same_nilslice, resE, oneV, ↓reduceIte, reduceCtorEq, uB, uE, uL, uA, uM, uS, uN, uX, uO, vR, vD, vL, vK, vE, vA, vM, vT, vS]; omega, fun j hj => by simp (maxSteps := 2000000) (implicitDefEqProofs := false) (disch := first | omega | (simp only [SD.down, uA, uL] <;> omega) | fail) only [TA.down, TL.down, same_nilslice, resE, oneV, ↓reduceIte, reduceCtorEq, uB, uE, uL, uA, uM, uS, uN, uX, uO, vR, vD, vL, vK, vE, vA, vM, vT, vS]⟩, rfl, rfl, rfl, .inl ⟨h0, .inr ⟨_, _, rfl⟩⟩⟩
  · by_cases h0 : l = []
    · subst h0
      have ea : ∀ k o' H, appE Try.prog 126 (.slice k o' 0 0) (.eslice L 0 0 0) H = some (.slice k o' 0 0, H) := fun k o' H => app_00 el126 _ rfl (fun K => rfl)
      have e0 : ([] : Img).length = 0 := rfl
      rw [e0]
      rw [callD_run (E := env) [] (by kernel_rfl) Try.func61 rfl (by rw [Try.ntmps61]; simp) (by kernel_rfl)]; simp (maxSteps := 2000000) (implicitDefEqProofs := false) (disch := first | omega | (simp only [SD.down, uA, uL] <;> omega) | fail) only [Try.ntmps61, Try.results61, env_P, env_L, nq126e, b0126, cls_append, ap126, ea, TA.down, TL.down, same_nilslice, resE, oneV, ↓reduceIte, reduceCtorEq, uB, uE, uL, uA, uM, uS, uN, uX, uO, vR, vD, vL, vK, vE, vA, vM, vT, vS]
      subst hX
      exact G.ok ⟨⟨by simp (maxSteps := 2000000) (implicitDefEqProofs := false) (disch := first | omega | (simp only [SD.down, uA, uL] <;> omega) | fail) only [TA.down, TL.down, same_nilslice, resE, oneV, ↓reduceIte, reduceCtorEq, uB, uE, uL, uA, uM, uS, uN, uX, uO, vR, vD, vL, vK, vE, vA, vM, vT, vS]; omega, fun j hj => by simp (maxSteps := 2000000) (implicitDefEqProofs := false) (disch := first | omega | (simp only [SD.down, uA, uL] <;> omega) | fail) only [TA.down, TL.down, same_nilslice, resE, oneV, ↓reduceIte, reduceCtorEq, uB, uE, uL, uA, uM, uS, uN, uX, uO, vR, vD, vL, vK, vE, vA, vM, vT, vS]⟩, rfl, rfl, rfl, .inl ⟨rfl, .inr ⟨_, _, rfl⟩⟩⟩
    · obtain ⟨m, hm⟩ : ∃ m, l.length = m + 1 := ⟨l.length - 1, by have := List.length_pos_iff.2 h0; omega⟩
      have hll := logC_len hl
      have hq' : (h.new (.cells [] 0 false)).get L = some (.cells (logC l ++ junk) 65 false) := by simp (maxSteps := 2000000) (implicitDefEqProofs := false) (disch := first | omega | (simp only [SD.down, uA, uL] <;> omega) | fail) only [TA.down, TL.down, same_nilslice, resE, oneV, ↓reduceIte, reduceCtorEq, uB, uE, uL, uA, uM, uS, uN, uX, uO, vR, vD, vL, vK, vE, vA, vM, vT, vS]; exact hg
      have hcut : cutE 0 ((m + 1) * (64 + 1)) (logC l ++ junk) = some (logC l) := by
        rw [cutE_of (by rw [List.length_append, hll, hm]; omega), List.drop_zero, List.take_append_of_le_length (by rw [hll, hm]; omega), List.take_of_length_le (by rw [hll, hm]; omega)]
      have hsc : allSc (logC l) = true := allSc_flat (fun x : Int × List Nat => wrC x.1 x.2) (fun x => wrC_sc _ _) l
      have ea := fun k o' => app_capE (P := Try.prog) (h := h.new (.cells [] 0 false)) (k := k) (o := o') (i := 0) (n := m) el126 (by omega) hq' hcut (by rw [hll, hm]) hsc
      rw [hm] at hX ⊢
      rw [callD_run (E := env) [] (by kernel_rfl) Try.func61 rfl (by rw [Try.ntmps61]; simp) (by kernel_rfl)]; simp (maxSteps := 2000000) (implicitDefEqProofs := false) (disch := first | omega | (simp only [SD.down, uA, uL] <;> omega) | fail) only [Try.ntmps61, Try.results61, env_P, env_L, nq126e, b0126, cls_append, ap126, ea, TA.down, TL.down, same_nilslice, resE, oneV, ↓reduceIte, reduceCtorEq, uB, uE, uL, uA, uM, uS, uN, uX, uO, vR, vD, vL, vK, vE, vA, vM, vT, vS]
      subst hX
      exact G.ok ⟨⟨by simp (maxSteps := 2000000) (implicitDefEqProofs := false) (disch := first | omega | (simp only [SD.down, uA, uL] <;> omega) | fail) only [TA.down, TL.down, same_nilslice, resE, oneV, ↓reduceIte, reduceCtorEq, uB, uE, uL, uA, uM, uS, uN, uX, uO, vR, vD, vL, vK, vE, vA, vM, vT, vS]; omega, fun j hj => by simp (maxSteps := 2000000) (implicitDefEqProofs := false) (disch := first | omega | (simp only [SD.down, uA, uL] <;> omega) | fail) only [TA.down, TL.down, same_nilslice, resE, oneV, ↓reduceIte, reduceCtorEq, uB, uE, uL, uA, uM, uS, uN, uX, uO, vR, vD, vL, vK, vE, vA, vM, vT, vS]⟩, rfl, rfl, rfl, .inr ⟨_, rfl, by omega, by simp (maxSteps := 2000000) (implicitDefEqProofs := false) (disch := first | omega | (simp only [SD.down, uA, uL] <;> omega) | fail) only [TA.down, TL.down, same_nilslice, resE, oneV, ↓reduceIte, reduceCtorEq, uB, uE, uL, uA, uM, uS, uN, uX, uO, vR, vD, vL, vK, vE, vA, vM, vT, vS]; omega, by simp (maxSteps := 2000000) (implicitDefEqProofs := false) (disch := first | omega | (simp only [SD.down, uA, uL] <;> omega) | fail) only [TA.down, TL.down, same_nilslice, resE, oneV, ↓reduceIte, reduceCtorEq, uB, uE, uL, uA, uM, uS, uN, uX, uO, vR, vD, vL, vK, vE, vA, vM, vT, vS]⟩⟩
set_option maxHeartbeats 1000000 in
theorem m_copy (d : Nat) (h : Heap) (c : Col) (k k' m : Nat) (S : MS) (I : MemI h c k m S) (w : S.wf) (hmk : S.marks = []) : G (callD env (d + 6) 20 [.ptr m 0] h) fun v h' => ∃ m', v = .ptr m' 0 ∧ MemI h' (pnt c h.next k') k' m' S ∧ Keeps h h' := by
  generalize hX : (fun (v : AV) (h' : Heap) => ∃ m', v = .ptr m' 0 ∧ MemI h' (pnt c h.next k') k' m' S ∧ Keeps h h') = Q
  have I0 := I
  obtain ⟨a, b, lgv, mk, l1, l2, l3, c1, c2, c3, n1, n2, n3, hm, ha, hb, hlg, mks⟩ := I
  obtain rfl : mk = .nilslice := by
    rcases mks with x | ⟨K, ps, x0, _⟩
    · exact x.2
    · exact absurd hmk x0
  unfold memG at hm
  have e1 : decide (0 < (S.n : Int)) = true := decide_eq_true (by have := w.n0; omega)
  have lsc : isSc lgv = true := by rcases hlg with ⟨_, rfl | ⟨q, o, rfl⟩⟩ | ⟨L, junk, rfl, _⟩ <;> rfl
  rw [callD_run (E := env) [(4, .fl [(8, 0, 1), (13, 0, 2)])] (by kernel_rfl) Try.func20 rfl (by rw [Try.ntmps20]; simp) (by kernel_rfl)]; simp (maxSteps := 2000000) (implicitDefEqProofs := false) (disch := first | omega | (simp only [SD.down, uA, uL] <;> omega) | fail) only [Try.ntmps20, Try.results20, env_P, env_L, hm, in59, Try.f59, e1, hlg.ok, lsc, TA.down, TL.down, same_nilslice, resE, oneV, ↓reduceIte, reduceCtorEq, uB, uE, uL, uA, uM, uS, uN, uX, uO, vR, vD, vL, vK, vE, vA, vM, vT, vS]
  have kp : Keeps h ((h.new (Blk.cells (AV.int IntKind.i64 0 :: (List.replicate 2 AV.nilmap ++ List.replicate 2 AV.nilslice ++ List.replicate 2 (AV.bool false))) 0 false)).put h.next (some (Blk.cells [AV.int IntKind.i64 (S.n : Int), AV.map a, AV.map b, lgv, AV.nilslice, AV.bool S.fails, AV.bool S.hurt] 0 false))) := ⟨by simp (maxSteps := 2000000) (implicitDefEqProofs := false) (disch := first | omega | (simp only [SD.down, uA, uL] <;> omega) | fail) only [TA.down, TL.down, same_nilslice, resE, oneV, ↓reduceIte, reduceCtorEq, uB, uE, uL, uA, uM, uS, uN, uX, uO, vR, vD, vL, vK, vE, vA, vM, vT, vS]; omega, fun j hj => by simp (maxSteps := 2000000) (implicitDefEqProofs := false) (disch := first | omega | (simp only [SD.down, uA, uL] <;> omega) | fail) only [TA.down, TL.down, same_nilslice, resE, oneV, ↓reduceIte, reduceCtorEq, uB, uE, uL, uA, uM, uS, uN, uX, uO, vR, vD, vL, vK, vE, vA, vM, vT, vS]⟩
  have nx : ((h.new (Blk.cells (AV.int IntKind.i64 0 :: (List.replicate 2 AV.nilmap ++ List.replicate 2 AV.nilslice ++ List.replicate 2 (AV.bool false))) 0 false)).put h.next (some (Blk.cells [AV.int IntKind.i64 (S.n : Int), AV.map a, AV.map b, lgv, AV.nilslice, AV.bool S.fails, AV.bool S.hurt] 0 false))).next = h.next + 1 := by simp (maxSteps := 2000000) (implicitDefEqProofs := false) (disch := first | omega | (simp only [SD.down, uA, uL] <;> omega) | fail) only [TA.down, TL.down, same_nilslice, resE, oneV, ↓reduceIte, reduceCtorEq, uB, uE, uL, uA, uM, uS, uN, uX, uO, vR, vD, vL, vK, vE, vA, vM, vT, vS]
  have b0 : ((h.new (Blk.cells (AV.int IntKind.i64 0 :: (List.replicate 2 AV.nilmap ++ List.replicate 2 AV.nilslice ++ List.replicate 2 (AV.bool false))) 0 false)).put h.next (some (Blk.cells [AV.int IntKind.i64 (S.n : Int), AV.map a, AV.map b, lgv, AV.nilslice, AV.bool S.fails, AV.bool S.hurt] 0 false))).get h.next = some (Blk.cells [AV.int IntKind.i64 (S.n : Int), AV.map a, AV.map b, lgv, AV.nilslice, AV.bool S.fails, AV.bool S.hurt] 0 false) := by simp (maxSteps := 2000000) (implicitDefEqProofs := false) (disch := first | omega | (simp only [SD.down, uA, uL] <;> omega) | fail) only [TA.down, TL.down, same_nilslice, resE, oneV, ↓reduceIte, reduceCtorEq, uB, uE, uL, uA, uM, uS, uN, uX, uO, vR, vD, vL, vK, vE, vA, vM, vT, vS]
  generalize ((h.new (Blk.cells (AV.int IntKind.i64 0 :: (List.replicate 2 AV.nilmap ++ List.replicate 2 AV.nilslice ++ List.replicate 2 (AV.bool false))) 0 false)).put h.next (some (Blk.cells [AV.int IntKind.i64 (S.n : Int), AV.map a, AV.map b, lgv, AV.nilslice, AV.bool S.fails, AV.bool S.hurt] 0 false))) = H0 at kp nx b0 ⊢
  have hm0 := (kp.2 m l1).trans hm
  first | refine G.call (clone_ok (d + 2) H0 a S.seen (by omega) ((kp.2 _ l2).trans ha)) ?_ | refine G.callC (clone_ok (d + 2) H0 a S.seen (by omega) ((kp.2 _ l2).trans ha)) ?_ | refine G.callL (clone_ok (d + 2) H0 a S.seen (by omega) ((kp.2 _ l2).trans ha)) ?_
  rintro v h1 ⟨rfl, rfl⟩
  simp (maxSteps := 2000000) (implicitDefEqProofs := false) (disch := first | omega | (simp only [SD.down, uA, uL] <;> omega) | fail) only [hm0, TA.down, TL.down, same_nilslice, resE, oneV, ↓reduceIte, reduceCtorEq, uB, uE, uL, uA, uM, uS, uN, uX, uO, vR, vD, vL, vK, vE, vA, vM, vT, vS]
  first | refine G.call (clone_ok (d + 2) _ b S.dur (by simp (maxSteps := 2000000) (implicitDefEqProofs := false) (disch := first | omega | (simp only [SD.down, uA, uL] <;> omega) | fail) only [TA.down, TL.down, same_nilslice, resE, oneV, ↓reduceIte, reduceCtorEq, uB, uE, uL, uA, uM, uS, uN, uX, uO, vR, vD, vL, vK, vE, vA, vM, vT, vS]; omega) (by simp (maxSteps := 2000000) (implicitDefEqProofs := false) (disch := first | omega | (simp only [SD.down, uA, uL] <;> omega) | fail) only [TA.down, TL.down, same_nilslice, resE, oneV, ↓reduceIte, reduceCtorEq, uB, uE, uL, uA, uM, uS, uN, uX, uO, vR, vD, vL, vK, vE, vA, vM, vT, vS]; exact (kp.2 _ l3).trans hb)) ?_ | refine G.callC (clone_ok (d + 2) _ b S.dur (by simp (maxSteps := 2000000) (implicitDefEqProofs := false) (disch := first | omega | (simp only [SD.down, uA, uL] <;> omega) | fail) only [TA.down, TL.down, same_nilslice, resE, oneV, ↓reduceIte, reduceCtorEq, uB, uE, uL, uA, uM, uS, uN, uX, uO, vR, vD, vL, vK, vE, vA, vM, vT, vS]; omega) (by simp (maxSteps := 2000000) (implicitDefEqProofs := false) (disch := first | omega | (simp only [SD.down, uA, uL] <;> omega) | fail) only [TA.down, TL.down, same_nilslice, resE, oneV, ↓reduceIte, reduceCtorEq, uB, uE, uL, uA, uM, uS, uN, uX, uO, vR, vD, vL, vK, vE, vA, vM, vT, vS]; exact (kp.2 _ l3).trans hb)) ?_ | refine G.callL (clone_ok (d + 2) _ b S.dur (by simp (maxSteps := 2000000) (implicitDefEqProofs := false) (disch := first | omega | (simp only [SD.down, uA, uL] <;> omega) | fail) only [TA.down, TL.down, same_nilslice, resE, oneV, ↓reduceIte, reduceCtorEq, uB, uE, uL, uA, uM, uS, uN, uX, uO, vR, vD, vL, vK, vE, vA, vM, vT, vS]; omega) (by simp (maxSteps := 2000000) (implicitDefEqProofs := false) (disch := first | omega | (simp only [SD.down, uA, uL] <;> omega) | fail) only [TA.down, TL.down, same_nilslice, resE, oneV, ↓reduceIte, reduceCtorEq, uB, uE, uL, uA, uM, uS, uN, uX, uO, vR, vD, vL, vK, vE, vA, vM, vT, vS]; exact (kp.2 _ l3).trans hb)) ?_
  rintro v h1 ⟨rfl, rfl⟩
  simp (maxSteps := 2000000) (implicitDefEqProofs := false) (disch := first | omega | (simp only [SD.down, uA, uL] <;> omega) | fail) only [hm0, hlg.ok, TA.down, TL.down, same_nilslice, resE, oneV, ↓reduceIte, reduceCtorEq, uB, uE, uL, uA, uM, uS, uN, uX, uO, vR, vD, vL, vK, vE, vA, vM, vT, vS]
  have kp2 : Keeps h ((H0.new (Blk.map (mapC S.seen) false)).new (Blk.map (mapC S.dur) false)) := ⟨by simp (maxSteps := 2000000) (implicitDefEqProofs := false) (disch := first | omega | (simp only [SD.down, uA, uL] <;> omega) | fail) only [TA.down, TL.down, same_nilslice, resE, oneV, ↓reduceIte, reduceCtorEq, uB, uE, uL, uA, uM, uS, uN, uX, uO, vR, vD, vL, vK, vE, vA, vM, vT, vS]; omega, fun j hj => by simp (maxSteps := 2000000) (implicitDefEqProofs := false) (disch := first | omega | (simp only [SD.down, uA, uL] <;> omega) | fail) only [TA.down, TL.down, same_nilslice, resE, oneV, ↓reduceIte, reduceCtorEq, uB, uE, uL, uA, uM, uS, uN, uX, uO, vR, vD, vL, vK, vE, vA, vM, vT, vS]; exact kp.2 j hj⟩
  first | refine G.call (clone_wr (d + 4) _ (pnt c h.next 0) k lgv [m, a, b] S.lg w.lg w.lgl (hlg.keep' kp2.1 (fun j hj _ _ => kp2.2 j hj) (fun j hj hc => (pnt_lt hj).trans hc))) ?_ | refine G.callC (clone_wr (d + 4) _ (pnt c h.next 0) k lgv [m, a, b] S.lg w.lg w.lgl (hlg.keep' kp2.1 (fun j hj _ _ => kp2.2 j hj) (fun j hj hc => (pnt_lt hj).trans hc))) ?_ | refine G.callL (clone_wr (d + 4) _ (pnt c h.next 0) k lgv [m, a, b] S.lg w.lg w.lgl (hlg.keep' kp2.1 (fun j hj _ _ => kp2.2 j hj) (fun j hj hc => (pnt_lt hj).trans hc))) ?_
  rintro lv h1 ⟨k1, q1, q2, q3, hlv⟩
  have kn := k1.1
  simp (maxSteps := 2000000) (implicitDefEqProofs := false) (disch := first | omega | (simp only [SD.down, uA, uL] <;> omega) | fail) only [TA.down, TL.down, same_nilslice, resE, oneV, ↓reduceIte, reduceCtorEq, uB, uE, uL, uA, uM, uS, uN, uX, uO, vR, vD, vL, vK, vE, vA, vM, vT, vS] at kn
  have c0 : h1.get h.next = some (Blk.cells [AV.int IntKind.i64 (S.n : Int), AV.map a, AV.map b, lgv, AV.nilslice, AV.bool S.fails, AV.bool S.hurt] 0 false) := by rw [k1.2 _ (by simp (maxSteps := 2000000) (implicitDefEqProofs := false) (disch := first | omega | (simp only [SD.down, uA, uL] <;> omega) | fail) only [TA.down, TL.down, same_nilslice, resE, oneV, ↓reduceIte, reduceCtorEq, uB, uE, uL, uA, uM, uS, uN, uX, uO, vR, vD, vL, vK, vE, vA, vM, vT, vS]; omega)]; simp (maxSteps := 2000000) (implicitDefEqProofs := false) (disch := first | omega | (simp only [SD.down, uA, uL] <;> omega) | fail) only [b0, TA.down, TL.down, same_nilslice, resE, oneV, ↓reduceIte, reduceCtorEq, uB, uE, uL, uA, uM, uS, uN, uX, uO, vR, vD, vL, vK, vE, vA, vM, vT, vS]
  have c1 : h1.get H0.next = some (.map (mapC S.seen) false) := by rw [k1.2 _ (by simp (maxSteps := 2000000) (implicitDefEqProofs := false) (disch := first | omega | (simp only [SD.down, uA, uL] <;> omega) | fail) only [TA.down, TL.down, same_nilslice, resE, oneV, ↓reduceIte, reduceCtorEq, uB, uE, uL, uA, uM, uS, uN, uX, uO, vR, vD, vL, vK, vE, vA, vM, vT, vS]; omega)]; simp (maxSteps := 2000000) (implicitDefEqProofs := false) (disch := first | omega | (simp only [SD.down, uA, uL] <;> omega) | fail) only [TA.down, TL.down, same_nilslice, resE, oneV, ↓reduceIte, reduceCtorEq, uB, uE, uL, uA, uM, uS, uN, uX, uO, vR, vD, vL, vK, vE, vA, vM, vT, vS]
  have c2 : h1.get (H0.next + 1) = some (.map (mapC S.dur) false) := by rw [k1.2 _ (by simp (maxSteps := 2000000) (implicitDefEqProofs := false) (disch := first | omega | (simp only [SD.down, uA, uL] <;> omega) | fail) only [TA.down, TL.down, same_nilslice, resE, oneV, ↓reduceIte, reduceCtorEq, uB, uE, uL, uA, uM, uS, uN, uX, uO, vR, vD, vL, vK, vE, vA, vM, vT, vS]; omega)]; simp (maxSteps := 2000000) (implicitDefEqProofs := false) (disch := first | omega | (simp only [SD.down, uA, uL] <;> omega) | fail) only [TA.down, TL.down, same_nilslice, resE, oneV, ↓reduceIte, reduceCtorEq, uB, uE, uL, uA, uM, uS, uN, uX, uO, vR, vD, vL, vK, vE, vA, vM, vT, vS]
  have cm : h1.get m = h.get m := by rw [k1.2 _ (by simp (maxSteps := 2000000) (implicitDefEqProofs := false) (disch := first | omega | (simp only [SD.down, uA, uL] <;> omega) | fail) only [TA.down, TL.down, same_nilslice, resE, oneV, ↓reduceIte, reduceCtorEq, uB, uE, uL, uA, uM, uS, uN, uX, uO, vR, vD, vL, vK, vE, vA, vM, vT, vS]; omega)]; exact kp2.2 m l1
  have kk := kp2.trans k1
  have cm' := cm.trans hm
  have cl62 : ∀ H, callD env (d + 5) 62 [.nilslice] H = some (.nilslice, H) := fun H => by rw [callD_run (E := env) [] (by kernel_rfl) Try.func62 rfl (by rw [Try.ntmps62]; simp) (by kernel_rfl)]; simp (maxSteps := 2000000) (implicitDefEqProofs := false) (disch := first | omega | (simp only [SD.down, uA, uL] <;> omega) | fail) only [Try.ntmps62, Try.results62, env_P, env_L, nn127, TA.down, TL.down, same_nilslice, resE, oneV, ↓reduceIte, reduceCtorEq, uB, uE, uL, uA, uM, uS, uN, uX, uO, vR, vD, vL, vK, vE, vA, vM, vT, vS]
  simp (maxSteps := 2000000) (implicitDefEqProofs := false) (disch := first | omega | (simp only [SD.down, uA, uL] <;> omega) | fail) only [c0, cm', same_map, hm0, q1, q2, q3, hlg.ok, hlg.same, cl62, TA.down, TL.down, same_nilslice, resE, oneV, ↓reduceIte, reduceCtorEq, uB, uE, uL, uA, uM, uS, uN, uX, uO, vR, vD, vL, vK, vE, vA, vM, vT, vS]
  subst hX
  have hn1 : H0.next + 2 ≤ h1.next := by omega
  refine G.ok ⟨h.next, rfl, ⟨H0.next, H0.next + 1, lv, .nilslice, by simp (maxSteps := 2000000) (implicitDefEqProofs := false) (disch := first | omega | (simp only [SD.down, uA, uL] <;> omega) | fail) only [TA.down, TL.down, same_nilslice, resE, oneV, ↓reduceIte, reduceCtorEq, uB, uE, uL, uA, uM, uS, uN, uX, uO, vR, vD, vL, vK, vE, vA, vM, vT, vS]; omega, by simp (maxSteps := 2000000) (implicitDefEqProofs := false) (disch := first | omega | (simp only [SD.down, uA, uL] <;> omega) | fail) only [TA.down, TL.down, same_nilslice, resE, oneV, ↓reduceIte, reduceCtorEq, uB, uE, uL, uA, uM, uS, uN, uX, uO, vR, vD, vL, vK, vE, vA, vM, vT, vS]; omega, by simp (maxSteps := 2000000) (implicitDefEqProofs := false) (disch := first | omega | (simp only [SD.down, uA, uL] <;> omega) | fail) only [TA.down, TL.down, same_nilslice, resE, oneV, ↓reduceIte, reduceCtorEq, uB, uE, uL, uA, uM, uS, uN, uX, uO, vR, vD, vL, vK, vE, vA, vM, vT, vS]; omega, pnt_ge (by omega), pnt_ge (by omega), pnt_ge (by omega), by omega, by omega, by omega, by simp (maxSteps := 2000000) (implicitDefEqProofs := false) (disch := first | omega | (simp only [SD.down, uA, uL] <;> omega) | fail) only [memG, TA.down, TL.down, same_nilslice, resE, oneV, ↓reduceIte, reduceCtorEq, uB, uE, uL, uA, uM, uS, uN, uX, uO, vR, vD, vL, vK, vE, vA, vM, vT, vS], by simp (maxSteps := 2000000) (implicitDefEqProofs := false) (disch := first | omega | (simp only [SD.down, uA, uL] <;> omega) | fail) only [TA.down, TL.down, same_nilslice, resE, oneV, ↓reduceIte, reduceCtorEq, uB, uE, uL, uA, uM, uS, uN, uX, uO, vR, vD, vL, vK, vE, vA, vM, vT, vS]; exact c1, by simp (maxSteps := 2000000) (implicitDefEqProofs := false) (disch := first | omega | (simp only [SD.down, uA, uL] <;> omega) | fail) only [TA.down, TL.down, same_nilslice, resE, oneV, ↓reduceIte, reduceCtorEq, uB, uE, uL, uA, uM, uS, uN, uX, uO, vR, vD, vL, vK, vE, vA, vM, vT, vS]; exact c2, ?_, .inl ⟨hmk, rfl⟩⟩, ⟨by have := kk.1; simp (maxSteps := 2000000) (implicitDefEqProofs := false) (disch := first | omega | (simp only [SD.down, uA, uL] <;> omega) | fail) only [TA.down, TL.down, same_nilslice, resE, oneV, ↓reduceIte, reduceCtorEq, uB, uE, uL, uA, uM, uS, uN, uX, uO, vR, vD, vL, vK, vE, vA, vM, vT, vS]; omega, fun j hj => by simp (maxSteps := 2000000) (implicitDefEqProofs := false) (disch := first | omega | (simp only [SD.down, uA, uL] <;> omega) | fail) only [TA.down, TL.down, same_nilslice, resE, oneV, ↓reduceIte, reduceCtorEq, uB, uE, uL, uA, uM, uS, uN, uX, uO, vR, vD, vL, vK, vE, vA, vM, vT, vS]; exact kk.2 j hj⟩⟩
  rcases hlv with x | ⟨L, rfl, y1, y2, y3⟩
  · exact .inl x
  · simp (maxSteps := 2000000) (implicitDefEqProofs := false) (disch := first | omega | (simp only [SD.down, uA, uL] <;> omega) | fail) only [TA.down, TL.down, same_nilslice, resE, oneV, ↓reduceIte, reduceCtorEq, uB, uE, uL, uA, uM, uS, uN, uX, uO, vR, vD, vL, vK, vE, vA, vM, vT, vS] at y1
    exact .inr ⟨L, [], rfl, by simp (maxSteps := 2000000) (implicitDefEqProofs := false) (disch := first | omega | (simp only [SD.down, uA, uL] <;> omega) | fail) only [TA.down, TL.down, same_nilslice, resE, oneV, ↓reduceIte, reduceCtorEq, uB, uE, uL, uA, uM, uS, uN, uX, uO, vR, vD, vL, vK, vE, vA, vM, vT, vS]; omega, pnt_ge (by omega), fun e he => by simp only [List.mem_cons, List.not_mem_nil, or_false] at he; omega, by rw [List.append_nil]; simp (maxSteps := 2000000) (implicitDefEqProofs := false) (disch := first | omega | (simp only [SD.down, uA, uL] <;> omega) | fail) only [TA.down, TL.down, same_nilslice, resE, oneV, ↓reduceIte, reduceCtorEq, uB, uE, uL, uA, uM, uS, uN, uX, uO, vR, vD, vL, vK, vE, vA, vM, vT, vS]; exact y3⟩
end Go.Proofs.Ytfjcfjfgamajkaa
