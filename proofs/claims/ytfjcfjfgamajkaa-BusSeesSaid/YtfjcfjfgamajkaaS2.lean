/- Of this program, for all inputs: contracts. No condition but those in the theorems. -/
import Derived.Test.YtfjcfjfgamajkaaS1
namespace Go.Proofs.Ytfjcfjfgamajkaa
open Go Go.Ai Go.Aw Go.Proofs
open Nat renaming reduceBEq → uB, reduceEqDiff → uE, reduceLT → uL, reduceAdd → uA, reduceMul → uM, reduceSub → uS, reduceAnd → uN, reduceXor → uX, reduceOr → uO
open Int renaming reduceMod → vR, reduceDiv → vD, reduceLT → vL, reduceLE → vK, reduceEq → vE, reduceAdd → vA, reduceMul → vM, reduceToNat → vT, reduceSub → vS
set_option linter.unusedSimpArgs false
set_option linter.unusedVariables false
set_option maxRecDepth 10000
theorem in57 (d : Nat) (h : Heap) (a0 a1 a2 : AV) : callD env (d + 1) 57 [a0, a1, a2] h = run ⟨env.P, callD env d, env.L, Try.f57.ntmps, [], Try.f57.results.toList⟩ [.code (match Try.f57.body with | some c => c | none => .skip)] (argS [a0, a1, a2]) h :=
  callD_run (E := env) [] (by kernel_rfl) Try.func57 rfl (by rw [Try.ntmps57]; simp) (by kernel_rfl)
theorem in97 (d : Nat) (h : Heap) (a0 a1 a2 : AV) : callD env (d + 1) 97 [a0, a1, a2] h = run ⟨env.P, callD env d, env.L, Try.f97.ntmps, [], Try.f97.results.toList⟩ [.code (match Try.f97.body with | some c => c | none => .skip)] (argS [a0, a1, a2]) h :=
  callD_run (E := env) [] (by kernel_rfl) Try.func97 rfl (by rw [Try.ntmps97]; simp) (by kernel_rfl)
theorem in58 (d : Nat) (h : Heap) (a0 a1 : AV) : callD env (d + 1) 58 [a0, a1] h = run ⟨env.P, callD env d, env.L, Try.f58.ntmps, [], Try.f58.results.toList⟩ [.code (match Try.f58.body with | some c => c | none => .skip)] (argS [a0, a1]) h :=
  callD_run (E := env) [] (by kernel_rfl) Try.func58 rfl (by rw [Try.ntmps58]; simp) (by kernel_rfl)
theorem in25 (d : Nat) (h : Heap) (a0 a1 : AV) : callD env (d + 1) 25 [a0, a1] h = run ⟨env.P, callD env d, env.L, Try.f25.ntmps, [], Try.f25.results.toList⟩ [.code (match Try.f25.body with | some c => c | none => .skip)] (argS [a0, a1]) h :=
  callD_run (E := env) [] (by kernel_rfl) Try.func25 rfl (by rw [Try.ntmps25]; simp) (by kernel_rfl)
theorem in64 (d : Nat) (h : Heap) (a0 a1 : AV) : callD env (d + 1) 64 [a0, a1] h = run ⟨env.P, callD env d, env.L, Try.f64.ntmps, [], Try.f64.results.toList⟩ [.code (match Try.f64.body with | some c => c | none => .skip)] (argS [a0, a1]) h :=
  callD_run (E := env) [] (by kernel_rfl) Try.func64 rfl (by rw [Try.ntmps64]; simp) (by kernel_rfl)
theorem in69 (d : Nat) (h : Heap) (a0 a1 : AV) : callD env (d + 1) 69 [a0, a1] h = run ⟨env.P, callD env d, env.L, Try.f69.ntmps, [], Try.f69.results.toList⟩ [.code (match Try.f69.body with | some c => c | none => .skip)] (argS [a0, a1]) h :=
  callD_run (E := env) [] (by kernel_rfl) Try.func69 rfl (by rw [Try.ntmps69]; simp) (by kernel_rfl)
theorem in121 (d : Nat) (h : Heap) (a0 a1 a2 : AV) : callD env (d + 1) 121 [a0, a1, a2] h = run ⟨env.P, callD env d, env.L, Try.f121.ntmps, [], Try.f121.results.toList⟩ [.code (match Try.f121.body with | some c => c | none => .skip)] (argS [a0, a1, a2]) h :=
  callD_run (E := env) [] (by kernel_rfl) Try.func121 rfl (by rw [Try.ntmps121]; simp) (by kernel_rfl)
theorem in65 (d : Nat) (h : Heap) (a0 a1 a2 : AV) : callD env (d + 1) 65 [a0, a1, a2] h = run ⟨env.P, callD env d, env.L, Try.f65.ntmps, [], Try.f65.results.toList⟩ [.code (match Try.f65.body with | some c => c | none => .skip)] (argS [a0, a1, a2]) h :=
  callD_run (E := env) [] (by kernel_rfl) Try.func65 rfl (by rw [Try.ntmps65]; simp) (by kernel_rfl)
theorem in145 (d : Nat) (h : Heap) (a0 a1 : AV) : callD env (d + 1) 145 [a0, a1] h = run ⟨env.P, callD env d, env.L, Try.f145.ntmps, [], Try.f145.results.toList⟩ [.code (match Try.f145.body with | some c => c | none => .skip)] (argS [a0, a1]) h :=
  callD_run (E := env) [] (by kernel_rfl) Try.func145 rfl (by rw [Try.ntmps145]; simp) (by kernel_rfl)
theorem in120 (d : Nat) (h : Heap) (a0 a1 : AV) : callD env (d + 1) 120 [a0, a1] h = run ⟨env.P, callD env d, env.L, Try.f120.ntmps, [], Try.f120.results.toList⟩ [.code (match Try.f120.body with | some c => c | none => .skip)] (argS [a0, a1]) h :=
  callD_run (E := env) [] (by kernel_rfl) Try.func120 rfl (by rw [Try.ntmps120]; simp) (by kernel_rfl)
def memH (a b : Nat) (hu : Bool) : List AV := [.int .i64 4, .map a, .map b, .nilslice, .nilslice, .bool false, .bool hu]
def mapS (s : List Nat) (z : Bool) : List (AV × AV) := match z with | true => [(.int .i64 3, .agg (B s))] | false => []
structure BI (h : Heap) (base β S Ms a b a1 a2 c n i : Nat) (s : List Nat) (lg : AV) (L : Nat) : Prop where
  bu : h.get β = some (.cells [.eslice Ms 0 0 2, .ptr c 0, .eslice S 0 0 1, .bool false, lg] 0 false)
  st : h.get S = some (.cells (stepC n s) 70 false)
  ms : h.get Ms = some (.cells [.ptr a 0, .ptr b 0] 1 false)
  m : h.get a = some (.cells (memH a1 a2 (decide (n < i))) 0 false)
  m1 : h.get a1 = some (.map (mapS s (decide (n < i))) false)
  m2 : h.get a2 = some (.map (mapS s (decide (n < i))) false)
  lt : β < h.next ∧ S < h.next ∧ Ms < h.next ∧ a < h.next ∧ a1 < h.next ∧ a2 < h.next
  le : base ≤ β ∧ base ≤ S ∧ base ≤ Ms ∧ base ≤ a ∧ base ≤ a1 ∧ base ≤ a2
  ne : β ≠ S ∧ β ≠ Ms ∧ β ≠ a ∧ β ≠ a1 ∧ β ≠ a2 ∧ S ≠ Ms ∧ S ≠ a ∧ S ≠ a1 ∧ S ≠ a2 ∧ Ms ≠ a ∧ Ms ≠ a1 ∧ Ms ≠ a2 ∧ a ≠ a1 ∧ a ≠ a2 ∧ a1 ≠ a2
  lo : (i = 0 ∧ lg = .nilslice) ∨ ∃ old, lg = .eslice L 0 0 i ∧ h.get L = some (.cells old 68 false) ∧ old.length = i * 68 ∧ L ≠ β ∧ L ≠ S ∧ L ≠ Ms ∧ L ≠ a ∧ L ≠ a1 ∧ L ≠ a2
  lL : base ≤ L ∧ L < h.next
def zz : List Nat := List.replicate 64 0
theorem zz_len : zz.length = 64 := rfl
theorem zz_fold : List.replicate 64 (b8 0) = B zz := rfl
def entC (x : List Nat) : List AV := AV.int .i64 1 :: AV.int .i64 0 :: AV.int .i64 3 :: (B x ++ [AV.int .i64 0])
theorem entC_len (x : List Nat) (hx : x.length = 64) : (entC x).length = 68 := by simp [entC, B_len, hx]
theorem entC_sc (x : List Nat) : allSc (entC x) = true := by
  have := allSc_B x
  simp only [allSc] at this
  simp only [entC, allSc, List.all_append, List.all_cons, List.all_nil, this]
  rfl
def entZ : List AV := List.replicate 3 (AV.int IntKind.i64 0) ++ B zz ++ [AV.int IntKind.i64 0]
theorem entZ_fold : List.replicate 3 (AV.int IntKind.i64 0) ++ B zz ++ [AV.int IntKind.i64 0] = entZ := rfl
theorem entZ_len : entZ.length = 68 := rfl
def stpZ : List AV := List.replicate 5 (AV.int IntKind.i64 0) ++ B zz ++ [AV.nilslice]
theorem stpZ_fold : List.replicate 5 (AV.int IntKind.i64 0) ++ B zz ++ [AV.nilslice] = stpZ := rfl
theorem stpZ_len : stpZ.length = 70 := rfl
theorem stp_over (n : Nat) (s : List Nat) (hs : s.length = 64) : overE 0 (stepC n s) stpZ = some (stepC n s) := by rw [overE_n, stepC_len n s hs, ovN_full (by simp [stpZ_len]), stepC_sc, scE_true]
theorem ent_fold : ((entZ.set 0 (AV.int IntKind.i64 1)).set 1 (AV.int IntKind.i64 0)).set 2 (AV.int IntKind.i64 3) = entC zz := rfl
theorem ent_cut (x : List Nat) (hx : x.length = 64) : cutE 0 68 (entC x) = some (entC x) := cut_all (by simp [entC_len x hx])
theorem ent_over (x : List Nat) (hx : x.length = 64) : overE 0 (entC x) entZ = some (entC x) := by rw [overE_n, entC_len x hx, ovN_full (by simp [entZ_len]), entC_sc, scE_true]
theorem ent_over' (x y : List Nat) (hx : x.length = 64) (hy : y.length = 64) : overE 0 (entC x) (entC y) = some (entC x) := by rw [overE_n, entC_len x hx, ovN_full (by simp [entC_len y hy]), entC_sc, scE_true]
set_option maxHeartbeats 4000000 in
theorem mread (d : Nat) (h : Heap) (a a1 a2 : Nat) (hu z : Bool) (s : List Nat) (hs : s.length = 64) (ha : a < h.next) (ha1 : a1 < h.next) (m : h.get a = some (.cells (memH a1 a2 hu) 0 false)) (m1 : h.get a1 = some (.map (mapS s z) false)) : G (callD env (d + 5) 25 [.ptr a 0, .int .i64 3] h) fun v h' => v = .tup [.agg (B (cond z s zz)), .int .i64 0] ∧ Keeps h h' := by
  generalize hX : (fun (v : AV) (h' : Heap) => v = .tup [.agg (B (cond z s zz)), .int .i64 0] ∧ Keeps h h') = Q
  unfold memH at m
  have e : ∀ H : Heap, H.get a1 = some (.map (mapS s z) false) → lookupE Try.prog H 125 (.map a1) (.int .i64 3) false = some (.agg (B (cond z s zz))) := by
    intro H hH
    cases z with
    | true => exact lookup_hit Try.underlying125 Try.underlying3 hH
    | false => rw [lookup_nil Try.underlying125 Try.underlying3 hH]; kernel_rfl
  have lz : (cond z s zz).length = 64 := by cases z <;> simp [hs, zz_len]
  have hz := zz_len
  rw [callD_run (E := env) [] (by kernel_rfl) Try.func25 rfl (by rw [Try.ntmps25]; simp) (by kernel_rfl)]; simp (maxSteps := 2000000) (implicitDefEqProofs := false) (disch := first | omega | (simp only [SD.down, uA, uL] <;> omega) | fail) only [Try.ntmps25, Try.results25, env_P, env_L, in64, Try.f64, in69, Try.f69, in59, Try.f59, m, m1, zz_fold, e _ (show (h.new (.cells (B zz) 0 false)).get a1 = _ by rw [get_new_ne (by simp; omega)]; exact m1), over_B, cutB_all, lz, TA.down, TL.down, same_nilslice, resE, oneV, ↓reduceIte, reduceCtorEq, uB, uE, uL, uA, uM, uS, uN, uX, uO, vR, vD, vL, vK, vE, vA, vM, vT, vS]
  subst hX
  refine G.ok ⟨rfl, ?_, fun j hj => ?_⟩
  · simp (maxSteps := 2000000) (implicitDefEqProofs := false) (disch := first | omega | (simp only [SD.down, uA, uL] <;> omega) | fail) only [TA.down, TL.down, same_nilslice, resE, oneV, ↓reduceIte, reduceCtorEq, uB, uE, uL, uA, uM, uS, uN, uX, uO, vR, vD, vL, vK, vE, vA, vM, vT, vS]
    omega
  · simp (maxSteps := 2000000) (implicitDefEqProofs := false) (disch := first | omega | (simp only [SD.down, uA, uL] <;> omega) | fail) only [TA.down, TL.down, same_nilslice, resE, oneV, ↓reduceIte, reduceCtorEq, uB, uE, uL, uA, uM, uS, uN, uX, uO, vR, vD, vL, vK, vE, vA, vM, vT, vS]
theorem stepC_0 (n : Nat) (s : List Nat) : (stepC n s)[0]? = some (.int .i64 (n : Int)) := rfl
theorem stepC_1 (n : Nat) (s : List Nat) : (stepC n s)[1]? = some (.int .i64 1) := rfl
theorem stepC_2 (n : Nat) (s : List Nat) : (stepC n s)[2]? = some (.int .i64 0) := rfl
theorem stepC_3 (n : Nat) (s : List Nat) : (stepC n s)[3]? = some (.int .i64 3) := rfl
theorem stepC_4 (n : Nat) (s : List Nat) : (stepC n s)[4]? = some (.int .i64 0) := rfl
theorem stepC_d (n : Nat) (s : List Nat) (hs : s.length = 64) : cutE 5 64 (stepC n s) = some (B s) := by
  rw [cutE_of (by rw [stepC_len n s hs]; omega)]
  show some ((B s ++ [AV.nilslice]).take 64) = _
  rw [List.take_append_of_le_length (by simp [B_len, hs]), List.take_of_length_le (by simp [B_len, hs])]
end Go.Proofs.Ytfjcfjfgamajkaa
