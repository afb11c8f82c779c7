/- Of this program, for all inputs: contracts. No condition but those in the theorems. -/
import Derived.Test.YthcbefolifpbpaaE12
import Derived.Test.YthcbefolifpbpaaAiOnce
import Derived.Test.YthcbefolifpbpaaOnce
namespace Go.Proofs.Ythcbefolifpbpaa.R.X
open Go Go.Ai Go.Aw Go.Proofs
open Nat renaming reduceBEq → uB, reduceEqDiff → uE, reduceLT → uL, reduceAdd → uA, reduceMul → uM, reduceSub → uS, reduceAnd → uN, reduceXor → uX, reduceOr → uO
open Int renaming reduceMod → vR, reduceDiv → vD, reduceLT → vL, reduceLE → vK, reduceEq → vE, reduceAdd → vA, reduceMul → vM, reduceToNat → vT
set_option linter.unusedSimpArgs false
set_option linter.unusedVariables false
set_option maxRecDepth 10000
def sealR (kd kt : List Nat) (n : Nat) (s : List Nat) : List Nat := eR (rseal (M kd)) kt n s 4
def openR (kd kt : List Nat) (n : Nat) (s : List Nat) : List Nat := eR (ropen (M kd)) kt n s 4
/-- a table over two keys, a number, a sector -/
def tX (f : List Nat → List Nat → Nat → List Nat → List Nat) (args : List AV) : Option AV := match args with
  | [.agg k, .agg t, .int .u64 (.ofNat n), .agg s] => match natsOf k, natsOf t, natsOf s with
    | some kl, some tl, some sl => if kl.length = 32 ∧ tl.length = 32 ∧ n < 18446744073709551616 ∧ sl.length = 64 then some (.agg (B (f kl tl n sl))) else none
    | _, _, _ => none
  | _ => none
theorem tX_B (f : List Nat → List Nat → Nat → List Nat → List Nat) (k t s : List Nat) (n : Nat) (hk : k.length = 32) (ht : t.length = 32) (hn : n < 18446744073709551616) (hs : s.length = 64) : tX f [.agg (B k), .agg (B t), .int .u64 (n : Int), .agg (B s)] = some (.agg (B (f (M k) (M t) n (M s)))) := by
  show (match natsOf (B k), natsOf (B t), natsOf (B s) with
    | some kl, some tl, some sl => if kl.length = 32 ∧ tl.length = 32 ∧ n < 18446744073709551616 ∧ sl.length = 64 then some (AV.agg (B (f kl tl n sl))) else none
    | _, _, _ => none) = _
  simp only [natsOf_B]
  rw [if_pos ⟨by simp [M, hk], by simp [M, ht], hn, by simp [M, hs]⟩]
theorem tX_ok {E : Env} {d q : Nat} {f : List Nat → List Nat → Nat → List Nat → List Nat} (hc : ∀ h kl tl n sl, kl.length = 32 → tl.length = 32 → n < 18446744073709551616 → sl.length = 64 → G (callD E d q [.agg (B kl), .agg (B tl), .int .u64 ((n : Nat) : Int), .agg (B sl)] h) fun v h' => v = .agg (B (f kl tl n sl)) ∧ Keeps h h') :
    ∀ args v, tX f args = some v → plainW v = true ∧ ∀ h : Heap, ∃ h', callD E d q args h = some (v, h') ∧ ∀ j, j < h.next → h'.get j = h.get j := by
  intro args v h
  unfold tX at h
  split at h
  · split at h
    · rename_i kl tl sl h1 h2 h3
      split at h
      · rename_i hl
        cases h
        rw [natsOf_eq h1, natsOf_eq h2, natsOf_eq h3]
        refine ⟨plainB _, fun h => ?_⟩
        obtain ⟨v, h', e, rfl, k⟩ := hc h kl tl _ sl hl.1 hl.2.1 hl.2.2.1 hl.2.2.2
        exact ⟨h', e, k.2⟩
      · cases h
    · cases h
  · cases h
noncomputable def eOnce : Env := Env.once Try.prog 100000 29
theorem eOnce_ok : eOnce.Ok := Env.once_ok ⟨enter_ok Try.func29 (by kernel_rfl) (by kernel_rfl), do_done, do_first⟩ (by kernel_rfl) (by kernel_rfl) (by kernel_rfl)
noncomputable def env18 : Env := eOnce.memo1 18 (tX sealR)
theorem env18_ok : env18.Ok := Env.memoOf_ok eOnce_ok c5_ok rfl (d1 := 3) (tX_ok fun h kl tl n sl h1 h2 h3 h4 => seal8_ok 0 h kl tl h1 h2 n h3 sl h4)
noncomputable def env20 : Env := env18.memo1 20 (tX openR)
theorem env20_ok : env20.Ok := Env.memoOf_ok env18_ok c5_ok rfl (d1 := 3) (tX_ok fun h kl tl n sl h1 h2 h3 h4 => open8_ok 0 h kl tl h1 h2 n h3 sl h4)
theorem q18 (d : Nat) (k t s : List Nat) (n : Nat) (h : Heap) (hk : k.length = 32) (ht : t.length = 32) (hn : n < 18446744073709551616) (hs : s.length = 64) : callD env20 (d + 1) 18 [.agg (B k), .agg (B t), .int .u64 (n : Int), .agg (B s)] h = some (.agg (B (sealR (M k) (M t) n (M s))), h) := memo_call (t := tX sealR) rfl (tX_B _ k t s n hk ht hn hs) d h
theorem q20 (d : Nat) (k t s : List Nat) (n : Nat) (h : Heap) (hk : k.length = 32) (ht : t.length = 32) (hn : n < 18446744073709551616) (hs : s.length = 64) : callD env20 (d + 1) 20 [.agg (B k), .agg (B t), .int .u64 (n : Int), .agg (B s)] h = some (.agg (B (openR (M k) (M t) n (M s))), h) := memo_call (t := tX openR) rfl (tX_B _ k t s n hk ht hn hs) d h
end Go.Proofs.Ythcbefolifpbpaa.R.X
