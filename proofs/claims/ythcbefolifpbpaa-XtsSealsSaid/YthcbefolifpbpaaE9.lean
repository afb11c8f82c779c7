/- Of this program, for all inputs: contracts. No condition but those in the theorems. -/
import Derived.Test.YthcbefolifpbpaaE8
namespace Go.Proofs.Ythcbefolifpbpaa.R
open Go Go.Ai Go.Aw Go.Proofs
open Nat renaming reduceBEq → uB, reduceEqDiff → uE, reduceLT → uL, reduceAdd → uA, reduceMul → uM, reduceSub → uS, reduceAnd → uN, reduceXor → uX, reduceOr → uO
open Int renaming reduceMod → vR, reduceDiv → vD, reduceLT → vL, reduceLE → vK, reduceEq → vE, reduceAdd → vA, reduceMul → vM, reduceToNat → vT
set_option linter.unusedSimpArgs false
set_option linter.unusedVariables false
set_option maxRecDepth 10000
/-- bytes read off cells -/
def natsOf : List AV → Option (List Nat)
  | [] => some []
  | .int .u8 (.ofNat n) :: r => if n < 256 then (natsOf r).map (n :: ·) else none
  | _ => none
theorem natsOf_B (l : List Nat) : natsOf (B l) = some (M l) := by
  induction l with
  | nil => rfl
  | cons x l ih =>
    show (if x % 256 < 256 then (natsOf (B l)).map (x % 256 :: ·) else none) = _
    rw [if_pos (Nat.mod_lt _ (by omega)), ih]
    rfl
theorem natsOf_eq : ∀ {cs : List AV} {l : List Nat}, natsOf cs = some l → cs = B l
  | [], l, h => by simp [natsOf] at h; subst h; rfl
  | .int .u8 (.ofNat n) :: r, l, h => by
    simp only [natsOf] at h
    split at h
    · rename_i hn
      rw [Option.map_eq_some_iff] at h
      obtain ⟨l', h1, rfl⟩ := h
      rw [natsOf_eq h1]
      show _ = AV.int .u8 ((n % 256 : Nat) : Int) :: B l'
      rw [Nat.mod_eq_of_lt hn]
      rfl
    · cases h
  | .bad :: _, _, h => by simp [natsOf] at h
  | .bool _ :: _, _, h => by simp [natsOf] at h
  | .int .i8 _ :: _, _, h => by simp [natsOf] at h
  | .int .i16 _ :: _, _, h => by simp [natsOf] at h
  | .int .u16 _ :: _, _, h => by simp [natsOf] at h
  | .int .i32 _ :: _, _, h => by simp [natsOf] at h
  | .int .u32 _ :: _, _, h => by simp [natsOf] at h
  | .int .i64 _ :: _, _, h => by simp [natsOf] at h
  | .int .u64 _ :: _, _, h => by simp [natsOf] at h
  | .int .u8 (.negSucc _) :: _, _, h => by simp [natsOf] at h
  | .str _ :: _, _, h => by simp [natsOf] at h
  | .ptr _ _ :: _, _, h => by simp [natsOf] at h
  | .nilptr :: _, _, h => by simp [natsOf] at h
  | .slice _ _ _ _ :: _, _, h => by simp [natsOf] at h
  | .eslice _ _ _ _ :: _, _, h => by simp [natsOf] at h
  | .nilslice :: _, _, h => by simp [natsOf] at h
  | .map _ :: _, _, h => by simp [natsOf] at h
  | .nilmap :: _, _, h => by simp [natsOf] at h
  | .func _ _ _ :: _, _, h => by simp [natsOf] at h
  | .nilfunc :: _, _, h => by simp [natsOf] at h
  | .iface _ _ :: _, _, h => by simp [natsOf] at h
  | .niliface :: _, _, h => by simp [natsOf] at h
  | .agg _ :: _, _, h => by simp [natsOf] at h
  | .tup _ :: _, _, h => by simp [natsOf] at h
theorem plainB (l : List Nat) : plainW (.agg (B l)) = true := by
  show (B l).all plainA = true
  simp [B, b8, plainA]
/-- a table over a key and a block -/
def tKB (f : List Nat → List Nat → List Nat) (args : List AV) : Option AV := match args with
  | [.agg k, .agg b] => match natsOf k, natsOf b with
    | some kl, some bl => if kl.length = 32 ∧ bl.length = 16 then some (.agg (B (f kl bl))) else none
    | _, _ => none
  | _ => none
theorem tKB_B (f : List Nat → List Nat → List Nat) (k b : List Nat) (hk : k.length = 32) (hb : b.length = 16) : tKB f [.agg (B k), .agg (B b)] = some (.agg (B (f (M k) (M b)))) := by
  simp only [tKB, natsOf_B]
  rw [if_pos ⟨by simp [M, hk], by simp [M, hb]⟩]
theorem tKB_ok {E : Env} {d n : Nat} {f : List Nat → List Nat → List Nat} (hc : ∀ h kl b, kl.length = 32 → b.length = 16 → G (callD E d n [.agg (B kl), .agg (B b)] h) fun v h' => v = .agg (B (f kl b)) ∧ Keeps h h') :
    ∀ args v, tKB f args = some v → plainW v = true ∧ ∀ h : Heap, ∃ h', callD E d n args h = some (v, h') ∧ ∀ j, j < h.next → h'.get j = h.get j := by
  intro args v h
  unfold tKB at h
  split at h
  · rename_i k b
    split at h
    · rename_i kl bl h1 h2
      split at h
      · rename_i hl
        cases h
        rw [natsOf_eq h1, natsOf_eq h2]
        refine ⟨plainB _, fun h => ?_⟩
        obtain ⟨v, h', e, rfl, k⟩ := hc h kl bl hl.1 hl.2
        exact ⟨h', e, k.2⟩
      · cases h
    · cases h
  · cases h
noncomputable def c3 : Env := c2.memo1 33 (tKB rseal)
theorem c3_ok : c3.Ok := Env.memo1_ok c2_ok (d1 := 4) (tKB_ok fun h kl b hk hb => rseal_ok 0 h kl b hk hb)
noncomputable def c4 : Env := c3.memo1 35 (tKB ropen)
theorem c4_ok : c4.Ok := Env.memoOf_ok c3_ok c2_ok rfl (d1 := 4) (tKB_ok fun h kl b hk hb => ropen_ok 0 h kl b hk hb)
theorem q33 (d : Nat) (k b : List Nat) (h : Heap) (hk : k.length = 32) (hb : b.length = 16) : callD c4 (d + 1) 33 [.agg (B k), .agg (B b)] h = some (.agg (B (rseal (M k) (M b))), h) := memo_call (t := tKB rseal) rfl (tKB_B _ k b hk hb) d h
theorem q35 (d : Nat) (k b : List Nat) (h : Heap) (hk : k.length = 32) (hb : b.length = 16) : callD c4 (d + 1) 35 [.agg (B k), .agg (B b)] h = some (.agg (B (ropen (M k) (M b))), h) := memo_call (t := tKB ropen) rfl (tKB_B _ k b hk hb) d h
end Go.Proofs.Ythcbefolifpbpaa.R
