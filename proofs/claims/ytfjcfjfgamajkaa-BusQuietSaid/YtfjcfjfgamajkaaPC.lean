/- Of this program, for all inputs: contracts. No condition but those in the theorems. -/
import Derived.Test.YtfjcfjfgamajkaaPB
namespace Go.Proofs.Ytfjcfjfgamajkaa
open Go Go.Ai Go.Aw Go.Proofs
open Nat renaming reduceBEq → uB, reduceEqDiff → uE, reduceLT → uL, reduceAdd → uA, reduceMul → uM, reduceSub → uS, reduceAnd → uN, reduceXor → uX, reduceOr → uO
open Int renaming reduceMod → vR, reduceDiv → vD, reduceLT → vL, reduceLE → vK, reduceEq → vE, reduceAdd → vA, reduceMul → vM, reduceToNat → vT, reduceSub → vS
set_option linter.unusedSimpArgs false
set_option linter.unusedVariables false
set_option maxRecDepth 10000
def MS.new (n : Nat) : MS := ⟨n, [], [], [], [], false, false⟩
theorem MS.new_wf {n : Nat} (h : 0 < n) : (MS.new n).wf := ⟨h, by show 0 < 4000; omega, (fun _ hx => by cases hx), (fun _ hx => by cases hx), (fun _ hx => by cases hx), Nat.zero_le _, (fun _ hx => by cases hx)⟩
def BS.two (st : List Stp) : BS := ⟨[MS.new 4, MS.new 4], [(0, czz)], st, false, []⟩
theorem BS.two_wf {st : List Stp} (h1 : st.length < 4000) (h2 : ∀ s ∈ st, s.data.length = 64) : (BS.two st).wf :=
  ⟨fun S hS => by
    simp only [BS.two, List.mem_cons, List.not_mem_nil, or_false, or_self] at hS
    subst hS
    exact MS.new_wf (by omega), by show 2 ≤ 64; omega, by show 0 < 2; omega, fun x hx => by
    simp only [BS.two, List.mem_cons, List.not_mem_nil, or_false] at hx
    subst hx
    rfl, by show 1 < 4000; omega, by show 0 < 1; omega, h1, h2, by show 0 < 3990; omega, (fun _ hx => by cases hx)⟩
def colT (c : Col) (n kb : Nat) : Col := fun j => if j < n then c j else if j < n + 3 then kb + 2 else if j < n + 6 then kb + 3 else if j < n + 7 then kb else if j < n + 9 then kb + 1 else kb
end Go.Proofs.Ytfjcfjfgamajkaa
namespace Go.Aw
open Go Go.Ai
theorem bin_and7 {P : Program} {u : TypeId} (x : Int) : binE P .and u (.int .i64 x) (.int .i64 7) = some (.int .i64 (((x % 8).toNat : Nat) : Int)) := by
  have key : bitsA .and .i64 x 7 = some (((x % 8).toNat : Nat) : Int) := by
    have slow : IntKind.wrap .i64 ((BitVec.ofInt (IntKind.i64).bits x &&& BitVec.ofInt (IntKind.i64).bits 7).toNat : Int) = (((x % 8).toNat : Nat) : Int) := by
      have e1 : (BitVec.ofInt (IntKind.i64).bits x &&& BitVec.ofInt (IntKind.i64).bits 7).toNat = (x % 8).toNat := by
        show (BitVec.ofInt 64 x &&& BitVec.ofInt 64 7).toNat = _
        rw [BitVec.toNat_and, BitVec.toNat_ofInt, BitVec.toNat_ofInt]
        have e7 : ((7 : Int) % ((2 ^ 64 : Nat) : Int)).toNat = 2 ^ 3 - 1 := by decide
        rw [e7, Nat.and_two_pow_sub_one_eq_mod]
        omega
      rw [e1]
      have hlt : (x % 8).toNat < 8 := by omega
      generalize (x % 8).toNat = r at hlt
      match r, hlt with
      | 0, _ => rfl
      | 1, _ => rfl
      | 2, _ => rfl
      | 3, _ => rfl
      | 4, _ => rfl
      | 5, _ => rfl
      | 6, _ => rfl
      | 7, _ => rfl
    cases x with
    | negSucc a => show some (IntKind.wrap .i64 _) = _; rw [slow]
    | ofNat a =>
      show (match Nat.blt a (top .i64), Nat.blt 7 (top .i64) with
        | true, true => some (Int.ofNat (Nat.land a 7))
        | _, _ => some (IntKind.wrap .i64 _)) = _
      cases h : Nat.blt a (top .i64) with
      | false => show some (IntKind.wrap .i64 _) = _; rw [slow]
      | true =>
        show some (Int.ofNat (Nat.land a 7)) = _
        have : Nat.land a 7 = a % 8 := Nat.and_two_pow_sub_one_eq_mod a 3
        rw [this]
        simp only [Int.ofNat_eq_natCast]
        congr 1
  simp only [binE, binK, intOpK, key]
  simp [fI_eq]
end Go.Aw
namespace Go.Proofs.Ytfjcfjfgamajkaa
open Go Go.Ai Go.Aw Go.Proofs
open Nat renaming reduceBEq → uB, reduceEqDiff → uE, reduceLT → uL, reduceAdd → uA, reduceMul → uM, reduceSub → uS, reduceAnd → uN, reduceXor → uX, reduceOr → uO
open Int renaming reduceMod → vR, reduceDiv → vD, reduceLT → vL, reduceLE → vK, reduceEq → vE, reduceAdd → vA, reduceMul → vM, reduceToNat → vT, reduceSub → vS
set_option linter.unusedSimpArgs false
set_option linter.unusedVariables false
set_option maxRecDepth 10000
structure Act where
  k : Int
  m : Int
  i : Int
  x : List Nat
  lb : List Nat
def Act.C (a : Act) : List AV := .int .i64 a.k :: .int .i64 a.m :: .int .i64 a.i :: (B a.x ++ B a.lb)
theorem Act.C_len (a : Act) (h1 : a.x.length = 64) (h2 : a.lb.length = 32) : a.C.length = 99 := by simp [Act.C, B_len, h1, h2]
theorem Act.sc (a : Act) : allSc a.C = true := by
  have h1 := allSc_app (allSc_B a.x) (allSc_B a.lb)
  simp only [allSc] at h1
  simp only [Act.C, allSc, List.all_cons, h1]; rfl
theorem Act.cut (a : Act) (h1 : a.x.length = 64) (h2 : a.lb.length = 32) : cutE 0 99 a.C = some a.C := cut_all (by simp [a.C_len h1 h2])
def actZ : List AV := List.replicate 3 (AV.int IntKind.i64 0) ++ List.replicate 96 (b8 0)
theorem actZ_fold : List.replicate 3 (AV.int IntKind.i64 0) ++ List.replicate 96 (b8 0) = actZ := rfl
theorem Act.ov (a : Act) (h1 : a.x.length = 64) (h2 : a.lb.length = 32) : overE 0 a.C actZ = some a.C := by rw [overE_n, a.C_len h1 h2, ovN_full (by simp [actZ]), a.sc, scE_true]
theorem Act.at0 (a : Act) : a.C[0]? = some (.int .i64 a.k) := rfl
theorem Act.at1 (a : Act) : a.C[1]? = some (.int .i64 a.m) := rfl
theorem Act.at2 (a : Act) : a.C[2]? = some (.int .i64 a.i) := rfl
theorem Act.dat (a : Act) (h1 : a.x.length = 64) (h2 : a.lb.length = 32) : cutE 3 64 a.C = some (B a.x) := by
  rw [cutE_of (by rw [a.C_len h1 h2]; omega)]
  show some ((B a.x ++ B a.lb).take 64) = _
  rw [List.take_append_of_le_length (by simp [B_len, h1]), List.take_of_length_le (by simp [B_len, h1])]
def Act.r (a : Act) : Nat := (a.k % 8).toNat
/-- an act over a bus -/
def overR (b : BS) (a : Act) : Int × BS :=
  if a.r = 1 ∨ a.r = 2 then ((b.write a.m a.i a.x).1.e, (b.write a.m a.i a.x).2)
  else if a.r = 3 then ((b.flush a.m).1.e, (b.flush a.m).2)
  else if a.r = 4 then (b.cellR.1.e, b.cellR.2)
  else if a.r = 5 then ((b.advR a.lb).1.e, (b.advR a.lb).2)
  else if a.r = 6 then (0, b)
  else ((b.read a.m a.i).1.e, (b.read a.m a.i).2)
end Go.Proofs.Ytfjcfjfgamajkaa
namespace Go.Aw
open Go Go.Ai
set_option linter.unusedSimpArgs false
set_option linter.unusedVariables false
variable {P : Program} {h : Heap}
theorem app_capE {T e s k o kx ox n i ex : Nat} {ie : TypeInfo} {zv : Value} (E : Elem P T e s ie zv) (hn : n + 1 < 4096) {cs nw : List AV} {ro : Bool} (hg : h.get kx = some (.cells cs ex ro)) (hc : cutE ox ((n + 1) * (s + 1)) cs = some nw) (hl : nw.length = (n + 1) * (s + 1)) (hs : allSc nw = true) :
    appE P T (.slice k o 0 0) (.eslice kx ox i (n + 1)) h = some (.eslice h.next 0 0 (n + 1), h.new (.cells nw (s + 1) false)) := by
  have hsm := small_ok E.small hn
  have e0 : (n + 1) * (s + 1) = ((n + 1) * s + n) + 1 := by rw [Nat.mul_add]; omega
  have eb : Nat.ble (n + 1) 0 = false := rfl
  simp only [appE, appendK, unK_E, E.sl, th_some, E.info, E.zero, E.zsz, E.size, lenA, fN_eq, Nat.zero_add, hsm, firstK, eb, Nat.zero_mul, growK, p2]
  rw [e0] at hc hl ⊢
  simp only [hgetK_eq, hg, lcut_th, hc, llen_eq, Nat.zero_add, hl, Nat.beq_refl, lsc_eq, hs, lapp_eq, List.nil_append, newK_E, th_some]
end Go.Aw
namespace Go.Proofs.Ytfjcfjfgamajkaa
open Go Go.Ai Go.Aw Go.Proofs
open Nat renaming reduceBEq → uB, reduceEqDiff → uE, reduceLT → uL, reduceAdd → uA, reduceMul → uM, reduceSub → uS, reduceAnd → uN, reduceXor → uX, reduceOr → uO
open Int renaming reduceMod → vR, reduceDiv → vD, reduceLT → vL, reduceLE → vK, reduceEq → vE, reduceAdd → vA, reduceMul → vM, reduceToNat → vT, reduceSub → vS
set_option linter.unusedSimpArgs false
set_option linter.unusedVariables false
set_option maxRecDepth 10000
theorem allSc_flat {α : Type} (f : α → List AV) (hf : ∀ x, allSc (f x) = true) : ∀ l : List α, allSc (l.flatMap f) = true
  | [] => rfl
  | x :: l => by rw [List.flatMap_cons]; exact allSc_app (hf x) (allSc_flat f hf l)
end Go.Proofs.Ytfjcfjfgamajkaa
