import Derived.Test.YthcbefolifpbpaaAwOp
namespace Go.Aw
open Go Go.Ai
set_option linter.unusedSimpArgs false
variable {P : Program} {β : Type}
/-- a call within a region that draws -/
theorem G.callC {X : Cx} {ops : Array Oper} {o : Oper} {r : List Oper} {fl : Fl} {lg : List (Option LogS)} {hs : List Heap} {k : List Itm} {σ : Sg} {h0 : Heap} {c : Cls} {x : Option (AV × Heap)} {R Q : AV → Heap → Prop} (hc : G x R) (hq : ∀ v h, R v h → G (runBC X ops o r fl lg hs k σ h0 c (some (v, h))) Q) : G (runBC X ops o r fl lg hs k σ h0 c x) Q := by
  obtain ⟨v, h, rfl, hr⟩ := hc
  exact hq v h hr
def M (x : List Nat) : List Nat := x.map (· % 256)
theorem kEq_b8 (a b : Nat) : kEq .i (b8 a) (b8 b) = some (a % 256 == b % 256) := by
  show (if IntKind.u8 = IntKind.u8 then some (ieq ((a % 256 : Nat) : Int) ((b % 256 : Nat) : Int)) else none) = _
  rw [if_pos rfl, ieq_eq]
  congr 1
  rw [Bool.eq_iff_iff]
  simp only [beq_iff_eq]
  omega
theorem lenIs_rep (n : Nat) : ∀ (x y : List AV), x.length = n → y.length = n → lenIs (List.replicate n .i) x y = true := by
  induction n with
  | zero => intro x y hx hy; cases List.length_eq_zero_iff.1 hx; cases List.length_eq_zero_iff.1 hy; rfl
  | succ n ih =>
    intro x y hx hy
    cases x with
    | nil => cases hx
    | cons a x => cases y with
      | nil => cases hy
      | cons b y => exact ih x y (by simpa using hx) (by simpa using hy)
theorem scs_B (n : Nat) : ∀ (x y : List Nat), x.length = n → y.length = n → scsEqK (List.replicate n .i) (B x) (B y) some = some (decide (M x = M y)) := by
  induction n with
  | zero => intro x y hx hy; cases List.length_eq_zero_iff.1 hx; cases List.length_eq_zero_iff.1 hy; rfl
  | succ n ih =>
    intro x y hx hy
    cases x with
    | nil => cases hx
    | cons a x => cases y with
      | nil => cases hy
      | cons b y =>
        have hx' : x.length = n := by simpa using hx
        have hy' : y.length = n := by simpa using hy
        simp only [List.replicate_succ, B, List.map_cons, scsEqK, kEq_b8]
        cases hab : a % 256 == b % 256 with
        | true =>
          simp only
          have := ih x y hx' hy'
          unfold B at this
          rw [this]
          have hab : a % 256 = b % 256 := by simpa using hab
          refine congrArg some ?_
          rw [Bool.eq_iff_iff]
          simp only [decide_eq_true_eq, M, List.map_cons, hab, List.cons.injEq, true_and]
          exact ⟨of_decide_eq_true, fun h => decide_eq_true h⟩
        | false =>
          simp only
          rw [lenIs_rep n _ _ (by simp [hx']) (by simp [hy'])]
          have hab : a % 256 ≠ b % 256 := by simpa using hab
          simp [M, hab]
theorem eql_B {t : TypeId} {d : TypeDesc} {n : Nat} (hu : P.underlying t = some d) (ha : isAggD d = true) (hg : P.eqGuardType P.depth t = false) (hk : plainKs P 30 t = some (List.replicate n .i)) (x y : List Nat) (hx : x.length = n) (hy : y.length = n) :
    eqlE P t (.agg (B x)) (.agg (B y)) = some (decide (M x = M y)) := by
  simp only [eqlE, eqlK, unK_E, hu, th_some]
  have key : (match true, P.eqGuardType P.depth t, plainKs P 30 t with
      | true, false, some ks => scsEqK ks (B x) (B y) some
      | _, _, _ => none) = some (decide (M x = M y)) := by
    rw [hg, hk]
    exact scs_B n x y hx hy
  cases d <;> first | exact key | cases ha
theorem bin_eql_agg (t : TypeId) (xs ys : List AV) : binE P .eql t (.agg xs) (.agg ys) = th (eqlE P t (.agg xs) (.agg ys)) fun b => some (.bool b) := by
  simp only [binE, binK, eqlK_E]
theorem bin_neq_agg (t : TypeId) (xs ys : List AV) : binE P .neq t (.agg xs) (.agg ys) = th (eqlE P t (.agg xs) (.agg ys)) fun b => some (.bool (!b)) := by
  simp only [binE, binK, eqlK_E]
  exact th_congr _ fun b => by cases b <;> rfl
theorem same_B (l : List Nat) : AV.same (.agg (B l)) (.agg (B l)) = true := by
  show scsSame (B l) (B l) = true
  induction l with
  | nil => rfl
  | cons x l ih =>
    show (match scSame (b8 x) (b8 x) with | true => scsSame (B l) (B l) | false => false) = true
    have : scSame (b8 x) (b8 x) = true := by
      show (IntKind.u8 == IntKind.u8 && ieq ((x % 256 : Nat) : Int) ((x % 256 : Nat) : Int)) = true
      simp [ieq_eq]
    rw [this]
    exact ih
theorem B_rep (n x : Nat) : List.replicate n (b8 x) = B (List.replicate n x) := by simp [B]
theorem over_B {x y : List Nat} (h : x.length = y.length) : overE 0 (B x) (B y) = some (B x) := by
  rw [overE_n, B_len, ovN_full (by simp [B_len, h]), allSc_B, scE_true]
theorem cutB_all {n : Nat} {l : List Nat} (h : l.length = n) : cutE 0 n (B l) = some (B l) := cut_all (by simp [B_len, h])
end Go.Aw
