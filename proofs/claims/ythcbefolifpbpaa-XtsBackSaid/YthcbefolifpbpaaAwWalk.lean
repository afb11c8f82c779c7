import Derived.Test.YthcbefolifpbpaaAwRun
namespace Go.Aw
open Go Go.Ai
set_option linter.unusedSimpArgs false
variable {P : Program} {β : Type}

/-! a run as a stack of what is still to do: no binders -/
inductive Itm where
  | code (c : Code)
  | ops (ops : Array Oper) (l : List Oper)
  | opsD (ops : Array Oper) (l : List Oper) (fl : Fl) (lg : List (Option LogS)) (hs : List Heap)
  | blk (id : Nat)
  | it (c : Code) (m : Nat)
structure Cx where
  P : Program
  call : CallK
  L : Nat
  n : Nat
  D : List (Nat × Fl)
  rs : List ResultVar
def stackS (X : Cx) : List Itm → Ex → Sg → Heap → Option (AV × Heap)
  | [], e, σ, h => finS X.P X.rs e σ h
  | .code c :: k, e, σ, h => match e with
    | .normal => codeF X.P X.call X.L X.n X.D c σ h fun e σ h => stackS X k e σ h
    | e => stackS X k e σ h
  | .ops ops l :: k, e, σ, h => match e with
    | .normal => opsS X.P X.call X.n ops l σ h fun σ h => stackS X k .normal σ h
    | e => stackS X k e σ h
  | .opsD ops l fl lg hs :: k, e, σ, h => match e with
    | .normal => opsDS X.P X.call X.n ops l σ h lg hs fun σ h lg hs => cond (chkS X.P lg.reverse hs.reverse fl) (stackS X k .normal σ h) none
    | e => stackS X k e σ h
  | .blk id :: k, e, σ, h => match e with
    | .exit j => (match Nat.beq j id with | true => stackS X k .normal σ h | false => stackS X k (.exit j) σ h)
    | e => stackS X k e σ h
  | .it c m :: k, e, σ, h => match e with
    | .normal => iterS (fun σ h K => codeF X.P X.call X.L X.n X.D c σ h K) m σ h fun e σ h => stackS X k e σ h
    | e => stackS X k e σ h
def run (X : Cx) (k : List Itm) (σ : Sg) (h : Heap) : Option (AV × Heap) := stackS X k .normal σ h
def runX (X : Cx) (k : List Itm) (e : Ex) (σ : Sg) (h : Heap) : Option (AV × Heap) := stackS X k e σ h
variable (X : Cx) (k : List Itm) (σ : Sg) (h : Heap)
theorem callD_run {E : Env} {d : Nat} {f : FuncId} {fn : Func} {c : Code} {args : List AV} {h : Heap} (D : List (Nat × Fl)) (ho : E.ora f = none) (hf : E.P.funcs[f]? = some fn) (hb : fn.body = some c) (hl : args.length ≤ fn.ntmps) (hfl : flatOk E.P D c = true) :
    callD E (d + 1) f args h = run ⟨E.P, callD E d, E.L, fn.ntmps, D, fn.results.toList⟩ [.code c] (argS args) h := by
  rw [callD_S ho hf hb hl, codeS_F c hfl]; rfl
theorem run_nil : run X [] σ h = th (resE X.P σ h X.rs) fun vs => some (oneV vs, h) := rfl
theorem run_skip : run X (.code .skip :: k) σ h = run X k σ h := rfl
theorem run_label (l : Nat) : run X (.code (.label l) :: k) σ h = run X k σ h := rfl
theorem run_seq (a b : Code) : run X (.code (.seq a b) :: k) σ h = run X (.code a :: .code b :: k) σ h := by
  simp only [run, stackS, codeF]
  congr 1
theorem run_scope (a : Code) : run X (.code (.scope a) :: k) σ h = run X (.code a :: k) σ h := rfl
theorem run_block (id : Nat) (a : Code) : run X (.code (.block id a) :: k) σ h = run X (.code a :: .blk id :: k) σ h := by
  simp only [run, stackS, codeF]
  congr 1
theorem run_blk (id : Nat) : run X (.blk id :: k) σ h = run X k σ h := rfl
theorem run_exit (id : Nat) : run X (.code (.exit id) :: k) σ h = runX X k (.exit id) σ h := rfl
theorem run_loop (c : Code) : run X (.code (.loop c) :: k) σ h = run X (.it c X.L :: k) σ h := rfl
theorem run_it (c : Code) (m : Nat) : run X (.it c (m + 1) :: k) σ h = run X (.code c :: .it c m :: k) σ h := by
  simp only [run, stackS, iterS]
  congr 1
theorem runX_code (c : Code) (e : Nat) : runX X (.code c :: k) (.exit e) σ h = runX X k (.exit e) σ h := rfl
theorem runX_it (c : Code) (m e : Nat) : runX X (.it c m :: k) (.exit e) σ h = runX X k (.exit e) σ h := rfl
theorem runX_blk (id e : Nat) : runX X (.blk id :: k) (.exit e) σ h = if e = id then run X k σ h else runX X k (.exit e) σ h := by
  show (match Nat.beq e id with | true => _ | false => _) = _
  split
  · rename_i hb; rw [if_pos (Nat.eq_of_beq_eq_true hb)]; rfl
  · rename_i hb; rw [if_neg (Nat.ne_of_beq_eq_false hb)]; rfl
theorem stack_ret : ∀ k, stackS X k .ret σ h = finS X.P X.rs .ret σ h
  | [] => rfl
  | .code _ :: k => stack_ret k
  | .ops _ _ :: k => stack_ret k
  | .opsD _ _ _ _ _ :: k => stack_ret k
  | .blk _ :: k => stack_ret k
  | .it _ _ :: k => stack_ret k
theorem run_ret : run X (.code .ret :: k) σ h = th (resE X.P σ h X.rs) fun vs => some (oneV vs, h) := stack_ret X σ h k
/-- two ways -/
def runC (X : Cx) (v : AV) (a b : Code) (k : List Itm) (σ : Sg) (h : Heap) : Option (AV × Heap) := match v with
  | .bool true => run X (.code a :: k) σ h
  | .bool false => run X (.code b :: k) σ h
  | _ => none
theorem run_cond (c : Operand) (a b : Code) : run X (.code (.cond c a b) :: k) σ h = runC X (ev σ c) a b k σ h := by
  simp only [run, runC, stackS, codeF]
  cases ev σ c <;> rfl
theorem runC_true (a b : Code) : runC X (.bool true) a b k σ h = run X (.code a :: k) σ h := rfl
theorem runC_false (a b : Code) : runC X (.bool false) a b k σ h = run X (.code b :: k) σ h := rfl
theorem run_region (id : Nat) (l : List Oper) : run X (.code (.region id l.toArray false) :: k) σ h = run X (.ops l.toArray l :: k) σ h := rfl
/-- a region that draws: one of the list, or not -/
def runR (X : Cx) (d : Option Fl) (l : List Oper) (k : List Itm) (σ : Sg) (h : Heap) : Option (AV × Heap) := match d with
  | none => run X (.ops l.toArray l :: k) σ h
  | some fl => run X (.opsD l.toArray l fl [] [h] :: k) σ h
theorem run_regionD (id : Nat) (l : List Oper) : run X (.code (.region id l.toArray true) :: k) σ h = runR X (look X.D id) l k σ h := by
  simp only [run, stackS, codeF, cond_true]
  cases look X.D id <;> rfl
theorem runR_none (l : List Oper) : runR X none l k σ h = run X (.ops l.toArray l :: k) σ h := rfl
theorem runR_some (fl : Fl) (l : List Oper) : runR X (some fl) l k σ h = run X (.opsD l.toArray l fl [] [h] :: k) σ h := rfl
def lookB (b : Bool) (fl : Fl) (D : List (Nat × Fl)) (id : Nat) : Option Fl := match b with
  | true => some fl
  | false => look D id
theorem look_nil (id : Nat) : look [] id = none := rfl
theorem look_cons (i : Nat) (fl : Fl) (D : List (Nat × Fl)) (id : Nat) : look ((i, fl) :: D) id = lookB (i == id) fl D id := by
  show (match Nat.beq i id with | true => some fl | false => look D id) = _
  cases h : Nat.beq i id with
  | true => rw [Nat.eq_of_beq_eq_true h]; simp [lookB]
  | false => have h2 : (i == id) = false := by simpa using Nat.ne_of_beq_eq_false h
             rw [h2]; rfl
theorem lookB_true (fl : Fl) (D : List (Nat × Fl)) (id : Nat) : lookB true fl D id = some fl := rfl
theorem lookB_false (fl : Fl) (D : List (Nat × Fl)) (id : Nat) : lookB false fl D id = look D id := rfl
theorem run_ops_nil (ops : Array Oper) : run X (.ops ops [] :: k) σ h = run X k σ h := rfl
def runB (X : Cx) (ops : Array Oper) (dst : Option Tmp) (r : List Oper) (k : List Itm) (σ : Sg) : Option (AV × Heap) → Option (AV × Heap)
  | some (v, h) => (match fitsD X.n dst with | true => run X (.ops ops r :: k) (updO σ dst v) h | false => none)
  | none => none
def runL (b : Bool) (X : Cx) (k : List Itm) (σ : Sg) (h : Heap) : Option (AV × Heap) := match b with
  | true => run X k σ h
  | false => none
theorem runL_true : runL true X k σ h = run X k σ h := rfl
theorem runL_if (c : Prop) [Decidable c] : (if c then run X k σ h else none) = runL (decide c) X k σ h := by by_cases hc : c <;> simp [hc, runL]
theorem runB_some' (ops : Array Oper) (d : Nat) (r : List Oper) (v : AV) : runB X ops (some d) r k σ (some (v, h)) = if d < X.n then run X (.ops ops r :: k) (upd σ d v) h else none := by
  by_cases hd : d < X.n
  · have : fitsD X.n (some d) = true := Nat.blt_eq.mpr hd
    simp only [runB, this, if_pos hd]; rfl
  · have : fitsD X.n (some d) = false := by
      cases hb : fitsD X.n (some d) with
      | true => exact absurd (Nat.blt_eq.mp hb) hd
      | false => rfl
    simp only [runB, this, if_neg hd]
theorem runB_some (ops : Array Oper) (d : Nat) (r : List Oper) (v : AV) : runB X ops (some d) r k σ (some (v, h)) = runL (decide (d < X.n)) X (.ops ops r :: k) (upd σ d v) h := by rw [runB_some', runL_if]
theorem runB_none (ops : Array Oper) (r : List Oper) (v : AV) : runB X ops none r k σ (some (v, h)) = run X (.ops ops r :: k) σ h := rfl
theorem run_ops (ops : Array Oper) (o : Oper) (r : List Oper) : run X (.ops ops (o :: r) :: k) σ h = match wantS ops σ o with | true => runB X ops o.dst r k σ (opE X.P X.call (ev σ) o h) | false => runB X ops o.dst r k σ (some (undefA, h)) := by
  simp only [run, stackS, opsS]
  cases wantS ops σ o with
  | true =>
    simp only
    cases opE X.P X.call (ev σ) o h with
    | none => rfl
    | some p => rfl
  | false => rfl
theorem run_ops_plain (ops : Array Oper) (d : Option Tmp) (o : Op) (t : TypeId) (p : String) (a : Array Edge) (r : List Oper) : run X (.ops ops (⟨d, o, t, p, a, none⟩ :: r) :: k) σ h = runB X ops d r k σ (opE X.P X.call (ev σ) ⟨d, o, t, p, a, none⟩ h) := by
  rw [run_ops]; rfl
/-- an operation behind a guard -/
def isB : AV → Bool → Bool
  | .bool b, w => b == w
  | _, _ => false
def wantG (σ : Sg) : Option Tmp → Bool → Bool
  | some t, w => isB (σ t) w
  | none, _ => false
theorem isB_bool (b w : Bool) : isB (.bool b) w = (b == w) := rfl
theorem wantG_some (t : Tmp) (w : Bool) : wantG σ (some t) w = isB (σ t) w := rfl
def runG (X : Cx) (b : Bool) (ops : Array Oper) (o : Oper) (r : List Oper) (k : List Itm) (σ : Sg) (h : Heap) : Option (AV × Heap) := match b with
  | true => runB X ops o.dst r k σ (opE X.P X.call (ev σ) o h)
  | false => runB X ops o.dst r k σ (some (undefA, h))
theorem runG_true (ops : Array Oper) (o : Oper) (r : List Oper) : runG X true ops o r k σ h = runB X ops o.dst r k σ (opE X.P X.call (ev σ) o h) := rfl
theorem runG_false (ops : Array Oper) (o : Oper) (r : List Oper) : runG X false ops o r k σ h = runB X ops o.dst r k σ (some (undefA, h)) := rfl
theorem run_ops_guard (l : List Oper) (d : Option Tmp) (o : Op) (t : TypeId) (p : String) (a : Array Edge) (j : Nat) (w : Bool) (r : List Oper) :
    run X (.ops l.toArray (⟨d, o, t, p, a, some (j, w)⟩ :: r) :: k) σ h = runG X (wantG σ ((l[j]?).bind (·.dst)) w) l.toArray ⟨d, o, t, p, a, some (j, w)⟩ r k σ h := by
  rw [run_ops]
  have : wantS l.toArray σ ⟨d, o, t, p, a, some (j, w)⟩ = wantG σ ((l[j]?).bind (·.dst)) w := by
    simp only [wantS, List.getElem?_toArray]
    cases (l[j]?).bind (·.dst) with
    | none => rfl
    | some t => simp only [wantG]; cases σ t <;> rfl
  rw [this]
  cases wantG σ ((l[j]?).bind (·.dst)) w <;> rfl
/-! regions that draw -/
def runBD (X : Cx) (ops : Array Oper) (o : Oper) (r : List Oper) (fl : Fl) (lg : List (Option LogS)) (hs : List Heap) (k : List Itm) (σ : Sg) (h : Heap) : Option (AV × Heap) → Option (AV × Heap)
  | some (v, h') => (match fitsD X.n o.dst with
    | true => (match isX (cls X.P o) with
      | true => run X (.opsD ops r fl (none :: lg) (h' :: hs) :: k) (updO σ o.dst v) h'
      | false => run X (.opsD ops r fl ((match isR (cls X.P o) with | true => some ⟨o, σ, v⟩ | false => none) :: lg) hs :: k) (updO σ o.dst v) h)
    | false => none)
  | none => none
theorem run_opsD (ops : Array Oper) (o : Oper) (r : List Oper) (fl : Fl) (lg : List (Option LogS)) (hs : List Heap) : run X (.opsD ops (o :: r) fl lg hs :: k) σ h = match wantS ops σ o with
    | true => runBD X ops o r fl lg hs k σ h (opE X.P X.call (ev σ) o h)
    | false => (match fitsD X.n o.dst with
      | true => run X (.opsD ops r fl (none :: lg) (match isX (cls X.P o) with | true => h :: hs | false => hs) :: k) (updO σ o.dst undefA) h
      | false => none) := by
  simp only [run, stackS, opsDS]
  cases wantS ops σ o with
  | true =>
    simp only
    cases opE X.P X.call (ev σ) o h with
    | none => rfl
    | some p => rfl
  | false => rfl
theorem run_opsD_nil (ops : Array Oper) (fl : Fl) (lg : List (Option LogS)) (hs : List Heap) : run X (.opsD ops [] fl lg hs :: k) σ h = cond (chkS X.P lg.reverse hs.reverse fl) (run X k σ h) none := rfl
theorem isB_tt : isB (.bool true) true = true := rfl
theorem isB_ff : isB (.bool false) false = true := rfl
theorem isB_tf : isB (.bool true) false = false := rfl
theorem isB_ft : isB (.bool false) true = false := rfl
/-- what comes of one operation, by its class -/
def runBC (X : Cx) (ops : Array Oper) (o : Oper) (r : List Oper) (fl : Fl) (lg : List (Option LogS)) (hs : List Heap) (k : List Itm) (σ : Sg) (h : Heap) : Cls → Option (AV × Heap) → Option (AV × Heap)
  | .p, some (v, _) => (match fitsD X.n o.dst with | true => run X (.opsD ops r fl (none :: lg) hs :: k) (updO σ o.dst v) h | false => none)
  | .r, some (v, _) => (match fitsD X.n o.dst with | true => run X (.opsD ops r fl (some ⟨o, σ, v⟩ :: lg) hs :: k) (updO σ o.dst v) h | false => none)
  | _, some (v, h') => (match fitsD X.n o.dst with | true => run X (.opsD ops r fl (none :: lg) (h' :: hs) :: k) (updO σ o.dst v) h' | false => none)
  | _, none => none
theorem fits_lt {n d : Nat} : fitsD n (some d) = decide (d < n) := by
  show Nat.blt d n = _
  rw [Bool.eq_iff_iff]; simp [Nat.blt_eq]
theorem runBC_p (ops : Array Oper) (d : Tmp) (o : Op) (t : TypeId) (p : String) (a : Array Edge) (g : Option (Nat × Bool)) (r : List Oper) (fl : Fl) (lg : List (Option LogS)) (hs : List Heap) (v : AV) (h' : Heap) :
    runBC X ops ⟨some d, o, t, p, a, g⟩ r fl lg hs k σ h .p (some (v, h')) = runL (decide (d < X.n)) X ((.opsD ops r fl (none :: lg) hs :: k)) (upd σ d v) h := by
  simp only [runBC, fits_lt]
  by_cases hd : d < X.n <;> simp [hd, updO, runL]
theorem runBC_r (ops : Array Oper) (d : Tmp) (o : Op) (t : TypeId) (p : String) (a : Array Edge) (g : Option (Nat × Bool)) (r : List Oper) (fl : Fl) (lg : List (Option LogS)) (hs : List Heap) (v : AV) (h' : Heap) :
    runBC X ops ⟨some d, o, t, p, a, g⟩ r fl lg hs k σ h .r (some (v, h')) = runL (decide (d < X.n)) X ((.opsD ops r fl (some ⟨⟨some d, o, t, p, a, g⟩, σ, v⟩ :: lg) hs :: k)) (upd σ d v) h := by
  simp only [runBC, fits_lt]
  by_cases hd : d < X.n <;> simp [hd, updO, runL]
theorem runBC_a (ops : Array Oper) (d : Tmp) (o : Op) (t : TypeId) (p : String) (a : Array Edge) (g : Option (Nat × Bool)) (r : List Oper) (fl : Fl) (lg : List (Option LogS)) (hs : List Heap) (v : AV) (h' : Heap) :
    runBC X ops ⟨some d, o, t, p, a, g⟩ r fl lg hs k σ h .a (some (v, h')) = runL (decide (d < X.n)) X ((.opsD ops r fl (none :: lg) (h' :: hs) :: k)) (upd σ d v) h' := by
  simp only [runBC, fits_lt]
  by_cases hd : d < X.n <;> simp [hd, updO, runL]
theorem runBC_e (ops : Array Oper) (d : Tmp) (o : Op) (t : TypeId) (p : String) (a : Array Edge) (g : Option (Nat × Bool)) (r : List Oper) (fl : Fl) (lg : List (Option LogS)) (hs : List Heap) (v : AV) (h' : Heap) :
    runBC X ops ⟨some d, o, t, p, a, g⟩ r fl lg hs k σ h .e (some (v, h')) = runL (decide (d < X.n)) X ((.opsD ops r fl (none :: lg) (h' :: hs) :: k)) (upd σ d v) h' := by
  simp only [runBC, fits_lt]
  by_cases hd : d < X.n <;> simp [hd, updO, runL]
theorem runBC_e0 (ops : Array Oper) (o : Op) (t : TypeId) (p : String) (a : Array Edge) (g : Option (Nat × Bool)) (r : List Oper) (fl : Fl) (lg : List (Option LogS)) (hs : List Heap) (v : AV) (h' : Heap) :
    runBC X ops ⟨none, o, t, p, a, g⟩ r fl lg hs k σ h .e (some (v, h')) = run X (.opsD ops r fl (none :: lg) (h' :: hs) :: k) σ h' := rfl
theorem runBD_C (ops : Array Oper) (o : Oper) (r : List Oper) (fl : Fl) (lg : List (Option LogS)) (hs : List Heap) (x : Option (AV × Heap)) : runBD X ops o r fl lg hs k σ h x = runBC X ops o r fl lg hs k σ h (cls X.P o) x := by
  cases x with
  | none => cases cls X.P o <;> rfl
  | some p => obtain ⟨v, h'⟩ := p; cases hc : cls X.P o <;> simp only [runBD, runBC, hc, isX, isR]
theorem run_opsD_plain (ops : Array Oper) (d : Option Tmp) (o : Op) (t : TypeId) (p : String) (a : Array Edge) (r : List Oper) (fl : Fl) (lg : List (Option LogS)) (hs : List Heap) :
    run X (.opsD ops (⟨d, o, t, p, a, none⟩ :: r) fl lg hs :: k) σ h = runBC X ops ⟨d, o, t, p, a, none⟩ r fl lg hs k σ h (cls X.P ⟨d, o, t, p, a, none⟩) (opE X.P X.call (ev σ) ⟨d, o, t, p, a, none⟩ h) := by
  rw [run_opsD, ← runBD_C]; rfl
/-- a guarded one that is left out -/
def runN (X : Cx) (ops : Array Oper) (dst : Option Tmp) (r : List Oper) (fl : Fl) (lg : List (Option LogS)) (hs : List Heap) (k : List Itm) (σ : Sg) (h : Heap) : Cls → Option (AV × Heap)
  | .p => (match fitsD X.n dst with | true => run X (.opsD ops r fl (none :: lg) hs :: k) (updO σ dst undefA) h | false => none)
  | .r => (match fitsD X.n dst with | true => run X (.opsD ops r fl (none :: lg) hs :: k) (updO σ dst undefA) h | false => none)
  | _ => (match fitsD X.n dst with | true => run X (.opsD ops r fl (none :: lg) (h :: hs) :: k) (updO σ dst undefA) h | false => none)
def runGD (X : Cx) (b : Bool) (ops : Array Oper) (o : Oper) (r : List Oper) (fl : Fl) (lg : List (Option LogS)) (hs : List Heap) (k : List Itm) (σ : Sg) (h : Heap) : Option (AV × Heap) := match b with
  | true => runBC X ops o r fl lg hs k σ h (cls X.P o) (opE X.P X.call (ev σ) o h)
  | false => runN X ops o.dst r fl lg hs k σ h (cls X.P o)
theorem runGD_true (ops : Array Oper) (o : Oper) (r : List Oper) (fl : Fl) (lg : List (Option LogS)) (hs : List Heap) : runGD X true ops o r fl lg hs k σ h = runBC X ops o r fl lg hs k σ h (cls X.P o) (opE X.P X.call (ev σ) o h) := rfl
theorem runGD_false (ops : Array Oper) (o : Oper) (r : List Oper) (fl : Fl) (lg : List (Option LogS)) (hs : List Heap) : runGD X false ops o r fl lg hs k σ h = runN X ops o.dst r fl lg hs k σ h (cls X.P o) := rfl
theorem runN_p (ops : Array Oper) (d : Tmp) (r : List Oper) (fl : Fl) (lg : List (Option LogS)) (hs : List Heap) : runN X ops (some d) r fl lg hs k σ h .p = runL (decide (d < X.n)) X ((.opsD ops r fl (none :: lg) hs :: k)) (upd σ d undefA) h := by
  simp only [runN, fits_lt]
  by_cases hd : d < X.n <;> simp [hd, updO, runL]
theorem runN_r (ops : Array Oper) (d : Tmp) (r : List Oper) (fl : Fl) (lg : List (Option LogS)) (hs : List Heap) : runN X ops (some d) r fl lg hs k σ h .r = runL (decide (d < X.n)) X ((.opsD ops r fl (none :: lg) hs :: k)) (upd σ d undefA) h := by
  simp only [runN, fits_lt]
  by_cases hd : d < X.n <;> simp [hd, updO, runL]
theorem runN_a (ops : Array Oper) (d : Tmp) (r : List Oper) (fl : Fl) (lg : List (Option LogS)) (hs : List Heap) : runN X ops (some d) r fl lg hs k σ h .a = runL (decide (d < X.n)) X ((.opsD ops r fl (none :: lg) (h :: hs) :: k)) (upd σ d undefA) h := by
  simp only [runN, fits_lt]
  by_cases hd : d < X.n <;> simp [hd, updO, runL]
theorem runN_e (ops : Array Oper) (d : Tmp) (r : List Oper) (fl : Fl) (lg : List (Option LogS)) (hs : List Heap) : runN X ops (some d) r fl lg hs k σ h .e = runL (decide (d < X.n)) X ((.opsD ops r fl (none :: lg) (h :: hs) :: k)) (upd σ d undefA) h := by
  simp only [runN, fits_lt]
  by_cases hd : d < X.n <;> simp [hd, updO, runL]
theorem runN_e0 (ops : Array Oper) (r : List Oper) (fl : Fl) (lg : List (Option LogS)) (hs : List Heap) : runN X ops none r fl lg hs k σ h .e = run X (.opsD ops r fl (none :: lg) (h :: hs) :: k) σ h := rfl
theorem wantS_G {l : List Oper} {σ : Sg} {d : Option Tmp} {o : Op} {t : TypeId} {p : String} {a : Array Edge} {j : Nat} {w : Bool} : wantS l.toArray σ ⟨d, o, t, p, a, some (j, w)⟩ = wantG σ ((l[j]?).bind (·.dst)) w := by
  simp only [wantS, List.getElem?_toArray]
  cases (l[j]?).bind (·.dst) with
  | none => rfl
  | some t => simp only [wantG]; cases σ t <;> rfl
theorem run_opsD_guard (l : List Oper) (d : Option Tmp) (o : Op) (t : TypeId) (p : String) (a : Array Edge) (j : Nat) (w : Bool) (r : List Oper) (fl : Fl) (lg : List (Option LogS)) (hs : List Heap) :
    run X (.opsD l.toArray (⟨d, o, t, p, a, some (j, w)⟩ :: r) fl lg hs :: k) σ h = runGD X (wantG σ ((l[j]?).bind (·.dst)) w) l.toArray ⟨d, o, t, p, a, some (j, w)⟩ r fl lg hs k σ h := by
  rw [run_opsD, wantS_G]
  cases wantG σ ((l[j]?).bind (·.dst)) w with
  | true => simp only [runGD, ← runBD_C]
  | false =>
    simp only [runGD, runN]
    cases hc : cls X.P ⟨d, o, t, p, a, some (j, w)⟩ <;> simp only [isX]
/-! the reads that float, asked again -/
def sameO (v : AV) : Option AV → Bool
  | some u => v.same u
  | none => false
theorem sameO_some (v u : AV) : sameO v (some u) = v.same u := rfl
def chk1 (P : Program) (o : Oper) (σ : Sg) (v : AV) : List Heap → Bool
  | [] => true
  | h :: hs => sameO v (readE P (ev σ) o h) && chk1 P o σ v hs
def chkL (P : Program) (hs : List Heap) : Option (Option LogS) → Bool
  | some (some ⟨o, σ, v⟩) => chk1 P o σ v hs
  | some none => true
  | none => false
theorem chkHS_1 (l : LogS) : ∀ hs : List Heap, chkHS P l hs = chk1 P l.o l.σ l.v hs
  | [] => rfl
  | h :: hs => by
    have := chkHS_1 l hs
    simp only [chkHS, List.all_cons, chk1] at this ⊢
    rw [this]
    cases readE P (ev l.σ) l.o h <;> rfl
theorem chkS_nil (lg : List (Option LogS)) (hs : List Heap) : chkS P lg hs [] = true := rfl
theorem chkS_cons (lg : List (Option LogS)) (hs : List Heap) (i lo hi : Nat) (r : Fl) : chkS P lg hs ((i, lo, hi) :: r) = (chkL P ((hs.drop lo).take (hi - lo + 1)) lg[i]? && chkS P lg hs r) := by
  simp only [chkS]
  cases lg[i]? with
  | none => rfl
  | some x =>
    cases x with
    | none => simp [chkL]
    | some l => obtain ⟨o, σ, v⟩ := l; simp only [chkL, chkHS_1]
theorem chkL_some (hs : List Heap) (o : Oper) (σ : Sg) (v : AV) : chkL P hs (some (some ⟨o, σ, v⟩)) = chk1 P o σ v hs := rfl
theorem chkL_none (hs : List Heap) : chkL P hs (some none) = true := rfl
theorem chk1_nil (o : Oper) (σ : Sg) (v : AV) : chk1 P o σ v [] = true := rfl
theorem chk1_cons (o : Oper) (σ : Sg) (v : AV) (h : Heap) (hs : List Heap) : chk1 P o σ v (h :: hs) = (sameO v (readE P (ev σ) o h) && chk1 P o σ v hs) := rfl
/-- the end of such a region -/
def runZ (b : Bool) (X : Cx) (k : List Itm) (σ : Sg) (h : Heap) : Option (AV × Heap) := match b with
  | true => run X k σ h
  | false => none
theorem runZ_true : runZ true X k σ h = run X k σ h := rfl
theorem run_opsD_end (ops : Array Oper) (fl : Fl) (lg : List (Option LogS)) (hs : List Heap) : run X (.opsD ops [] fl lg hs :: k) σ h = runZ (chkS X.P lg.reverse hs.reverse fl) X k σ h := by
  rw [run_opsD_nil]
  cases chkS X.P lg.reverse hs.reverse fl <;> rfl
theorem same_int (k : IntKind) (n : Int) : AV.same (.int k n) (.int k n) = true := by
  show (k == k && ieq n n) = true
  simp [ieq_eq]
theorem same_bool (b : Bool) : AV.same (.bool b) (.bool b) = true := by cases b <;> rfl
theorem same_ptr (k o : Nat) : AV.same (.ptr k o) (.ptr k o) = true := by simp [AV.same, scSame]
theorem same_slice (k o l c : Nat) : AV.same (.slice k o l c) (.slice k o l c) = true := by simp [AV.same, scSame]
theorem same_eslice (k o l c : Nat) : AV.same (.eslice k o l c) (.eslice k o l c) = true := by simp [AV.same, scSame]
theorem same_map (k : Nat) : AV.same (.map k) (.map k) = true := by simp [AV.same, scSame]
theorem same_agg (cs : List AV) : AV.same (.agg cs) (.agg cs) = scsSame cs cs := rfl
/-! what a run comes to -/
def G (r : Option (AV × Heap)) (Q : AV → Heap → Prop) : Prop := ∃ v h', r = some (v, h') ∧ Q v h'
theorem G.ok {v : AV} {h : Heap} {Q : AV → Heap → Prop} (q : Q v h) : G (some (v, h)) Q := ⟨v, h, rfl, q⟩
theorem G.mono {r : Option (AV × Heap)} {Q Q' : AV → Heap → Prop} (g : G r Q) (hq : ∀ v h, Q v h → Q' v h) : G r Q' := let ⟨v, h, e, q⟩ := g; ⟨v, h, e, hq v h q⟩
theorem loop_ind {X : Cx} {c : Code} {k : List Itm} {Q : AV → Heap → Prop} (I : Nat → Sg → Heap → Prop)
    (hend : ∀ m σ h, I 0 σ h → G (run X (.it c (m + 1) :: k) σ h) Q)
    (hstep : ∀ j m σ h, I (j + 1) σ h → (∀ σ' h', I j σ' h' → G (run X (.it c m :: k) σ' h') Q) → G (run X (.it c (m + 1) :: k) σ h) Q) :
    ∀ (j m : Nat) (σ : Sg) (h : Heap), j < m → I j σ h → G (run X (.it c m :: k) σ h) Q := by
  intro j
  induction j with
  | zero =>
    intro m σ h hm hI
    obtain ⟨m, rfl⟩ : ∃ q, m = q + 1 := ⟨m - 1, by omega⟩
    exact hend m σ h hI
  | succ j ih =>
    intro m σ h hm hI
    obtain ⟨m, rfl⟩ : ∃ q, m = q + 1 := ⟨m - 1, by omega⟩
    exact hstep j m σ h hI fun σ' h' hI' => ih m σ' h' (by omega) hI'
/-- a call within a run -/
theorem G.call {X : Cx} {ops : Array Oper} {dst : Option Tmp} {r : List Oper} {k : List Itm} {σ : Sg} {x : Option (AV × Heap)} {R Q : AV → Heap → Prop} (hc : G x R) (hq : ∀ v h, R v h → G (runB X ops dst r k σ (some (v, h))) Q) : G (runB X ops dst r k σ x) Q := by
  obtain ⟨v, h, rfl, hr⟩ := hc
  exact hq v h hr
end Go.Aw
