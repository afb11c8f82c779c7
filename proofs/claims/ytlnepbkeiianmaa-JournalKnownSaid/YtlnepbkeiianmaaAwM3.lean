/- Runs as stacks of what is still to do: the calculus of the walk. No program. No condition but those in the theorems. -/
import Derived.Test.YtlnepbkeiianmaaAwM2
namespace Go.Aw
open Go Go.Ai
set_option linter.unusedSimpArgs false
variable {P : Program} {β : Type}
/-! a run as a stack of what is still to do: no binders -/
inductive Itm where
 | code (c : Code)
 | ops (ops : Array Oper) (l : List Oper)
 | opsD (ops : Array Oper) (l : List Oper) (fl : Fl) (lg : List (Option LogS)) (hs : List Heap)
 | opsL (ops : Array Oper) (l : List Oper) (i base : Nat) (pls : List (List Nat)) (rest : List Nat) (fl : Fl) (pd : List (Nat × Blk)) (lg : List (Option LogS)) (hs : List Heap)
 | blk (id : Nat)
 | it (c : Code) (m : Nat)
structure Cx where
 P : Program
 call : CallK
 L : Nat
 n : Nat
 D : List (Nat × Dr)
 rs : List ResultVar
def stackS (X : Cx) : List Itm -> Ex -> Sg -> Heap -> Option (AV × Heap)
 | [],e,σ,h => finS X.P X.rs e σ h
 | .code c :: k,e,σ,h => match e with
  | .normal => codeF X.P X.call X.L X.n X.D c σ h fun e σ h => stackS X k e σ h
  | e => stackS X k e σ h
 | .ops ops l :: k,e,σ,h => match e with
  | .normal => opsS X.P X.call X.n ops l σ h fun σ h => stackS X k .normal σ h
  | e => stackS X k e σ h
 | .opsD ops l fl lg hs :: k,e,σ,h => match e with
  | .normal => opsDS X.P X.call X.n ops l σ h lg hs fun σ h lg hs => cond (chkS X.P lg.reverse hs.reverse fl) (stackS X k .normal σ h) none
  | e => stackS X k e σ h
 | .opsL ops l i base pls rest fl pd lg hs :: k,e,σ,h => match e with
  | .normal => opsLS X.P X.call X.n ops base i pls l σ h pd lg hs fun σ h pd lg hs => cond (chkS X.P lg.reverse hs.reverse fl) (stackS X k .normal σ (layS base pd rest h)) none
  | e => stackS X k e σ h
 | .blk id :: k,e,σ,h => match e with
  | .exit j => (match Nat.beq j id with | true => stackS X k .normal σ h | false => stackS X k (.exit j) σ h)
  | e => stackS X k e σ h
 | .it c m :: k,e,σ,h => match e with
  | .normal => iterS (fun σ h K => codeF X.P X.call X.L X.n X.D c σ h K) m σ h fun e σ h => stackS X k e σ h
  | e => stackS X k e σ h
def run (X : Cx) (k : List Itm) (σ : Sg) (h : Heap) : Option (AV × Heap) := stackS X k .normal σ h
def runX (X : Cx) (k : List Itm) (e : Ex) (σ : Sg) (h : Heap) : Option (AV × Heap) := stackS X k e σ h
variable (X : Cx) (k : List Itm) (σ : Sg) (h : Heap)
theorem callD_run {E : Env} {d : Nat} {f : FuncId} {fn : Func} {c : Code} {args : List AV} {h : Heap} (D : List (Nat × Dr)) (ho : E.ora f = none) (hf : E.P.funcs[f]? = some fn) (hb : fn.body = some c) (hl : args.length <= fn.ntmps) (hfl : flatOk E.P D c = true) :
  callD E (d + 1) f args h = run ⟨E.P,callD E d,E.L,fn.ntmps,D,fn.results.toList⟩ [.code c] (argS args) h := by
 rw [callD_S ho hf hb hl,codeS_F c hfl]; rfl
theorem run_nil : run X [] σ h = th (resE X.P σ h X.rs) fun vs => some (oneV vs,h) := rfl
theorem run_skip : run X (.code .skip :: k) σ h = run X k σ h := rfl
theorem run_label (l : Nat) : run X (.code (.label l) :: k) σ h = run X k σ h := rfl
theorem run_seq (a b : Code) : run X (.code (.seq a b) :: k) σ h = run X (.code a :: .code b :: k) σ h := by
 simp only [run,stackS,codeF]
 congr 1
theorem run_scope (a : Code) : run X (.code (.scope a) :: k) σ h = run X (.code a :: k) σ h := rfl
theorem run_block (id : Nat) (a : Code) : run X (.code (.block id a) :: k) σ h = run X (.code a :: .blk id :: k) σ h := by
 simp only [run,stackS,codeF]
 congr 1
theorem run_blk (id : Nat) : run X (.blk id :: k) σ h = run X k σ h := rfl
theorem run_exit (id : Nat) : run X (.code (.exit id) :: k) σ h = runX X k (.exit id) σ h := rfl
theorem run_loop (c : Code) : run X (.code (.loop c) :: k) σ h = run X (.it c X.L :: k) σ h := rfl
theorem run_it (c : Code) (m : Nat) : run X (.it c (m + 1) :: k) σ h = run X (.code c :: .it c m :: k) σ h := by
 simp only [run,stackS,iterS]
 congr 1
theorem runX_code (c : Code) (e : Nat) : runX X (.code c :: k) (.exit e) σ h = runX X k (.exit e) σ h := rfl
theorem runX_it (c : Code) (m e : Nat) : runX X (.it c m :: k) (.exit e) σ h = runX X k (.exit e) σ h := rfl
theorem runX_blk (id e : Nat) : runX X (.blk id :: k) (.exit e) σ h = if e = id then run X k σ h else runX X k (.exit e) σ h := by
 show (match Nat.beq e id with | true => _ | false => _) = _
 split
 ·rename_i hb; rw [if_pos (Nat.eq_of_beq_eq_true hb)]; rfl
 ·rename_i hb; rw [if_neg (Nat.ne_of_beq_eq_false hb)]; rfl
theorem stack_ret : ∀ k,stackS X k .ret σ h = finS X.P X.rs .ret σ h
 | [] => rfl
 | .code _ :: k => stack_ret k
 | .ops _ _ :: k => stack_ret k
 | .opsD _ _ _ _ _ :: k => stack_ret k
 | .opsL _ _ _ _ _ _ _ _ _ _ :: k => stack_ret k
 | .blk _ :: k => stack_ret k
 | .it _ _ :: k => stack_ret k
theorem run_ret : run X (.code .ret :: k) σ h = th (resE X.P σ h X.rs) fun vs => some (oneV vs,h) := stack_ret X σ h k
def runC (X : Cx) (v : AV) (a b : Code) (k : List Itm) (σ : Sg) (h : Heap) : Option (AV × Heap) := match v with
 | .bool true => run X (.code a :: k) σ h
 | .bool false => run X (.code b :: k) σ h
 | _ => none
theorem run_cond (c : Operand) (a b : Code) : run X (.code (.cond c a b) :: k) σ h = runC X (ev σ c) a b k σ h := by
 simp only [run,runC,stackS,codeF]
 cases ev σ c <;> rfl
theorem runC_true (a b : Code) : runC X (.bool true) a b k σ h = run X (.code a :: k) σ h := rfl
theorem runC_false (a b : Code) : runC X (.bool false) a b k σ h = run X (.code b :: k) σ h := rfl
theorem run_region (id : Nat) (l : List Oper) : run X (.code (.region id l.toArray false) :: k) σ h = run X (.ops l.toArray l :: k) σ h := rfl
def runR (X : Cx) (d : Option Dr) (l : List Oper) (k : List Itm) (σ : Sg) (h : Heap) : Option (AV × Heap) := match d with
 | none => run X (.ops l.toArray l :: k) σ h
 | some (.late pls rest fl m) => run X (.opsL l.toArray l 0 h.next pls rest fl [] [] [Heap.keep h m] :: k) σ (Heap.keep h m)
 | some (.fl fl) => run X (.opsD l.toArray l fl [] [h] :: k) σ h
theorem run_regionD (id : Nat) (l : List Oper) : run X (.code (.region id l.toArray true) :: k) σ h = runR X (look X.D id) l k σ h := by
 simp only [run,stackS,codeF,cond_true]
 cases look X.D id with
 | none => rfl
 | some d => cases d <;> rfl
theorem runR_none (l : List Oper) : runR X none l k σ h = run X (.ops l.toArray l :: k) σ h := rfl
theorem runR_some (fl : Fl) (l : List Oper) : runR X (some (.fl fl)) l k σ h = run X (.opsD l.toArray l fl [] [h] :: k) σ h := rfl
theorem runR_late (pls : List (List Nat)) (rest : List Nat) (fl : Fl) (m : Nat) (l : List Oper) : runR X (some (.late pls rest fl m)) l k σ h = run X (.opsL l.toArray l 0 h.next pls rest fl [] [] [Heap.keep h m] :: k) σ (Heap.keep h m) := rfl
def lookB (b : Bool) (fl : Dr) (D : List (Nat × Dr)) (id : Nat) : Option Dr := match b with
 | true => some fl
 | false => look D id
theorem look_nil (id : Nat) : look [] id = none := rfl
theorem look_cons (i : Nat) (fl : Dr) (D : List (Nat × Dr)) (id : Nat) : look ((i,fl) :: D) id = lookB (i == id) fl D id := by
 show (match Nat.beq i id with | true => some fl | false => look D id) = _
 cases h : Nat.beq i id with
 | true => rw [Nat.eq_of_beq_eq_true h]; simp [lookB]
 | false => have h2 : (i == id) = false := by simpa using Nat.ne_of_beq_eq_false h
            rw [h2]; rfl
theorem lookB_true (fl : Dr) (D : List (Nat × Dr)) (id : Nat) : lookB true fl D id = some fl := rfl
theorem lookB_false (fl : Dr) (D : List (Nat × Dr)) (id : Nat) : lookB false fl D id = look D id := rfl
theorem run_ops_nil (ops : Array Oper) : run X (.ops ops [] :: k) σ h = run X k σ h := rfl
def runB (X : Cx) (ops : Array Oper) (dst : Option Tmp) (r : List Oper) (k : List Itm) (σ : Sg) : Option (AV × Heap) -> Option (AV × Heap)
 | some (v,h) => (match fitsD X.n dst with | true => run X (.ops ops r :: k) (updO σ dst v) h | false => none)
 | none => none
def runL (b : Bool) (X : Cx) (k : List Itm) (σ : Sg) (h : Heap) : Option (AV × Heap) := match b with
 | true => run X k σ h
 | false => none
theorem runL_true : runL true X k σ h = run X k σ h := rfl
theorem runL_if (c : Prop) [Decidable c] : (if c then run X k σ h else none) = runL (decide c) X k σ h := by by_cases hc : c <;> simp [hc,runL]
theorem runB_some' (ops : Array Oper) (d : Nat) (r : List Oper) (v : AV) : runB X ops (some d) r k σ (some (v,h)) = if d < X.n then run X (.ops ops r :: k) (upd σ d v) h else none := by
 by_cases hd : d < X.n
 ·have : fitsD X.n (some d) = true := Nat.blt_eq.mpr hd
  simp only [runB,this,if_pos hd]; rfl
 ·have : fitsD X.n (some d) = false := by
   cases hb : fitsD X.n (some d) with
   | true => exact absurd (Nat.blt_eq.mp hb) hd
   | false => rfl
  simp only [runB,this,if_neg hd]
theorem runB_some (ops : Array Oper) (d : Nat) (r : List Oper) (v : AV) : runB X ops (some d) r k σ (some (v,h)) = runL (decide (d < X.n)) X (.ops ops r :: k) (upd σ d v) h := by rw [runB_some',runL_if]
theorem runB_none (ops : Array Oper) (r : List Oper) (v : AV) : runB X ops none r k σ (some (v,h)) = run X (.ops ops r :: k) σ h := rfl
theorem run_ops (ops : Array Oper) (o : Oper) (r : List Oper) : run X (.ops ops (o :: r) :: k) σ h = match wantS ops σ o with | true => runB X ops o.dst r k σ (opE X.P X.call (ev σ) o h) | false => runB X ops o.dst r k σ (some (undefA,h)) := by
 simp only [run,stackS,opsS]
 cases wantS ops σ o with
 | true =>
  simp only
  cases opE X.P X.call (ev σ) o h with
  | none => rfl
  | some p => rfl
 | false => rfl
theorem run_ops_plain (ops : Array Oper) (d : Option Tmp) (o : Op) (t : TypeId) (p : String) (a : Array Edge) (r : List Oper) : run X (.ops ops (⟨d,o,t,p,a,none⟩ :: r) :: k) σ h = runB X ops d r k σ (opE X.P X.call (ev σ) ⟨d,o,t,p,a,none⟩ h) := by
 rw [run_ops]; rfl
def isB : AV -> Bool -> Bool
 | .bool b,w => b == w
 | _,_ => false
def wantG (σ : Sg) : Option Tmp -> Bool -> Bool
 | some t,w => isB (σ t) w
 | none,_ => false
theorem wantG_some (t : Tmp) (w : Bool) : wantG σ (some t) w = isB (σ t) w := rfl
def runG (X : Cx) (b : Bool) (ops : Array Oper) (o : Oper) (r : List Oper) (k : List Itm) (σ : Sg) (h : Heap) : Option (AV × Heap) := match b with
 | true => runB X ops o.dst r k σ (opE X.P X.call (ev σ) o h)
 | false => runB X ops o.dst r k σ (some (undefA,h))
theorem runG_true (ops : Array Oper) (o : Oper) (r : List Oper) : runG X true ops o r k σ h = runB X ops o.dst r k σ (opE X.P X.call (ev σ) o h) := rfl
theorem runG_false (ops : Array Oper) (o : Oper) (r : List Oper) : runG X false ops o r k σ h = runB X ops o.dst r k σ (some (undefA,h)) := rfl
theorem run_ops_guard (l : List Oper) (d : Option Tmp) (o : Op) (t : TypeId) (p : String) (a : Array Edge) (j : Nat) (w : Bool) (r : List Oper) :
  run X (.ops l.toArray (⟨d,o,t,p,a,some (j,w)⟩ :: r) :: k) σ h = runG X (wantG σ ((l[j]?).bind (·.dst)) w) l.toArray ⟨d,o,t,p,a,some (j,w)⟩ r k σ h := by
 rw [run_ops]
 have : wantS l.toArray σ ⟨d,o,t,p,a,some (j,w)⟩ = wantG σ ((l[j]?).bind (·.dst)) w := by
  simp only [wantS,List.getElem?_toArray]
  cases (l[j]?).bind (·.dst) with
  | none => rfl
  | some t => simp only [wantG]; cases σ t <;> rfl
 rw [this]
 cases wantG σ ((l[j]?).bind (·.dst)) w <;> rfl
/-! regions that draw -/
def runBD (X : Cx) (ops : Array Oper) (o : Oper) (r : List Oper) (fl : Fl) (lg : List (Option LogS)) (hs : List Heap) (k : List Itm) (σ : Sg) (h : Heap) : Option (AV × Heap) -> Option (AV × Heap)
 | some (v,h') => (match fitsD X.n o.dst with
  | true => (match isX (cls X.P o) with
   | true => run X (.opsD ops r fl (none :: lg) (h' :: hs) :: k) (updO σ o.dst v) h'
   | false => run X (.opsD ops r fl ((match isR (cls X.P o) with | true => some ⟨o,σ,v⟩ | false => none) :: lg) hs :: k) (updO σ o.dst v) h)
  | false => none)
 | none => none
theorem run_opsD (ops : Array Oper) (o : Oper) (r : List Oper) (fl : Fl) (lg : List (Option LogS)) (hs : List Heap) : run X (.opsD ops (o :: r) fl lg hs :: k) σ h = match wantS ops σ o with
  | true => runBD X ops o r fl lg hs k σ h (opE X.P X.call (ev σ) o h)
  | false => (match fitsD X.n o.dst with
   | true => run X (.opsD ops r fl (none :: lg) (match isX (cls X.P o) with | true => h :: hs | false => hs) :: k) (updO σ o.dst undefA) h
   | false => none) := by
 simp only [run,stackS,opsDS]
 cases wantS ops σ o with
 | true =>
  simp only
  cases opE X.P X.call (ev σ) o h with
  | none => rfl
  | some p => rfl
 | false => rfl
theorem run_opsD_nil (ops : Array Oper) (fl : Fl) (lg : List (Option LogS)) (hs : List Heap) : run X (.opsD ops [] fl lg hs :: k) σ h = cond (chkS X.P lg.reverse hs.reverse fl) (run X k σ h) none := rfl
theorem isB_tt : isB (.bool true) true = true := rfl
theorem isB_ff : isB (.bool false) false = true := rfl
theorem isB_tf : isB (.bool true) false = false := rfl
theorem isB_ft : isB (.bool false) true = false := rfl
def runBC (X : Cx) (ops : Array Oper) (o : Oper) (r : List Oper) (fl : Fl) (lg : List (Option LogS)) (hs : List Heap) (k : List Itm) (σ : Sg) (h : Heap) : Cls -> Option (AV × Heap) -> Option (AV × Heap)
 | .p,some (v,_) => (match fitsD X.n o.dst with | true => run X (.opsD ops r fl (none :: lg) hs :: k) (updO σ o.dst v) h | false => none)
 | .r,some (v,_) => (match fitsD X.n o.dst with | true => run X (.opsD ops r fl (some ⟨o,σ,v⟩ :: lg) hs :: k) (updO σ o.dst v) h | false => none)
 | _,some (v,h') => (match fitsD X.n o.dst with | true => run X (.opsD ops r fl (none :: lg) (h' :: hs) :: k) (updO σ o.dst v) h' | false => none)
 | _,none => none
theorem fits_lt {n d : Nat} : fitsD n (some d) = decide (d < n) := by
 show Nat.blt d n = _
 rw [Bool.eq_iff_iff]; simp [Nat.blt_eq]
theorem runBC_p (ops : Array Oper) (d : Tmp) (o : Op) (t : TypeId) (p : String) (a : Array Edge) (g : Option (Nat × Bool)) (r : List Oper) (fl : Fl) (lg : List (Option LogS)) (hs : List Heap) (v : AV) (h' : Heap) :
  runBC X ops ⟨some d,o,t,p,a,g⟩ r fl lg hs k σ h .p (some (v,h')) = runL (decide (d < X.n)) X ((.opsD ops r fl (none :: lg) hs :: k)) (upd σ d v) h := by
 simp only [runBC,fits_lt]
 by_cases hd : d < X.n <;> simp [hd,updO,runL]
theorem runBC_r (ops : Array Oper) (d : Tmp) (o : Op) (t : TypeId) (p : String) (a : Array Edge) (g : Option (Nat × Bool)) (r : List Oper) (fl : Fl) (lg : List (Option LogS)) (hs : List Heap) (v : AV) (h' : Heap) :
  runBC X ops ⟨some d,o,t,p,a,g⟩ r fl lg hs k σ h .r (some (v,h')) = runL (decide (d < X.n)) X ((.opsD ops r fl (some ⟨⟨some d,o,t,p,a,g⟩,σ,v⟩ :: lg) hs :: k)) (upd σ d v) h := by
 simp only [runBC,fits_lt]
 by_cases hd : d < X.n <;> simp [hd,updO,runL]
theorem runBC_a (ops : Array Oper) (d : Tmp) (o : Op) (t : TypeId) (p : String) (a : Array Edge) (g : Option (Nat × Bool)) (r : List Oper) (fl : Fl) (lg : List (Option LogS)) (hs : List Heap) (v : AV) (h' : Heap) :
  runBC X ops ⟨some d,o,t,p,a,g⟩ r fl lg hs k σ h .a (some (v,h')) = runL (decide (d < X.n)) X ((.opsD ops r fl (none :: lg) (h' :: hs) :: k)) (upd σ d v) h' := by
 simp only [runBC,fits_lt]
 by_cases hd : d < X.n <;> simp [hd,updO,runL]
theorem runBC_e (ops : Array Oper) (d : Tmp) (o : Op) (t : TypeId) (p : String) (a : Array Edge) (g : Option (Nat × Bool)) (r : List Oper) (fl : Fl) (lg : List (Option LogS)) (hs : List Heap) (v : AV) (h' : Heap) :
  runBC X ops ⟨some d,o,t,p,a,g⟩ r fl lg hs k σ h .e (some (v,h')) = runL (decide (d < X.n)) X ((.opsD ops r fl (none :: lg) (h' :: hs) :: k)) (upd σ d v) h' := by
 simp only [runBC,fits_lt]
 by_cases hd : d < X.n <;> simp [hd,updO,runL]
theorem runBC_e0 (ops : Array Oper) (o : Op) (t : TypeId) (p : String) (a : Array Edge) (g : Option (Nat × Bool)) (r : List Oper) (fl : Fl) (lg : List (Option LogS)) (hs : List Heap) (v : AV) (h' : Heap) :
  runBC X ops ⟨none,o,t,p,a,g⟩ r fl lg hs k σ h .e (some (v,h')) = run X (.opsD ops r fl (none :: lg) (h' :: hs) :: k) σ h' := rfl
theorem runBD_C (ops : Array Oper) (o : Oper) (r : List Oper) (fl : Fl) (lg : List (Option LogS)) (hs : List Heap) (x : Option (AV × Heap)) : runBD X ops o r fl lg hs k σ h x = runBC X ops o r fl lg hs k σ h (cls X.P o) x := by
 cases x with
 | none => cases cls X.P o <;> rfl
 | some p => obtain ⟨v,h'⟩ := p; cases hc : cls X.P o <;> simp only [runBD,runBC,hc,isX,isR]
theorem run_opsD_plain (ops : Array Oper) (d : Option Tmp) (o : Op) (t : TypeId) (p : String) (a : Array Edge) (r : List Oper) (fl : Fl) (lg : List (Option LogS)) (hs : List Heap) :
  run X (.opsD ops (⟨d,o,t,p,a,none⟩ :: r) fl lg hs :: k) σ h = runBC X ops ⟨d,o,t,p,a,none⟩ r fl lg hs k σ h (cls X.P ⟨d,o,t,p,a,none⟩) (opE X.P X.call (ev σ) ⟨d,o,t,p,a,none⟩ h) := by
 rw [run_opsD,<- runBD_C]; rfl
def runN (X : Cx) (ops : Array Oper) (dst : Option Tmp) (r : List Oper) (fl : Fl) (lg : List (Option LogS)) (hs : List Heap) (k : List Itm) (σ : Sg) (h : Heap) : Cls -> Option (AV × Heap)
 | .p => (match fitsD X.n dst with | true => run X (.opsD ops r fl (none :: lg) hs :: k) (updO σ dst undefA) h | false => none)
 | .r => (match fitsD X.n dst with | true => run X (.opsD ops r fl (none :: lg) hs :: k) (updO σ dst undefA) h | false => none)
 | _ => (match fitsD X.n dst with | true => run X (.opsD ops r fl (none :: lg) (h :: hs) :: k) (updO σ dst undefA) h | false => none)
def runGD (X : Cx) (b : Bool) (ops : Array Oper) (o : Oper) (r : List Oper) (fl : Fl) (lg : List (Option LogS)) (hs : List Heap) (k : List Itm) (σ : Sg) (h : Heap) : Option (AV × Heap) := match b with
 | true => runBC X ops o r fl lg hs k σ h (cls X.P o) (opE X.P X.call (ev σ) o h)
 | false => runN X ops o.dst r fl lg hs k σ h (cls X.P o)
theorem runGD_true (ops : Array Oper) (o : Oper) (r : List Oper) (fl : Fl) (lg : List (Option LogS)) (hs : List Heap) : runGD X true ops o r fl lg hs k σ h = runBC X ops o r fl lg hs k σ h (cls X.P o) (opE X.P X.call (ev σ) o h) := rfl
theorem runGD_false (ops : Array Oper) (o : Oper) (r : List Oper) (fl : Fl) (lg : List (Option LogS)) (hs : List Heap) : runGD X false ops o r fl lg hs k σ h = runN X ops o.dst r fl lg hs k σ h (cls X.P o) := rfl
theorem runN_p (ops : Array Oper) (d : Tmp) (r : List Oper) (fl : Fl) (lg : List (Option LogS)) (hs : List Heap) : runN X ops (some d) r fl lg hs k σ h .p = runL (decide (d < X.n)) X ((.opsD ops r fl (none :: lg) hs :: k)) (upd σ d undefA) h := by
 simp only [runN,fits_lt]
 by_cases hd : d < X.n <;> simp [hd,updO,runL]
theorem runN_r (ops : Array Oper) (d : Tmp) (r : List Oper) (fl : Fl) (lg : List (Option LogS)) (hs : List Heap) : runN X ops (some d) r fl lg hs k σ h .r = runL (decide (d < X.n)) X ((.opsD ops r fl (none :: lg) hs :: k)) (upd σ d undefA) h := by
 simp only [runN,fits_lt]
 by_cases hd : d < X.n <;> simp [hd,updO,runL]
theorem runN_a (ops : Array Oper) (d : Tmp) (r : List Oper) (fl : Fl) (lg : List (Option LogS)) (hs : List Heap) : runN X ops (some d) r fl lg hs k σ h .a = runL (decide (d < X.n)) X ((.opsD ops r fl (none :: lg) (h :: hs) :: k)) (upd σ d undefA) h := by
 simp only [runN,fits_lt]
 by_cases hd : d < X.n <;> simp [hd,updO,runL]
theorem runN_e (ops : Array Oper) (d : Tmp) (r : List Oper) (fl : Fl) (lg : List (Option LogS)) (hs : List Heap) : runN X ops (some d) r fl lg hs k σ h .e = runL (decide (d < X.n)) X ((.opsD ops r fl (none :: lg) (h :: hs) :: k)) (upd σ d undefA) h := by
 simp only [runN,fits_lt]
 by_cases hd : d < X.n <;> simp [hd,updO,runL]
theorem runN_e0 (ops : Array Oper) (r : List Oper) (fl : Fl) (lg : List (Option LogS)) (hs : List Heap) : runN X ops none r fl lg hs k σ h .e = run X (.opsD ops r fl (none :: lg) (h :: hs) :: k) σ h := rfl
theorem wantS_G {l : List Oper} {σ : Sg} {d : Option Tmp} {o : Op} {t : TypeId} {p : String} {a : Array Edge} {j : Nat} {w : Bool} : wantS l.toArray σ ⟨d,o,t,p,a,some (j,w)⟩ = wantG σ ((l[j]?).bind (·.dst)) w := by
 simp only [wantS,List.getElem?_toArray]
 cases (l[j]?).bind (·.dst) with
 | none => rfl
 | some t => simp only [wantG]; cases σ t <;> rfl
theorem run_opsD_guard (l : List Oper) (d : Option Tmp) (o : Op) (t : TypeId) (p : String) (a : Array Edge) (j : Nat) (w : Bool) (r : List Oper) (fl : Fl) (lg : List (Option LogS)) (hs : List Heap) :
  run X (.opsD l.toArray (⟨d,o,t,p,a,some (j,w)⟩ :: r) fl lg hs :: k) σ h = runGD X (wantG σ ((l[j]?).bind (·.dst)) w) l.toArray ⟨d,o,t,p,a,some (j,w)⟩ r fl lg hs k σ h := by
 rw [run_opsD,wantS_G]
 cases wantG σ ((l[j]?).bind (·.dst)) w with
 | true => simp only [runGD,<- runBD_C]
 | false =>
  simp only [runGD,runN]
  cases hc : cls X.P ⟨d,o,t,p,a,some (j,w)⟩ <;> simp only [isX]
/-! the reads that float,asked again -/
def sameO (v : AV) : Option AV -> Bool
 | some u => v.same u
 | none => false
theorem sameO_some (v u : AV) : sameO v (some u) = v.same u := rfl
def chk1 (P : Program) (o : Oper) (σ : Sg) (v : AV) : List Heap -> Bool
 | [] => true
 | h :: hs => sameO v (readE P (ev σ) o h) && chk1 P o σ v hs
def chkL (P : Program) (hs : List Heap) : Option (Option LogS) -> Bool
 | some (some ⟨o,σ,v⟩) => chk1 P o σ v hs
 | some none => true
 | none => false
theorem chkHS_1 (l : LogS) : ∀ hs : List Heap,chkHS P l hs = chk1 P l.o l.σ l.v hs
 | [] => rfl
 | h :: hs => by
  have := chkHS_1 l hs
  simp only [chkHS,List.all_cons,chk1] at this ⊢
  rw [this]
  cases readE P (ev l.σ) l.o h <;> rfl
theorem chkS_nil (lg : List (Option LogS)) (hs : List Heap) : chkS P lg hs [] = true := rfl
theorem chkS_cons (lg : List (Option LogS)) (hs : List Heap) (i lo hi : Nat) (r : Fl) : chkS P lg hs ((i,lo,hi) :: r) = (chkL P ((hs.drop lo).take (hi - lo + 1)) lg[i]? && chkS P lg hs r) := by
 simp only [chkS]
 cases lg[i]? with
 | none => rfl
 | some x =>
  cases x with
  | none => simp [chkL]
  | some l => obtain ⟨o,σ,v⟩ := l; simp only [chkL,chkHS_1]
theorem chkL_some (hs : List Heap) (o : Oper) (σ : Sg) (v : AV) : chkL P hs (some (some ⟨o,σ,v⟩)) = chk1 P o σ v hs := rfl
theorem chkL_none (hs : List Heap) : chkL P hs (some none) = true := rfl
theorem chk1_nil (o : Oper) (σ : Sg) (v : AV) : chk1 P o σ v [] = true := rfl
theorem chk1_cons (o : Oper) (σ : Sg) (v : AV) (h : Heap) (hs : List Heap) : chk1 P o σ v (h :: hs) = (sameO v (readE P (ev σ) o h) && chk1 P o σ v hs) := rfl
def runZ (b : Bool) (X : Cx) (k : List Itm) (σ : Sg) (h : Heap) : Option (AV × Heap) := match b with
 | true => run X k σ h
 | false => none
theorem runZ_true : runZ true X k σ h = run X k σ h := rfl
theorem run_opsD_end (ops : Array Oper) (fl : Fl) (lg : List (Option LogS)) (hs : List Heap) : run X (.opsD ops [] fl lg hs :: k) σ h = runZ (chkS X.P lg.reverse hs.reverse fl) X k σ h := by
 rw [run_opsD_nil]
 cases chkS X.P lg.reverse hs.reverse fl <;> rfl
theorem same_int (k : IntKind) (n : Int) : AV.same (.int k n) (.int k n) = true := by
 show (k == k && ieq n n) = true
 simp [ieq_eq]
theorem same_bool (b : Bool) : AV.same (.bool b) (.bool b) = true := by cases b <;> rfl
theorem same_ptr (k o : Nat) : AV.same (.ptr k o) (.ptr k o) = true := by simp [AV.same,scSame]
theorem same_slice (k o l c : Nat) : AV.same (.slice k o l c) (.slice k o l c) = true := by simp [AV.same,scSame]
theorem same_eslice (k o l c : Nat) : AV.same (.eslice k o l c) (.eslice k o l c) = true := by simp [AV.same,scSame]
theorem same_map (k : Nat) : AV.same (.map k) (.map k) = true := by simp [AV.same,scSame]
theorem same_agg (cs : List AV) : AV.same (.agg cs) (.agg cs) = scsSame cs cs := rfl
/-! what a run comes to -/
def G (r : Option (AV × Heap)) (Q : AV -> Heap -> Prop) : Prop := ∃ v h',r = some (v,h') /\ Q v h'
theorem G.ok {v : AV} {h : Heap} {Q : AV -> Heap -> Prop} (q : Q v h) : G (some (v,h)) Q := ⟨v,h,rfl,q⟩
theorem G.mono {r : Option (AV × Heap)} {Q Q' : AV -> Heap -> Prop} (g : G r Q) (hq : ∀ v h,Q v h -> Q' v h) : G r Q' := let ⟨v,h,e,q⟩ := g; ⟨v,h,e,hq v h q⟩
theorem loop_ind {X : Cx} {c : Code} {k : List Itm} {Q : AV -> Heap -> Prop} (I : Nat -> Sg -> Heap -> Prop)
  (hend : ∀ m σ h,I 0 σ h -> G (run X (.it c (m + 1) :: k) σ h) Q)
  (hstep : ∀ j m σ h,I (j + 1) σ h -> (∀ σ' h',I j σ' h' -> G (run X (.it c m :: k) σ' h') Q) -> G (run X (.it c (m + 1) :: k) σ h) Q) :
  ∀ (j m : Nat) (σ : Sg) (h : Heap),j < m -> I j σ h -> G (run X (.it c m :: k) σ h) Q := by
 intro j
 induction j with
 | zero =>
  intro m σ h hm hI
  obtain ⟨m,rfl⟩ : ∃ q,m = q + 1 := ⟨m - 1,by omega⟩
  exact hend m σ h hI
 | succ j ih =>
  intro m σ h hm hI
  obtain ⟨m,rfl⟩ : ∃ q,m = q + 1 := ⟨m - 1,by omega⟩
  exact hstep j m σ h hI fun σ' h' hI' => ih m σ' h' (by omega) hI'
theorem G.call {X : Cx} {ops : Array Oper} {dst : Option Tmp} {r : List Oper} {k : List Itm} {σ : Sg} {x : Option (AV × Heap)} {R Q : AV -> Heap -> Prop} (hc : G x R) (hq : ∀ v h,R v h -> G (runB X ops dst r k σ (some (v,h))) Q) : G (runB X ops dst r k σ x) Q := by
 obtain ⟨v,h,rfl,hr⟩ := hc
 exact hq v h hr
/-! regions whose made blocks are laid late -/
theorem keep_next (h : Heap) (m : Nat) : (Heap.keep h m).next = h.next + m := rfl
theorem keep_get (h : Heap) (m k : Nat) : (Heap.keep h m).get k = h.get k := rfl
theorem at_next (q : Nat) : (Heap.at_ q).next = q := rfl
theorem layS_nil (base : Nat) (pd : List (Nat × Blk)) (h : Heap) : layS base pd [] h = h := rfl
theorem layS_cons (base : Nat) (pd : List (Nat × Blk)) (i : Nat) (r : List Nat) (h : Heap) : layS base pd (i :: r) h = layS base pd r (layO (base + i) h (findP pd i)) := rfl
theorem layO_some (q : Nat) (h : Heap) (b : Blk) : layO q h (some b) = h.put q (some b) := rfl
theorem layO_none (q : Nat) (h : Heap) : layO q h none = h := rfl
def findB (c : Bool) (b : Blk) (r : List (Nat × Blk)) (i : Nat) : Option Blk := match c with
 | true => some b
 | false => findP r i
theorem findP_nil (i : Nat) : findP [] i = none := rfl
theorem findP_cons' (j i : Nat) (b : Blk) (r : List (Nat × Blk)) : findP ((j,b) :: r) i = findB (j == i) b r i := by
 simp only [findP,findB]
 cases h : Nat.beq j i with
 | true => rw [Nat.eq_of_beq_eq_true h]; simp
 | false => have h2 : (j == i) = false := by simpa using Nat.ne_of_beq_eq_false h
            rw [h2]
theorem findB_true (b : Blk) (r : List (Nat × Blk)) (i : Nat) : findB true b r i = some b := rfl
theorem findB_false (b : Blk) (r : List (Nat × Blk)) (i : Nat) : findB false b r i = findP r i := rfl
def madeO : AV -> Option Blk -> Option (AV × Blk)
 | v,some b => some (v,b)
 | _,none => none
def madeE (q : Nat) : Option (AV × Heap) -> Option (AV × Blk)
 | some (v,h) => madeO v (h.get q)
 | none => none
theorem madeE_some (q : Nat) (v : AV) (h : Heap) : madeE q (some (v,h)) = madeO v (h.get q) := rfl
theorem madeO_some (v : AV) (b : Blk) : madeO v (some b) = some (v,b) := rfl
theorem lateE_made {call : CallK} {ρ : Operand -> AV} {o : Oper} {q : Nat} : lateE P call ρ o q = madeE q (opE P call ρ o (Heap.at_ q)) := by
 unfold lateE
 cases opE P call ρ o (Heap.at_ q) with
 | none => rfl
 | some p => obtain ⟨v,h⟩ := p; simp only [madeE,madeO]; cases h.get q <;> rfl
structure Lx where
 ops : Array Oper
 r : List Oper
 i : Nat
 base : Nat
 pls : List (List Nat)
 rest : List Nat
 fl : Fl
def runLA (X : Cx) (y : Lx) (dst : Option Tmp) (pd : List (Nat × Blk)) (lg : List (Option LogS)) (hs : List Heap) (k : List Itm) (σ : Sg) (h : Heap) : Option (AV × Blk) -> Option (AV × Heap)
 | some (v,b) => (match fitsD X.n dst with | true => run X (.opsL y.ops y.r (y.i + 1) y.base y.pls y.rest y.fl ((y.i,b) :: pd) (none :: lg) hs :: k) (updO σ dst v) h | false => none)
 | none => none
def runLE (X : Cx) (y : Lx) (dst : Option Tmp) (pd : List (Nat × Blk)) (lg : List (Option LogS)) (hs : List Heap) (k : List Itm) (σ : Sg) : Option (AV × Heap) -> Option (AV × Heap)
 | some (v,h') => (match fitsD X.n dst with | true => run X (.opsL y.ops y.r (y.i + 1) y.base y.pls y.rest y.fl pd (none :: lg) (h' :: hs) :: k) (updO σ dst v) h' | false => none)
 | none => none
def runLP (X : Cx) (y : Lx) (dst : Option Tmp) (pd : List (Nat × Blk)) (lg : List (Option LogS)) (hs : List Heap) (k : List Itm) (σ : Sg) (h : Heap) : Option (AV × Heap) -> Option (AV × Heap)
 | some (v,_) => (match fitsD X.n dst with | true => run X (.opsL y.ops y.r (y.i + 1) y.base y.pls y.rest y.fl pd (none :: lg) hs :: k) (updO σ dst v) h | false => none)
 | none => none
def runLR (X : Cx) (y : Lx) (o : Oper) (pd : List (Nat × Blk)) (lg : List (Option LogS)) (hs : List Heap) (k : List Itm) (σ : Sg) (h : Heap) : Option (AV × Heap) -> Option (AV × Heap)
 | some (v,_) => (match fitsD X.n o.dst with | true => run X (.opsL y.ops y.r (y.i + 1) y.base y.pls y.rest y.fl pd (some ⟨o,σ,v⟩ :: lg) hs :: k) (updO σ o.dst v) h | false => none)
 | none => none
def runLC (X : Cx) (y : Lx) (pl : List Nat) (o : Oper) (pd : List (Nat × Blk)) (lg : List (Option LogS)) (hs : List Heap) (k : List Itm) (σ : Sg) (h : Heap) : Cls -> Option (AV × Heap)
 | .p => runLP X y o.dst pd lg hs k σ h (opE X.P X.call (ev σ) o h)
 | .r => runLR X y o pd lg hs k σ h (opE X.P X.call (ev σ) o h)
 | .a => runLA X y o.dst pd lg hs k σ h (madeE (y.base + y.i) (opE X.P X.call (ev σ) o (Heap.at_ (y.base + y.i))))
 | .e => runLE X y o.dst pd lg hs k σ (opE X.P X.call (ev σ) o (layS y.base pd pl h))
theorem run_opsL_plain (ops : Array Oper) (d : Option Tmp) (o : Op) (t : TypeId) (p : String) (a : Array Edge) (r : List Oper) (i base : Nat) (pl : List Nat) (pls : List (List Nat)) (rest : List Nat) (fl : Fl) (pd : List (Nat × Blk)) (lg : List (Option LogS)) (hs : List Heap) :
  run X (.opsL ops (⟨d,o,t,p,a,none⟩ :: r) i base (pl :: pls) rest fl pd lg hs :: k) σ h = runLC X ⟨ops,r,i,base,pls,rest,fl⟩ pl ⟨d,o,t,p,a,none⟩ pd lg hs k σ h (cls X.P ⟨d,o,t,p,a,none⟩) := by
 have hw : wantS ops σ ⟨d,o,t,p,a,none⟩ = true := rfl
 simp only [run,stackS,opsLS,hw,List.headD_cons,List.tail_cons]
 cases hc : cls X.P ⟨d,o,t,p,a,none⟩ with
 | p =>
  simp only [runLC]
  cases opE X.P X.call (ev σ) ⟨d,o,t,p,a,none⟩ h with
  | none => rfl
  | some q => rfl
 | r =>
  simp only [runLC]
  cases opE X.P X.call (ev σ) ⟨d,o,t,p,a,none⟩ h with
  | none => rfl
  | some q => rfl
 | a =>
  simp only [runLC,lateE_made]
  cases madeE (base + i) (opE X.P X.call (ev σ) ⟨d,o,t,p,a,none⟩ (Heap.at_ (base + i))) with
  | none => rfl
  | some q => rfl
 | e =>
  simp only [runLC]
  cases opE X.P X.call (ev σ) ⟨d,o,t,p,a,none⟩ (layS base pd pl h) with
  | none => rfl
  | some q => rfl
theorem runLC_p (y : Lx) (pl : List Nat) (o : Oper) (pd : List (Nat × Blk)) (lg : List (Option LogS)) (hs : List Heap) : runLC X y pl o pd lg hs k σ h .p = runLP X y o.dst pd lg hs k σ h (opE X.P X.call (ev σ) o h) := rfl
theorem runLC_r (y : Lx) (pl : List Nat) (o : Oper) (pd : List (Nat × Blk)) (lg : List (Option LogS)) (hs : List Heap) : runLC X y pl o pd lg hs k σ h .r = runLR X y o pd lg hs k σ h (opE X.P X.call (ev σ) o h) := rfl
theorem runLC_a (y : Lx) (pl : List Nat) (o : Oper) (pd : List (Nat × Blk)) (lg : List (Option LogS)) (hs : List Heap) : runLC X y pl o pd lg hs k σ h .a = runLA X y o.dst pd lg hs k σ h (madeE (y.base + y.i) (opE X.P X.call (ev σ) o (Heap.at_ (y.base + y.i)))) := rfl
theorem runLC_e (y : Lx) (pl : List Nat) (o : Oper) (pd : List (Nat × Blk)) (lg : List (Option LogS)) (hs : List Heap) : runLC X y pl o pd lg hs k σ h .e = runLE X y o.dst pd lg hs k σ (opE X.P X.call (ev σ) o (layS y.base pd pl h)) := rfl
theorem runLP_some (ops : Array Oper) (r : List Oper) (i base : Nat) (pls : List (List Nat)) (rest : List Nat) (fl : Fl) (d : Tmp) (pd : List (Nat × Blk)) (lg : List (Option LogS)) (hs : List Heap) (v : AV) (h' : Heap) :
  runLP X ⟨ops,r,i,base,pls,rest,fl⟩ (some d) pd lg hs k σ h (some (v,h')) = runL (decide (d < X.n)) X (.opsL ops r (i + 1) base pls rest fl pd (none :: lg) hs :: k) (upd σ d v) h := by
 simp only [runLP,fits_lt]
 by_cases hd : d < X.n <;> simp [hd,updO,runL]
theorem runLR_some (ops : Array Oper) (r : List Oper) (i base : Nat) (pls : List (List Nat)) (rest : List Nat) (fl : Fl) (d : Tmp) (o : Op) (t : TypeId) (p : String) (a : Array Edge) (g : Option (Nat × Bool)) (pd : List (Nat × Blk)) (lg : List (Option LogS)) (hs : List Heap) (v : AV) (h' : Heap) :
  runLR X ⟨ops,r,i,base,pls,rest,fl⟩ ⟨some d,o,t,p,a,g⟩ pd lg hs k σ h (some (v,h')) = runL (decide (d < X.n)) X (.opsL ops r (i + 1) base pls rest fl pd (some ⟨⟨some d,o,t,p,a,g⟩,σ,v⟩ :: lg) hs :: k) (upd σ d v) h := by
 simp only [runLR,fits_lt]
 by_cases hd : d < X.n <;> simp [hd,updO,runL]
theorem runLA_some (ops : Array Oper) (r : List Oper) (i base : Nat) (pls : List (List Nat)) (rest : List Nat) (fl : Fl) (d : Tmp) (pd : List (Nat × Blk)) (lg : List (Option LogS)) (hs : List Heap) (v : AV) (b : Blk) :
  runLA X ⟨ops,r,i,base,pls,rest,fl⟩ (some d) pd lg hs k σ h (some (v,b)) = runL (decide (d < X.n)) X (.opsL ops r (i + 1) base pls rest fl ((i,b) :: pd) (none :: lg) hs :: k) (upd σ d v) h := by
 simp only [runLA,fits_lt]
 by_cases hd : d < X.n <;> simp [hd,updO,runL]
theorem runLE_some (ops : Array Oper) (r : List Oper) (i base : Nat) (pls : List (List Nat)) (rest : List Nat) (fl : Fl) (d : Tmp) (pd : List (Nat × Blk)) (lg : List (Option LogS)) (hs : List Heap) (v : AV) (h' : Heap) :
  runLE X ⟨ops,r,i,base,pls,rest,fl⟩ (some d) pd lg hs k σ (some (v,h')) = runL (decide (d < X.n)) X (.opsL ops r (i + 1) base pls rest fl pd (none :: lg) (h' :: hs) :: k) (upd σ d v) h' := by
 simp only [runLE,fits_lt]
 by_cases hd : d < X.n <;> simp [hd,updO,runL]
theorem runLE_none (ops : Array Oper) (r : List Oper) (i base : Nat) (pls : List (List Nat)) (rest : List Nat) (fl : Fl) (pd : List (Nat × Blk)) (lg : List (Option LogS)) (hs : List Heap) (v : AV) (h' : Heap) :
  runLE X ⟨ops,r,i,base,pls,rest,fl⟩ none pd lg hs k σ (some (v,h')) = run X (.opsL ops r (i + 1) base pls rest fl pd (none :: lg) (h' :: hs) :: k) σ h' := rfl
theorem run_opsL_end (ops : Array Oper) (i base : Nat) (pls : List (List Nat)) (rest : List Nat) (fl : Fl) (pd : List (Nat × Blk)) (lg : List (Option LogS)) (hs : List Heap) :
  run X (.opsL ops [] i base pls rest fl pd lg hs :: k) σ h = runZ (chkS X.P lg.reverse hs.reverse fl) X k σ (layS base pd rest h) := by
 simp only [run,stackS,opsLS]
 cases chkS X.P lg.reverse hs.reverse fl <;> rfl
theorem G.callL {X : Cx} {y : Lx} {dst : Option Tmp} {pd : List (Nat × Blk)} {lg : List (Option LogS)} {hs : List Heap} {k : List Itm} {σ : Sg} {x : Option (AV × Heap)} {R Q : AV -> Heap -> Prop} (hc : G x R) (hq : ∀ v h,R v h -> G (runLE X y dst pd lg hs k σ (some (v,h))) Q) : G (runLE X y dst pd lg hs k σ x) Q := by
 obtain ⟨v,h,rfl,hr⟩ := hc
 exact hq v h hr
end Go.Aw
namespace Go.Aw
open Go Go.Ai
set_option linter.unusedSimpArgs false
variable {P : Program} {β : Type}
/-! what each operation gives -/
section
variable {call : CallK} {ρ : Operand -> AV} {d : Option Tmp} {t : TypeId} {p : String} {a : Array Edge} {g : Option (Nat × Bool)} {h : Heap}
theorem okv_bool (b : Bool) : okv (.bool b) = some (.bool b) := rfl
theorem okv_int (k : IntKind) (n : Int) : okv (.int k n) = some (.int k n) := rfl
theorem okv_str (s : List UInt8) : okv (.str s) = some (.str s) := rfl
theorem okv_ptr (k o : Nat) : okv (.ptr k o) = some (.ptr k o) := rfl
theorem okv_nilptr : okv .nilptr = some .nilptr := rfl
theorem okv_slice (k o l c : Nat) : okv (.slice k o l c) = some (.slice k o l c) := rfl
theorem okv_eslice (k o l c : Nat) : okv (.eslice k o l c) = some (.eslice k o l c) := rfl
theorem okv_nilslice : okv .nilslice = some .nilslice := rfl
theorem okv_map (k : Nat) : okv (.map k) = some (.map k) := rfl
theorem okv_nilmap : okv .nilmap = some .nilmap := rfl
theorem okv_func (f : Fn) (a c : List AV) : okv (.func f a c) = some (.func f a c) := rfl
theorem okv_nilfunc : okv .nilfunc = some .nilfunc := rfl
theorem okv_iface (t : TypeId) (v : AV) : okv (.iface t v) = some (.iface t v) := rfl
theorem okv_niliface : okv .niliface = some .niliface := rfl
theorem okv_agg (cs : List AV) : okv (.agg cs) = some (.agg cs) := rfl
theorem okv_tup (cs : List AV) : okv (.tup cs) = some (.tup cs) := rfl
theorem opE_move (x : Operand) : opE P call ρ ⟨d, .move x,t,p,a,g⟩ h = th (okv (ρ x)) fun v => some (v,h) := by
 show ((ρ x).fK fun v => p2 v h) = _
 exact fK_E _ _
theorem opE_assign (x : Operand) : opE P call ρ ⟨d, .assign x,t,p,a,g⟩ h = th (okv (ρ x)) fun v => some (v,h) := by
 show ((ρ x).fK fun v => p2 v h) = _
 exact fK_E _ _
def pickE : AV -> AV -> AV -> Option AV
 | .bool true,a,_ => okv a
 | .bool false,_,b => okv b
 | _,_,_ => none
theorem pickE_true (a b : AV) : pickE (.bool true) a b = okv a := rfl
theorem pickE_false (a b : AV) : pickE (.bool false) a b = okv b := rfl
theorem opE_pick (c x y : Operand) : opE P call ρ ⟨d, .pick c x y,t,p,a,g⟩ h = th (pickE (ρ c) (ρ x) (ρ y)) fun v => some (v,h) := by
 show (match ρ c with | .bool true => (ρ x).fK fun v => p2 v h | .bool false => (ρ y).fK fun v => p2 v h | _ => none) = _
 cases ρ c <;> try rfl
 rename_i b
 cases b <;> exact fK_E _ _
theorem opE_build (u : TypeId) (ps : Array (Nat × Operand)) : opE P call ρ ⟨d, .build u ps,t,p,a,g⟩ h = th (okvs ((ps.toList.map (·.2)).map ρ)) fun vs => th (buildE P u ((ps.toList.map (·.1)).zip vs)) fun v => some (v,h) := by
 show (fArgs ρ (ps.toList.map (·.2)) fun vs => buildK P u ((ps.toList.map (·.1)).zip vs) fun v => p2 v h) = _
 rw [fArgs_E]; exact th_congr _ fun vs => buildK_E ..
def nilE : AV -> Option AV
 | .ptr k o => some (.ptr k o)
 | .func (.func f) a c => some (.func (.func f) a c)
 | _ => none
theorem nilE_ptr (k o : Nat) : nilE (.ptr k o) = some (.ptr k o) := rfl
theorem nilE_func (f : Nat) (a c : List AV) : nilE (.func (.func f) a c) = some (.func (.func f) a c) := rfl
theorem opE_nilCheck (x : Operand) : opE P call ρ ⟨d, .nilCheck x,t,p,a,g⟩ h = th (nilE (ρ x)) fun v => some (v,h) := by
 show (match ρ x with | .ptr k o => p2 (.ptr k o) h | .func (.func f) a c => p2 (.func (.func f) a c) h | _ => none) = _
 cases ρ x <;> try rfl
 rename_i f _ _
 cases f <;> rfl
theorem opE_binOp (op : BinOp) (u v : TypeId) (x y : Operand) : opE P call ρ ⟨d, .binOp op u x y v,t,p,a,g⟩ h = th (okv (ρ x)) fun x => th (okv (ρ y)) fun y => th (binE P op u x y) fun v => some (v,h) := by
 show ((ρ x).okK fun a => (ρ y).okK fun b => binK P op u a b fun v => p2 v h) = _
 simp only [okK_E]; exact th_congr _ fun _ => th_congr _ fun _ => binK_E ..
theorem opE_unOp (op : UnOp) (u : TypeId) (x : Operand) : opE P call ρ ⟨d, .unOp op u x,t,p,a,g⟩ h = th (okv (ρ x)) fun x => th (unE op x) fun v => some (v,h) := by
 show ((ρ x).okK fun a => unA op a fun v => p2 v h) = _
 simp only [okK_E]; exact th_congr _ fun _ => unA_E ..
theorem opE_arrayAt (u : TypeId) (x : Operand) : opE P call ρ ⟨d, .sliceToArrayPointer u x,t,p,a,g⟩ h = th (okv (ρ x)) fun x => th (arrayAtE P u x) fun v => some (v,h) := by
 show ((ρ x).okK fun a => arrayAtK P u a fun v => p2 v h) = _
 simp only [okK_E]; exact th_congr _ fun _ => arrayAtK_E ..
theorem opE_makeFunc (f : Fn) (x y : Array Operand) : opE P call ρ ⟨d, .makeFunc f x y,t,p,a,g⟩ h = th (okvs (x.toList.map ρ)) fun x => th (okvs (y.toList.map ρ)) fun y => some (.func f x y,h) := by
 show (fArgs ρ x.toList fun f' => fArgs ρ y.toList fun c => p2 (.func f f' c) h) = _
 simp only [fArgs_E]; rfl
theorem opE_slice (u : TypeId) (x : Operand) (lo hi mx : Option Operand) : opE P call ρ ⟨d, .slice u x lo hi mx,t,p,a,g⟩ h = th (okv (ρ x)) fun x => th (sliceE P u x (lo.map ρ) (hi.map ρ) (mx.map ρ)) fun v => some (v,h) := by
 show ((ρ x).okK fun a => sliceK P u a (lo.map ρ) (hi.map ρ) (mx.map ρ) fun v => p2 v h) = _
 simp only [okK_E]; exact th_congr _ fun _ => sliceK_E ..
theorem opE_fieldAddr (u : TypeId) (x : Operand) (f : Nat) : opE P call ρ ⟨d, .fieldAddr u x f,t,p,a,g⟩ h = th (okv (ρ x)) fun x => th (fieldAddrE P u x f) fun v => some (v,h) := by
 show ((ρ x).okK fun a => fieldAddrK P u a f fun v => p2 v h) = _
 simp only [okK_E]; exact th_congr _ fun _ => fieldAddrK_E ..
theorem opE_field (u : TypeId) (x : Operand) (f : Nat) : opE P call ρ ⟨d, .field u x f,t,p,a,g⟩ h = th (okv (ρ x)) fun x => th (fieldE P u x f) fun v => some (v,h) := by
 show ((ρ x).okK fun a => fieldK P u a f fun v => p2 v h) = _
 simp only [okK_E]; exact th_congr _ fun _ => fieldK_E ..
theorem opE_indexAddr (u : TypeId) (x i : Operand) : opE P call ρ ⟨d, .indexAddr u x i,t,p,a,g⟩ h = th (okv (ρ x)) fun x => th (okv (ρ i)) fun i => th (indexAddrE P u x i) fun v => some (v,h) := by
 show ((ρ x).okK fun a => (ρ i).okK fun b => indexAddrK P u a b fun v => p2 v h) = _
 simp only [okK_E]; exact th_congr _ fun _ => th_congr _ fun _ => indexAddrK_E ..
theorem opE_index (u : TypeId) (x i : Operand) : opE P call ρ ⟨d, .index u x i,t,p,a,g⟩ h = th (okv (ρ x)) fun x => th (okv (ρ i)) fun i => th (indexE P u x i) fun v => some (v,h) := by
 show ((ρ x).okK fun a => (ρ i).okK fun b => indexK P u a b fun v => p2 v h) = _
 simp only [okK_E]; exact th_congr _ fun _ => th_congr _ fun _ => indexK_E ..
def extE : AV -> Nat -> Option AV
 | .tup vs,i => vs[i]?
 | _,_ => none
theorem extE_tup (vs : List AV) (i : Nat) : extE (.tup vs) i = vs[i]? := rfl
theorem opE_extract (x : Operand) (i : Nat) : opE P call ρ ⟨d, .extract x i,t,p,a,g⟩ h = th (extE (ρ x) i) fun v => some (v,h) := by
 show (match ρ x with | .tup vs => lget vs i none fun v => p2 v h | _ => none) = _
 cases ρ x <;> try rfl
 simp only [lget_E]; rfl
theorem opE_load (u : TypeId) (x : Operand) : opE P call ρ ⟨d, .load u x,t,p,a,g⟩ h = th (okv (ρ x)) fun x => th (loadE P h u x) fun v => some (v,h) := by
 show ((ρ x).okK fun a => loadK P h u a fun v => p2 v h) = _
 simp only [okK_E]; exact th_congr _ fun _ => loadK_E ..
theorem opE_lookup (u : TypeId) (x i : Operand) (ok : Bool) : opE P call ρ ⟨d, .lookup u x i ok,t,p,a,g⟩ h = th (okv (ρ x)) fun x => th (okv (ρ i)) fun i => th (lookupE P h u x i ok) fun v => some (v,h) := by
 show ((ρ x).okK fun a => (ρ i).okK fun b => lookupK P h u a b ok fun v => p2 v h) = _
 simp only [okK_E]; exact th_congr _ fun _ => th_congr _ fun _ => lookupK_E ..
theorem opE_alloc (u : TypeId) : opE P call ρ ⟨d, .alloc u,t,p,a,g⟩ h = th (zeroE P u) fun v => some (.ptr h.next 0,h.new (.cells v.cells 0 false)) := by
 show (zeroK P u fun v => v.cellsK fun cs => h.newK (.cells cs 0 false) fun k h => (AV.ptr k 0).fK fun v => p2 v h) = _
 simp only [zeroK_E,cellsK_eq,newK_E,fK_E]
 rfl
theorem opE_box (u : TypeId) (x : Operand) : opE P call ρ ⟨d, .box u x,t,p,a,g⟩ h = th (okv (ρ x)) fun v => some (.ptr h.next 0,h.new (.cells v.cells 0 false)) := by
 show ((ρ x).fK fun v => v.cellsK fun cs => h.newK (.cells cs 0 false) fun k h => (AV.ptr k 0).fK fun v => p2 v h) = _
 simp only [fK_E,cellsK_eq,newK_E]
 rfl
theorem opE_store (u : TypeId) (x y : Operand) : opE P call ρ ⟨d, .store u x y,t,p,a,g⟩ h = th (okv (ρ y)) fun v => th (okv (ρ x)) fun x => th (storeE P h u x v) fun h => some (undefA,h) := by
 show ((ρ y).fK fun v => (ρ x).okK fun a => storeK P h u a v fun h => p2 undefA h) = _
 simp only [okK_E,fK_E]; exact th_congr _ fun _ => th_congr _ fun _ => storeK_E ..
theorem opE_mapUpdate (u : TypeId) (m k v : Operand) : opE P call ρ ⟨d, .mapUpdate u m k v,t,p,a,g⟩ h = th (okv (ρ k)) fun k => th (okv (ρ v)) fun v => th (okv (ρ m)) fun m => th (mapUpdateE P h u m k v) fun h => some (undefA,h) := by
 show ((ρ k).fK fun k => (ρ v).fK fun v => (ρ m).okK fun m => mapUpdateK P h u m k v fun h => p2 undefA h) = _
 simp only [okK_E,fK_E]; exact th_congr _ fun _ => th_congr _ fun _ => th_congr _ fun _ => mapUpdateK_E ..
def callE (call : CallK) (fv : AV) (vs : List AV) (h : Heap) : Option (AV × Heap) := match fv with
 | .func (.func f) first cap => call f (first ++ vs ++ cap) h
 | _ => none
theorem callE_func (f : Nat) (a c vs : List AV) : callE call (.func (.func f) a c) vs h = call f (a ++ vs ++ c) h := rfl
theorem opE_call (f : Operand) (xs : Array Operand) (ts : Array TypeId) : opE P call ρ ⟨d, .call ⟨.value f,xs,ts⟩,t,p,a,g⟩ h = th (okvs (xs.toList.map ρ)) fun vs => th (okv (ρ f)) fun fv => callE call fv vs h := by
 show (fArgs ρ xs.toList fun vs => (ρ f).okK fun fv => (match fv with
   | .func (.func f) first cap => lapp first vs fun vs => lapp vs cap fun vs => (match call f vs h with | some (v,h) => p2 v h | none => none)
   | _ => none)) = _
 simp only [fArgs_E,okK_E,lapp_eq]
 refine th_congr _ fun vs => th_congr _ fun fv => ?_
 cases fv <;> try rfl
 rename_i fn _ _
 cases fn <;> try rfl
 simp only [callE]
 split <;> simp_all [p2]
end
/-! classes -/
section
variable {d : Option Tmp} {t : TypeId} {p : String} {a : Array Edge} {g : Option (Nat × Bool)}
theorem cls_move (x : Operand) : cls P ⟨d, .move x,t,p,a,g⟩ = .p := rfl
theorem cls_assign (x : Operand) : cls P ⟨d, .assign x,t,p,a,g⟩ = .p := rfl
theorem cls_pick (x y z : Operand) : cls P ⟨d, .pick x y z,t,p,a,g⟩ = .p := rfl
theorem cls_build (u : TypeId) (x : Array (Nat × Operand)) : cls P ⟨d, .build u x,t,p,a,g⟩ = .p := rfl
theorem cls_nilCheck (x : Operand) : cls P ⟨d, .nilCheck x,t,p,a,g⟩ = .p := rfl
theorem cls_binOp (op : BinOp) (u v : TypeId) (x y : Operand) : cls P ⟨d, .binOp op u x y v,t,p,a,g⟩ = .p := rfl
theorem cls_unOp (op : UnOp) (u : TypeId) (x : Operand) : cls P ⟨d, .unOp op u x,t,p,a,g⟩ = .p := rfl
theorem cls_arrayAt (u : TypeId) (x : Operand) : cls P ⟨d, .sliceToArrayPointer u x,t,p,a,g⟩ = .p := rfl
theorem cls_makeFunc (f : Fn) (x y : Array Operand) : cls P ⟨d, .makeFunc f x y,t,p,a,g⟩ = .p := rfl
theorem cls_slice (u : TypeId) (x : Operand) (lo hi mx : Option Operand) : cls P ⟨d, .slice u x lo hi mx,t,p,a,g⟩ = .p := rfl
theorem cls_fieldAddr (u : TypeId) (x : Operand) (f : Nat) : cls P ⟨d, .fieldAddr u x f,t,p,a,g⟩ = .p := rfl
theorem cls_field (u : TypeId) (x : Operand) (f : Nat) : cls P ⟨d, .field u x f,t,p,a,g⟩ = .p := rfl
theorem cls_indexAddr (u : TypeId) (x y : Operand) : cls P ⟨d, .indexAddr u x y,t,p,a,g⟩ = .p := rfl
theorem cls_index (u : TypeId) (x y : Operand) : cls P ⟨d, .index u x y,t,p,a,g⟩ = .p := rfl
theorem cls_extract (x : Operand) (i : Nat) : cls P ⟨d, .extract x i,t,p,a,g⟩ = .p := rfl
theorem cls_typeAssert (x : Operand) (u v : TypeId) (b : Bool) : cls P ⟨d, .typeAssert x u v b,t,p,a,g⟩ = .p := rfl
theorem cls_load (u : TypeId) (x : Operand) : cls P ⟨d, .load u x,t,p,a,g⟩ = .r := rfl
theorem cls_lookup (u : TypeId) (x y : Operand) (b : Bool) : cls P ⟨d, .lookup u x y b,t,p,a,g⟩ = .r := rfl
theorem cls_alloc (u : TypeId) : cls P ⟨d, .alloc u,t,p,a,g⟩ = .a := rfl
theorem cls_box (u : TypeId) (x : Operand) : cls P ⟨d, .box u x,t,p,a,g⟩ = .a := rfl
theorem cls_store (u : TypeId) (x y : Operand) : cls P ⟨d, .store u x y,t,p,a,g⟩ = .e := rfl
theorem cls_mapUpdate (u : TypeId) (x y z : Operand) : cls P ⟨d, .mapUpdate u x y z,t,p,a,g⟩ = .e := rfl
theorem cls_call (f : Operand) (xs : Array Operand) (ts : Array TypeId) : cls P ⟨d, .call ⟨.value f,xs,ts⟩,t,p,a,g⟩ = .e := rfl
end
/-! words on values -/
theorem okvs_nil : okvs [] = some [] := rfl
theorem okvs_cons (v : AV) (vs : List AV) : okvs (v :: vs) = th (okv v) fun v => th (okvs vs) fun vs => some (v :: vs) := rfl
theorem ev_tmp (σ : Sg) (t : Nat) : ev σ (.tmp t) = σ t := rfl
theorem argS_at (args : List AV) (t : Nat) : argS args t = args.getD t undefA := rfl
theorem ev_const (σ : Sg) (v : Value) : ev σ (.const v) = ofV v := rfl
theorem ev_func (σ : Sg) (f : Nat) : ev σ (.func f) = .func (.func f) [] [] := rfl
theorem ofV_bool (b : Bool) : ofV (.bool b) = .bool b := rfl
theorem ofV_nilptr : ofV (.pointer none) = .nilptr := rfl
theorem ofV_nilslice : ofV (.slice none 0 0) = .nilslice := rfl
/-! numbers -/
theorem ile_eq (a b : Int) : ile a b = decide (a <= b) := by
 cases a <;> cases b <;> simp only [ile]
 ·rename_i a b
  rw [Bool.eq_iff_iff]; simp only [Nat.ble_eq,decide_eq_true_eq]
  exact (Int.ofNat_le).symm
 ·simp; omega
 ·simp; omega
 ·rename_i a b
  rw [Bool.eq_iff_iff]; simp only [Nat.ble_eq,decide_eq_true_eq]
  omega
variable {u : TypeId} {k : IntKind}
theorem bin_add (x y : Int) : binE P .add u (.int k x) (.int k y) = some (.int k (wrapA k (x + y))) := by simp [binE,binK,intOpK]
theorem bin_sub (x y : Int) : binE P .sub u (.int k x) (.int k y) = some (.int k (wrapA k (x - y))) := by simp [binE,binK,intOpK]
theorem bin_mul (x y : Int) : binE P .mul u (.int k x) (.int k y) = some (.int k (wrapA k (x * y))) := by simp [binE,binK,intOpK]
theorem bin_eql (x y : Int) : binE P .eql u (.int k x) (.int k y) = some (.bool (decide (x = y))) := by simp [binE,binK,intOpK,cmpA,ieq_eq]; rfl
theorem bin_neq (x y : Int) : binE P .neq u (.int k x) (.int k y) = some (.bool (!decide (x = y))) := by simp [binE,binK,intOpK,cmpA,ieq_eq]; rfl
theorem bin_lss (x y : Int) : binE P .lss u (.int k x) (.int k y) = some (.bool (decide (x < y))) := by simp only [binE,binK,intOpK,cmpA,ile_eq,fB_eq,if_true]; congr 2; rw [Bool.eq_iff_iff]; simp
theorem bin_leq (x y : Int) : binE P .leq u (.int k x) (.int k y) = some (.bool (decide (x <= y))) := by simp [binE,binK,intOpK,cmpA,ile_eq]
theorem bin_gtr (x y : Int) : binE P .gtr u (.int k x) (.int k y) = some (.bool (decide (y < x))) := by simp only [binE,binK,intOpK,cmpA,ile_eq,fB_eq,if_true]; congr 2; rw [Bool.eq_iff_iff]; simp
theorem bin_geq (x y : Int) : binE P .geq u (.int k x) (.int k y) = some (.bool (decide (y <= x))) := by simp [binE,binK,intOpK,cmpA,ile_eq]
theorem wrapA_nat {k : IntKind} {x : Int} (h0 : 0 <= x) (h1 : x < top k) : wrapA k x = x := by
 obtain ⟨n,rfl⟩ := Int.eq_ofNat_of_zero_le h0
 have : Nat.blt n (top k) = true := Nat.blt_eq.mpr (by exact_mod_cast h1)
 show (match Nat.blt n (top k) with | true => Int.ofNat n | false => k.wrap (Int.ofNat n)) = _
 rw [this]; rfl
theorem wrap_i64 {x : Int} (h0 : 0 <= x) (h1 : x < 9223372036854775808) : wrapA .i64 x = x := wrapA_nat h0 h1
theorem wrap_u64 {x : Int} (h0 : 0 <= x) (h1 : x < 18446744073709551616) : wrapA .u64 x = x := wrapA_nat h0 h1
theorem wrap_u8 {x : Int} (h0 : 0 <= x) (h1 : x < 256) : wrapA .u8 x = x := wrapA_nat h0 h1
theorem wrap_u32 {x : Int} (h0 : 0 <= x) (h1 : x < 4294967296) : wrapA .u32 x = x := wrapA_nat h0 h1
theorem bin_shr {k k' : IntKind} {x y : Int} (hx : 0 <= x) (hy : 0 <= y) (hb : y <= k.bits) : binE P .shr u (.int k x) (.int k' y) = some (.int k (x / 2 ^ y.toNat)) := by
 obtain ⟨a,rfl⟩ := Int.eq_ofNat_of_zero_le hx
 obtain ⟨m,rfl⟩ := Int.eq_ofNat_of_zero_le hy
 have hm : m <= k.bits := by exact_mod_cast hb
 have e : minN m k.bits = m := by simp only [minN,Nat.ble_eq_true_of_le hm]
 show (match (some (Int.ofNat (a / 2 ^ minN m k.bits)) : Option Int) with | some n => fI n fun n => some (AV.int k n) | none => none) = _
 rw [e]
 simp only [fI_eq]
 simp
theorem bin_shl {k k' : IntKind} {x y : Int} (hy : 0 <= y) (hb : y <= k.bits) : binE P .shl u (.int k x) (.int k' y) = some (.int k (wrapA k (x * 2 ^ y.toNat))) := by
 obtain ⟨m,rfl⟩ := Int.eq_ofNat_of_zero_le hy
 have hm : m <= k.bits := by exact_mod_cast hb
 have e : minN m k.bits = m := by simp only [minN,Nat.ble_eq_true_of_le hm]
 show (match (some (wrapA k (x * (2 ^ minN m k.bits : Nat))) : Option Int) with | some n => fI n fun n => some (AV.int k n) | none => none) = _
 rw [e]
 simp only [fI_eq]
 simp
theorem bits_of {k : IntKind} {x y : Int} (h1 : 0 <= x) (h2 : x < top k) (h3 : 0 <= y) (h4 : y < top k) :
  bitsA .xor k x y = some ((x.toNat ^^^ y.toNat : Nat) : Int) /\ bitsA .and k x y = some ((x.toNat &&& y.toNat : Nat) : Int) /\ bitsA .or k x y = some ((x.toNat ||| y.toNat : Nat) : Int) := by
 obtain ⟨a,rfl⟩ := Int.eq_ofNat_of_zero_le h1
 obtain ⟨b,rfl⟩ := Int.eq_ofNat_of_zero_le h3
 have ha : Nat.blt a (top k) = true := Nat.blt_eq.mpr (by exact_mod_cast h2)
 have hb : Nat.blt b (top k) = true := Nat.blt_eq.mpr (by exact_mod_cast h4)
 refine ⟨?_, ?_, ?_⟩ <;> simp only [bitsA,Int.ofNat_eq_natCast,ha,hb] <;> rfl
theorem bin_xor8 {x y : Int} (h1 : 0 <= x) (h2 : x < 256) (h3 : 0 <= y) (h4 : y < 256) : binE P .xor u (.int .u8 x) (.int .u8 y) = some (.int .u8 ((x.toNat ^^^ y.toNat : Nat) : Int)) := by
 simp [binE,binK,intOpK,(bits_of (k := .u8) h1 h2 h3 h4).1]
theorem bin_and8 {x y : Int} (h1 : 0 <= x) (h2 : x < 256) (h3 : 0 <= y) (h4 : y < 256) : binE P .and u (.int .u8 x) (.int .u8 y) = some (.int .u8 ((x.toNat &&& y.toNat : Nat) : Int)) := by
 simp [binE,binK,intOpK,(bits_of (k := .u8) h1 h2 h3 h4).2.1]
theorem bin_or8 {x y : Int} (h1 : 0 <= x) (h2 : x < 256) (h3 : 0 <= y) (h4 : y < 256) : binE P .or u (.int .u8 x) (.int .u8 y) = some (.int .u8 ((x.toNat ||| y.toNat : Nat) : Int)) := by
 simp [binE,binK,intOpK,(bits_of (k := .u8) h1 h2 h3 h4).2.2]
theorem bin_shr_u8 {k' : IntKind} {x y : Int} (hx : 0 <= x) (hy : 0 <= y) (hb : y <= 8) : binE P .shr u (.int .u8 x) (.int k' y) = some (.int .u8 (x / 2 ^ y.toNat)) := bin_shr hx hy hb
theorem bin_shl_u8 {k' : IntKind} {x y : Int} (hy : 0 <= y) (hb : y <= 8) : binE P .shl u (.int .u8 x) (.int k' y) = some (.int .u8 (wrapA .u8 (x * 2 ^ y.toNat))) := bin_shl hy hb
theorem bin_shr_u32 {k' : IntKind} {x y : Int} (hx : 0 <= x) (hy : 0 <= y) (hb : y <= 32) : binE P .shr u (.int .u32 x) (.int k' y) = some (.int .u32 (x / 2 ^ y.toNat)) := bin_shr hx hy hb
theorem bin_shl_u32 {k' : IntKind} {x y : Int} (hy : 0 <= y) (hb : y <= 32) : binE P .shl u (.int .u32 x) (.int k' y) = some (.int .u32 (wrapA .u32 (x * 2 ^ y.toNat))) := bin_shl hy hb
theorem bin_shr_u64 {k' : IntKind} {x y : Int} (hx : 0 <= x) (hy : 0 <= y) (hb : y <= 64) : binE P .shr u (.int .u64 x) (.int k' y) = some (.int .u64 (x / 2 ^ y.toNat)) := bin_shr hx hy hb
theorem bin_shl_u64 {k' : IntKind} {x y : Int} (hy : 0 <= y) (hb : y <= 64) : binE P .shl u (.int .u64 x) (.int k' y) = some (.int .u64 (wrapA .u64 (x * 2 ^ y.toNat))) := bin_shl hy hb
theorem bin_shr_i64 {k' : IntKind} {x y : Int} (hx : 0 <= x) (hy : 0 <= y) (hb : y <= 64) : binE P .shr u (.int .i64 x) (.int k' y) = some (.int .i64 (x / 2 ^ y.toNat)) := bin_shr hx hy hb
theorem bin_shl_i64 {k' : IntKind} {x y : Int} (hy : 0 <= y) (hb : y <= 64) : binE P .shl u (.int .i64 x) (.int k' y) = some (.int .i64 (wrapA .i64 (x * 2 ^ y.toNat))) := bin_shl hy hb
theorem bin_xor_u32 {x y : Int} (h1 : 0 <= x) (h2 : x < 4294967296) (h3 : 0 <= y) (h4 : y < 4294967296) : binE P .xor u (.int .u32 x) (.int .u32 y) = some (.int .u32 ((x.toNat ^^^ y.toNat : Nat) : Int)) := by
 simp [binE,binK,intOpK,(bits_of (k := .u32) h1 h2 h3 h4).1]
theorem bin_and_u32 {x y : Int} (h1 : 0 <= x) (h2 : x < 4294967296) (h3 : 0 <= y) (h4 : y < 4294967296) : binE P .and u (.int .u32 x) (.int .u32 y) = some (.int .u32 ((x.toNat &&& y.toNat : Nat) : Int)) := by
 simp [binE,binK,intOpK,(bits_of (k := .u32) h1 h2 h3 h4).2.1]
theorem bin_or_u32 {x y : Int} (h1 : 0 <= x) (h2 : x < 4294967296) (h3 : 0 <= y) (h4 : y < 4294967296) : binE P .or u (.int .u32 x) (.int .u32 y) = some (.int .u32 ((x.toNat ||| y.toNat : Nat) : Int)) := by
 simp [binE,binK,intOpK,(bits_of (k := .u32) h1 h2 h3 h4).2.2]
theorem bin_xor_u64 {x y : Int} (h1 : 0 <= x) (h2 : x < 18446744073709551616) (h3 : 0 <= y) (h4 : y < 18446744073709551616) : binE P .xor u (.int .u64 x) (.int .u64 y) = some (.int .u64 ((x.toNat ^^^ y.toNat : Nat) : Int)) := by
 simp [binE,binK,intOpK,(bits_of (k := .u64) h1 h2 h3 h4).1]
theorem bin_and_u64 {x y : Int} (h1 : 0 <= x) (h2 : x < 18446744073709551616) (h3 : 0 <= y) (h4 : y < 18446744073709551616) : binE P .and u (.int .u64 x) (.int .u64 y) = some (.int .u64 ((x.toNat &&& y.toNat : Nat) : Int)) := by
 simp [binE,binK,intOpK,(bits_of (k := .u64) h1 h2 h3 h4).2.1]
theorem bin_or_u64 {x y : Int} (h1 : 0 <= x) (h2 : x < 18446744073709551616) (h3 : 0 <= y) (h4 : y < 18446744073709551616) : binE P .or u (.int .u64 x) (.int .u64 y) = some (.int .u64 ((x.toNat ||| y.toNat : Nat) : Int)) := by
 simp [binE,binK,intOpK,(bits_of (k := .u64) h1 h2 h3 h4).2.2]
theorem bin_xor_i64 {x y : Int} (h1 : 0 <= x) (h2 : x < 9223372036854775808) (h3 : 0 <= y) (h4 : y < 9223372036854775808) : binE P .xor u (.int .i64 x) (.int .i64 y) = some (.int .i64 ((x.toNat ^^^ y.toNat : Nat) : Int)) := by
 simp [binE,binK,intOpK,(bits_of (k := .i64) h1 h2 h3 h4).1]
theorem bin_and_i64 {x y : Int} (h1 : 0 <= x) (h2 : x < 9223372036854775808) (h3 : 0 <= y) (h4 : y < 9223372036854775808) : binE P .and u (.int .i64 x) (.int .i64 y) = some (.int .i64 ((x.toNat &&& y.toNat : Nat) : Int)) := by
 simp [binE,binK,intOpK,(bits_of (k := .i64) h1 h2 h3 h4).2.1]
theorem bin_or_i64 {x y : Int} (h1 : 0 <= x) (h2 : x < 9223372036854775808) (h3 : 0 <= y) (h4 : y < 9223372036854775808) : binE P .or u (.int .i64 x) (.int .i64 y) = some (.int .i64 ((x.toNat ||| y.toNat : Nat) : Int)) := by
 simp [binE,binK,intOpK,(bits_of (k := .i64) h1 h2 h3 h4).2.2]
theorem wrap_u8_mod {x : Int} (h0 : 0 <= x) : wrapA .u8 x = x % 256 := by
 obtain ⟨n,rfl⟩ := Int.eq_ofNat_of_zero_le h0
 show (match Nat.blt n 256 with | true => Int.ofNat n | false => IntKind.wrap .u8 (Int.ofNat n)) = _
 cases h : Nat.blt n 256 with
 | true => have : n < 256 := Nat.blt_eq.mp h; simp only [Int.ofNat_eq_natCast]; omega
 | false => simp [IntKind.wrap]; rfl
theorem bin_quo {x y : Int} (h0 : 0 <= x) (h1 : 0 < y) : binE P .quo u (.int k x) (.int k y) = some (.int k (wrapA k (x / y))) := by
 have : ieq y 0 = false := by rw [ieq_eq]; simp; omega
 simp [binE,binK,intOpK,divA,this,Int.tdiv_eq_ediv_of_nonneg h0]
theorem bin_rem {x y : Int} (h0 : 0 <= x) (h1 : 0 < y) : binE P .rem u (.int k x) (.int k y) = some (.int k (x % y)) := by
 have : ieq y 0 = false := by rw [ieq_eq]; simp; omega
 simp [binE,binK,intOpK,divA,this,Int.tmod_eq_emod_of_nonneg h0]
theorem un_not (b : Bool) : unE .not (.bool b) = some (.bool (!b)) := by cases b <;> rfl
theorem neq_pn {t e : TypeId} (hu : P.underlying t = some (.pointer e)) (k o : Nat) : binE P .neq t (.ptr k o) .nilptr = some (.bool true) := by simp [binE,binK,eqlK,unK_E,hu]
theorem eql_pn {t e : TypeId} (hu : P.underlying t = some (.pointer e)) (k o : Nat) : binE P .eql t (.ptr k o) .nilptr = some (.bool false) := by simp [binE,binK,eqlK,unK_E,hu]
theorem neq_nn {t e : TypeId} (hu : P.underlying t = some (.pointer e)) : binE P .neq t .nilptr .nilptr = some (.bool false) := by simp [binE,binK,eqlK,unK_E,hu]
theorem eql_nn {t e : TypeId} (hu : P.underlying t = some (.pointer e)) : binE P .eql t .nilptr .nilptr = some (.bool true) := by simp [binE,binK,eqlK,unK_E,hu]
theorem dlei_t {a b : Int} (h : a <= b) : decide (a <= b) = true := decide_eq_true h
theorem dlei_f {a b : Int} (h : ¬ a <= b) : decide (a <= b) = false := decide_eq_false h
theorem dlti_t {a b : Int} (h : a < b) : decide (a < b) = true := decide_eq_true h
theorem dlti_f {a b : Int} (h : ¬ a < b) : decide (a < b) = false := decide_eq_false h
theorem deqi_t {a b : Int} (h : a = b) : decide (a = b) = true := decide_eq_true h
theorem deqi_f {a b : Int} (h : ¬ a = b) : decide (a = b) = false := decide_eq_false h
theorem dlen_t {a b : Nat} (h : a <= b) : decide (a <= b) = true := decide_eq_true h
theorem dlen_f {a b : Nat} (h : ¬ a <= b) : decide (a <= b) = false := decide_eq_false h
theorem dltn_t {a b : Nat} (h : a < b) : decide (a < b) = true := decide_eq_true h
theorem dltn_f {a b : Nat} (h : ¬ a < b) : decide (a < b) = false := decide_eq_false h
theorem deqn_t {a b : Nat} (h : a = b) : decide (a = b) = true := decide_eq_true h
theorem deqn_f {a b : Nat} (h : ¬ a = b) : decide (a = b) = false := decide_eq_false h
/-! memory -/ -- dle_t
def loadB (P : Program) (t : TypeId) (off : Nat) : Option Blk -> Option AV
 | some (.cells cs _ _) => th (P.underlying t) fun d => (match isAggD d with
   | true => th (szE P t) fun n => th (cutE off n cs) fun r => some (.agg r)
   | false => cs[off]?)
 | _ => none
theorem loadE_ptr (h : Heap) (t : TypeId) (k off : Nat) : loadE P h t (.ptr k off) = loadB P t off (h.get k) := by
 simp only [loadE,loadB]
 cases h.get k with
 | none => rfl
 | some b => cases b <;> rfl
theorem loadB_agg {t : TypeId} {d : TypeDesc} {n : Nat} (hu : P.underlying t = some d) (ha : isAggD d = true) (hz : szE P t = some n) (off : Nat) (cs : List AV) (e : Nat) (r : Bool) : loadB P t off (some (.cells cs e r)) = th (cutE off n cs) fun r => some (.agg r) := by
 simp only [loadB,hu,th_some,ha,hz]
theorem loadB_sc {t : TypeId} {d : TypeDesc} (hu : P.underlying t = some d) (ha : isAggD d = false) (off : Nat) (cs : List AV) (e : Nat) (r : Bool) : loadB P t off (some (.cells cs e r)) = cs[off]? := by
 simp only [loadB,hu,th_some,ha]
def storeB (h : Heap) (k off : Nat) (vs : List AV) : Option Blk -> Option Heap
 | some (.cells cs ext false) => th (overE off vs cs) fun cs => some (h.put k (some (.cells cs ext false)))
 | _ => none
theorem storeE_ptr {t : TypeId} {n : Nat} (hz : szE P t = some (n + 1)) (h : Heap) (k off : Nat) (v : AV) : storeE P h t (.ptr k off) v = if v.cells.length = n + 1 then storeB h k off v.cells (h.get k) else none := by
 simp only [storeE,hz,th_some]
 by_cases hv : v.cells.length = n + 1
 ·rw [if_pos hv,hv,Nat.beq_refl]
  simp only [storeCE]
  cases hc : v.cells with
  | nil => rw [hc] at hv; cases hv
  | cons a as =>
   cases h.get k with
   | none => rfl
   | some b => cases b with
    | map _ _ => rfl
    | cells cs e r => cases r <;> rfl
 ·rw [if_neg hv]
  have : Nat.beq (n + 1) v.cells.length = false := by
   cases hb : Nat.beq (n + 1) v.cells.length with
   | true => exact absurd (Nat.eq_of_beq_eq_true hb).symm hv
   | false => rfl
  rw [this]
theorem storeB_cells (h : Heap) (k off : Nat) (vs cs : List AV) (e : Nat) : storeB h k off vs (some (.cells cs e false)) = th (overE off vs cs) fun cs => some (h.put k (some (.cells cs e false))) := rfl
theorem cutE_of {off n : Nat} {l : List AV} (h : off + n <= l.length) : cutE off n l = some ((l.drop off).take n) := by simp [cutE,h]
def scE (b : Bool) (l : List AV) : Option (List AV) := match b with
 | true => some l
 | false => none
theorem scE_true (l : List AV) : scE true l = some l := rfl
def ovN (n off : Nat) (vs l : List AV) : Option (List AV) := if off + n <= l.length /\ allSc vs = true then some (l.take off ++ vs ++ l.drop (off + n)) else none
theorem overE_n (off : Nat) (vs l : List AV) : overE off vs l = ovN vs.length off vs l := rfl
theorem ovN_of {n off : Nat} {vs l : List AV} (h : off + n <= l.length) : ovN n off vs l = scE (allSc vs) (l.take off ++ vs ++ l.drop (off + n)) := by
 unfold ovN
 cases hs : allSc vs with
 | true => rw [if_pos ⟨h,rfl⟩]; rfl
 | false => rw [if_neg (by rintro ⟨_,h⟩; cases h)]; rfl
theorem ov2 (off : Nat) (v w : AV) (vs l : List AV) : overE off (v :: w :: vs) l = ovN (vs.length + 2) off (v :: w :: vs) l := rfl
theorem ovN_full {n : Nat} {vs l : List AV} (h : (l.length == n) = true)  : ovN n 0 vs l = scE (allSc vs) vs := by
 have h : l.length = n := by simpa using h
 rw [ovN_of (by omega),Nat.zero_add,<- h,List.drop_length]
 simp
theorem allSc_nil : allSc [] = true := rfl
theorem allSc_cons (v : AV) (vs : List AV) : allSc (v :: vs) = (isSc v && allSc vs) := rfl
theorem overE_one {off : Nat} {v : AV} {l : List AV} (h : off < l.length) : overE off [v] l = scE (isSc v) (l.set off v) := by
 rw [overE_n,List.length_singleton,ovN_of (by omega),allSc_cons,allSc_nil,Bool.and_true,List.set_eq_take_append_cons_drop,if_pos h]
 simp
theorem get_put_same (h : Heap) (k : Nat) (b : Option Blk) : (h.put k b).get k = b := put_same ..
theorem get_put_ne {h : Heap} {k j : Nat} {b : Option Blk} (hj : j ≠ k) : (h.put k b).get j = h.get j := put_ne _ _ hj
theorem get_new_same (h : Heap) (b : Blk) : (h.new b).get h.next = some b := new_same ..
theorem get_new_eq {h : Heap} {j : Nat} {b : Blk} (hj : (j == h.next) = true) : (h.new b).get j = some b := by
 have hj : j = h.next := by simpa using hj
 subst hj
 exact new_same ..
theorem get_new_ne {h : Heap} {j : Nat} {b : Blk} (hj : j ≠ h.next) : (h.new b).get j = h.get j := new_ne _ _ hj
theorem next_put (h : Heap) (k : Nat) (b : Option Blk) : (h.put k b).next = h.next := rfl
theorem next_new (h : Heap) (b : Blk) : (h.new b).next = h.next + 1 := rfl
theorem fa_of {s ft : TypeId} {fs : Array Field} {fd : Field} (f n o : Nat) (hu : P.underlying s = some (.struct fs)) (hf : fs.toList[f]? = some fd) (hft : fd.type = ft) (hz : szE P ft = some (n + 1)) (ho : fd.offset = o) (k off : Nat) : fieldAddrE P s (.ptr k off) f = some (.ptr k (off + o)) := by
 subst ho hft
 simp only [fieldAddrE,fieldAddrK,unK_E,hu,th_some,hf,szK_E,hz,fN_eq]
theorem fieldE_of {s ft : TypeId} {fs : Array Field} {fd : Field} (f o : Nat) (hu : P.underlying s = some (.struct fs)) (hf : fs.toList[f]? = some fd) (hft : fd.type = ft) (ho : fd.offset = o) (cs : List AV) : fieldE P s (.agg cs) f = partE P ft cs o := by
 subst ho hft
 simp only [fieldE,fieldK,unK_E,hu,th_some,hf,partE]
theorem partE_sc {t : TypeId} {d : TypeDesc} (hu : P.underlying t = some d) (ha : isAggD d = false) (cs : List AV) (off : Nat) : partE P t cs off = cs[off]? := by
 simp only [partE,partK,unK_E,hu,th_some,ha,lget_E,th_id]
theorem ia_arr {t e : TypeId} {m n : Nat} (hu : P.underlying t = some (.array m e)) (hz : szE P e = some n) (k off : Nat) {q : IntKind} (i : Int) : indexAddrE P t (.ptr k off) (.int q i) = th (idxE i m) fun i => some (.ptr k (off + i * n)) := by
 simp only [indexAddrE,indexAddrK,asI_E,asIE,unK_E,hu,th_some,idxK_E,szK_E,hz,fN_eq]
theorem ia_slice {t e : TypeId} {n : Nat} (hu : P.underlying t = some (.slice e)) (hz : szE P e = some n) (k off l c : Nat) {q : IntKind} (i : Int) : indexAddrE P t (.slice k off l c) (.int q i) = th (idxE i l) fun i => some (.ptr k (off + i * n)) := by
 simp only [indexAddrE,indexAddrK,asI_E,asIE,unK_E,hu,th_some,idxK_E,szK_E,hz,fN_eq]
theorem ia_eslice {t e : TypeId} {n : Nat} (hu : P.underlying t = some (.slice e)) (hz : szE P e = some n) (k off i0 l : Nat) {q : IntKind} (i : Int) : indexAddrE P t (.eslice k off i0 l) (.int q i) = th (idxE i l) fun i => some (.ptr k (off + i * n)) := by
 simp only [indexAddrE,indexAddrK,asI_E,asIE,unK_E,hu,th_some,idxK_E,szK_E,hz,fN_eq]
def offS (m l off n : Nat) : Nat := match Nat.beq m l with | true => off | false => off + l * n
theorem sl_arr {t e : TypeId} {m n : Nat} (hu : P.underlying t = some (.array m e)) (hz : szE P e = some n) (k off : Nat) {q q' : IntKind} (l h : Int) : sliceE P t (.ptr k off) (some (.int q l)) (some (.int q' h)) none = th (idxE h (m + 1)) fun h => th (idxE l (h + 1)) fun l => some (.slice k (offS m l off n) (h - l) (m - l)) := by
 simp only [sliceE,sliceK,unK_E,hu,th_some,bndK_E,bndE,asIE,szK_E,hz,fN_eq]; rfl
theorem offS_lt {m l n off : Nat} (h : l < m) : offS m l off n = off + l * n := by
 have : Nat.beq m l = false := by
  cases hb : Nat.beq m l with
  | true => have := Nat.eq_of_beq_eq_true hb; omega
  | false => rfl
 unfold offS
 rw [this]
theorem sl_arr_h {t e : TypeId} {m n : Nat} (hu : P.underlying t = some (.array m e)) (hz : szE P e = some n) (k off : Nat) {q' : IntKind} (h : Int) : sliceE P t (.ptr k off) none (some (.int q' h)) none = th (idxE h (m + 1)) fun h => some (.slice k (offS m 0 off n) (h - 0) (m - 0)) := by
 simp only [sliceE,sliceK,unK_E,hu,th_some,bndK_E,bndE,asIE,szK_E,hz,fN_eq]; rfl
theorem sl_arr_l {t e : TypeId} {m n : Nat} (hu : P.underlying t = some (.array m e)) (hz : szE P e = some n) (k off : Nat) {q : IntKind} (l : Int) : sliceE P t (.ptr k off) (some (.int q l)) none none = th (idxE l (m + 1)) fun l => some (.slice k (offS m l off n) (m - l) (m - l)) := by
 simp only [sliceE,sliceK,unK_E,hu,th_some,bndK_E,bndE,asIE,szK_E,hz,fN_eq]; rfl
theorem sl_arr_0 {t e : TypeId} {m n : Nat} (hu : P.underlying t = some (.array m e)) (hz : szE P e = some n) (k off : Nat) : sliceE P t (.ptr k off) none none none = some (.slice k (offS m 0 off n) (m - 0) (m - 0)) := by
 simp only [sliceE,sliceK,unK_E,hu,th_some,bndK_E,bndE,szK_E,hz,fN_eq]; rfl
theorem idxE_of {i : Int} {n : Nat} (h0 : 0 <= i) (h1 : i < n) : idxE i n = some i.toNat := by simp [idxE,h0,h1]
theorem ix_arr {t e : TypeId} {m n : Nat} (hu : P.underlying t = some (.array m e)) (hz : szE P e = some n) (cs : List AV) {q : IntKind} (i : Int) : indexE P t (.agg cs) (.int q i) = th (idxE i m) fun i => partE P e cs (i * n) := by
 simp only [indexE,indexK,asI_E,asIE,unK_E,hu,th_some,idxK_E,szK_E,hz,fN_eq,partE]
theorem set_set {α : Type} (x y : Option α) (p : Pth) (t : Tr α) : Tr.set x p (Tr.set y p t) = Tr.set x p t := by
 induction p generalizing t with
 | e => cases t <;> rfl
 | z p ih => cases t with
  | leaf => rw [set_zl,set_z,set_zl,ih]
  | node v l r => rw [set_z,set_z,set_z,ih]
 | o p ih => cases t with
  | leaf => rw [set_ol,set_o,set_ol,ih]
  | node v l r => rw [set_o,set_o,set_o,ih]
theorem put_put (h : Heap) (k : Nat) (a b : Option Blk) : (h.put k a).put k b = h.put k b := by simp only [Heap.put,set_set]
/-! casts outward -/
theorem ca_add (a b : Nat) : ((a : Nat) : Int) + ((b : Nat) : Int) = ((a + b : Nat) : Int) := (Int.natCast_add a b).symm
theorem ca_addl (a b : Nat) : ((a : Nat) : Int) + (no_index (OfNat.ofNat b : Int)) = ((a + OfNat.ofNat b : Nat) : Int) := rfl
theorem ca_ladd (a b : Nat) : (no_index (OfNat.ofNat a : Int)) + ((b : Nat) : Int) = ((OfNat.ofNat a + b : Nat) : Int) := (Int.natCast_add a b).symm
theorem ca_mul (a b : Nat) : ((a : Nat) : Int) * ((b : Nat) : Int) = ((a * b : Nat) : Int) := (Int.natCast_mul a b).symm
theorem ca_mull (a b : Nat) : ((a : Nat) : Int) * (no_index (OfNat.ofNat b : Int)) = ((a * OfNat.ofNat b : Nat) : Int) := (Int.natCast_mul a b).symm
theorem ca_lmul (a b : Nat) : (no_index (OfNat.ofNat a : Int)) * ((b : Nat) : Int) = ((OfNat.ofNat a * b : Nat) : Int) := (Int.natCast_mul a b).symm
theorem ca_mod (a b : Nat) : ((a : Nat) : Int) % (no_index (OfNat.ofNat b : Int)) = ((a % OfNat.ofNat b : Nat) : Int) := (Int.natCast_emod a b).symm
theorem ca_div (a b : Nat) : ((a : Nat) : Int) / (no_index (OfNat.ofNat b : Int)) = ((a / OfNat.ofNat b : Nat) : Int) := (Int.natCast_ediv a b).symm
theorem ca_modn (a b : Nat) : ((a : Nat) : Int) % ((b : Nat) : Int) = ((a % b : Nat) : Int) := (Int.natCast_emod a b).symm
theorem ca_divn (a b : Nat) : ((a : Nat) : Int) / ((b : Nat) : Int) = ((a / b : Nat) : Int) := (Int.natCast_ediv a b).symm
theorem ca_subl {a b : Nat} (h : b <= a) : ((a : Nat) : Int) - (no_index (OfNat.ofNat b : Int)) = ((a - OfNat.ofNat b : Nat) : Int) := by
 show (a : Int) - (b : Int) = ((a - b : Nat) : Int)
 omega
theorem ca_sub {a b : Nat} (h : b <= a) : ((a : Nat) : Int) - ((b : Nat) : Int) = ((a - b : Nat) : Int) := by omega
/-! bytes -/
def b8 (x : Nat) : AV := .int .u8 ((x % 256 : Nat) : Int)
theorem b8_mod (x : Nat) : b8 (x % 256) = b8 x := by simp [b8]
theorem okv_b8 (x : Nat) : okv (b8 x) = some (b8 x) := rfl
theorem isSc_b8 (x : Nat) : isSc (b8 x) = true := rfl
theorem cells_int (k : IntKind) (n : Int) : (AV.int k n).cells = [.int k n] := rfl
theorem cells_bool (b : Bool) : (AV.bool b).cells = [.bool b] := rfl
theorem cells_ptr (k o : Nat) : (AV.ptr k o).cells = [.ptr k o] := rfl
theorem cells_nilptr : AV.nilptr.cells = [.nilptr] := rfl
theorem cells_slice (k o l c : Nat) : (AV.slice k o l c).cells = [.slice k o l c] := rfl
theorem cells_eslice (k o l c : Nat) : (AV.eslice k o l c).cells = [.eslice k o l c] := rfl
theorem cells_nilslice : AV.nilslice.cells = [.nilslice] := rfl
theorem cells_map (k : Nat) : (AV.map k).cells = [.map k] := rfl
theorem cells_func (f : Fn) (a c : List AV) : (AV.func f a c).cells = [.func f a c] := rfl
theorem cells_iface (t : TypeId) (v : AV) : (AV.iface t v).cells = [.iface t v] := rfl
theorem cells_agg (cs : List AV) : (AV.agg cs).cells = cs := rfl
theorem isSc_int (k : IntKind) (n : Int) : isSc (.int k n) = true := rfl
theorem isSc_bool (b : Bool) : isSc (.bool b) = true := rfl
theorem isSc_ptr (k o : Nat) : isSc (.ptr k o) = true := rfl
theorem isSc_nilptr : isSc .nilptr = true := rfl
theorem isSc_slice (k o l c : Nat) : isSc (.slice k o l c) = true := rfl
theorem isSc_eslice (k o l c : Nat) : isSc (.eslice k o l c) = true := rfl
theorem isSc_nilslice : isSc .nilslice = true := rfl
theorem isSc_map (k : Nat) : isSc (.map k) = true := rfl
theorem isSc_func (f : Fn) (a c : List AV) : isSc (.func f a c) = true := rfl
theorem cells_b8 (x : Nat) : (b8 x).cells = [b8 x] := rfl
theorem same_b8 (x : Nat) : AV.same (b8 x) (b8 x) = true := same_int ..
theorem ofV_u8 {n : Int} (h0 : 0 <= n) (h1 : n < 256) : ofV (.int .u8 n) = b8 n.toNat := by
 show AV.int .u8 n = _
 unfold b8; congr 1; omega
theorem ofV_i64 (n : Int) : ofV (.int .i64 n) = .int .i64 n := rfl
theorem ofV_u64 (n : Int) : ofV (.int .u64 n) = .int .u64 n := rfl
theorem ofV_u32 (n : Int) : ofV (.int .u32 n) = .int .u32 n := rfl
theorem ofV_i32 (n : Int) : ofV (.int .i32 n) = .int .i32 n := rfl
theorem b8_i (x : Nat) : b8 x = .int .u8 ((x % 256 : Nat) : Int) := rfl
theorem xor_mod (a b : Nat) : (a % 256) ^^^ (b % 256) = (a ^^^ b) % 256 := (Nat.xor_mod_two_pow (n := 8)).symm
theorem and_mod (a b : Nat) : (a % 256) &&& (b % 256) = (a &&& b) % 256 := (Nat.and_mod_two_pow (n := 8)).symm
theorem or_mod (a b : Nat) : (a % 256) ||| (b % 256) = (a ||| b) % 256 := (Nat.or_mod_two_pow (n := 8)).symm
theorem bin_xor_b8 (x y : Nat) : binE P .xor u (b8 x) (b8 y) = some (b8 (x ^^^ y)) := by
 rw [b8_i,b8_i,bin_xor8 (by omega) (by omega) (by omega) (by omega)]
 simp only [Int.toNat_natCast,xor_mod]; rfl
theorem bin_and_b8 (x y : Nat) : binE P .and u (b8 x) (b8 y) = some (b8 (x &&& y)) := by
 rw [b8_i,b8_i,bin_and8 (by omega) (by omega) (by omega) (by omega)]
 simp only [Int.toNat_natCast,and_mod]; rfl
theorem bin_or_b8 (x y : Nat) : binE P .or u (b8 x) (b8 y) = some (b8 (x ||| y)) := by
 rw [b8_i,b8_i,bin_or8 (by omega) (by omega) (by omega) (by omega)]
 simp only [Int.toNat_natCast,or_mod]; rfl
theorem wrap_b8 {n : Int} (h0 : 0 <= n) : AV.int .u8 (wrapA .u8 n) = b8 n.toNat := by
 rw [wrap_u8_mod h0]; unfold b8; congr 1; omega
theorem bin_add_b8 (x y : Nat) : binE P .add u (b8 x) (b8 y) = some (b8 (x + y)) := by
 rw [b8_i,b8_i,bin_add,wrap_b8 (by omega),<- b8_mod,<- b8_mod (x + y)]; congr 2; omega
theorem bin_mul_b8 (x y : Nat) : binE P .mul u (b8 x) (b8 y) = some (b8 (x * y)) := by
 rw [b8_i,b8_i,bin_mul,wrap_b8 (by exact Int.mul_nonneg (by omega) (by omega)),<- b8_mod,<- b8_mod (x * y)]
 congr 2
 have : ((((x % 256 : Nat) : Int) * ((y % 256 : Nat) : Int))).toNat = (x % 256) * (y % 256) := by rw [<- Int.natCast_mul,Int.toNat_natCast]
 rw [this,Nat.mul_mod x y]
theorem bin_shl_b8 {k' : IntKind} (x : Nat) {y : Int} (hy : 0 <= y) (hb : y <= 8) : binE P .shl u (b8 x) (.int k' y) = some (b8 (x * 2 ^ y.toNat)) := by
 rw [b8_i,bin_shl_u8 hy hb]
 have h2 : (0 : Int) <= 2 ^ y.toNat := Int.le_of_lt (Int.pow_pos (by omega))
 rw [wrap_b8 (Int.mul_nonneg (by omega) h2),<- b8_mod,<- b8_mod (x * _)]
 congr 2
 have : ((((x % 256 : Nat) : Int) * 2 ^ y.toNat)).toNat = (x % 256) * 2 ^ y.toNat := by
  have : ((2 : Int) ^ y.toNat) = ((2 ^ y.toNat : Nat) : Int) := by simp
  rw [this,<- Int.natCast_mul,Int.toNat_natCast]
 rw [this,Nat.mul_mod (x % 256),Nat.mod_mod,<- Nat.mul_mod]
theorem bin_shr_b8 {k' : IntKind} (x : Nat) {y : Int} (hy : 0 <= y) (hb : y <= 8) : binE P .shr u (b8 x) (.int k' y) = some (b8 (x % 256 / 2 ^ y.toNat)) := by
 rw [b8_i,bin_shr_u8 (by omega) hy hb]
 unfold b8
 congr 2
 have h1 : x % 256 / 2 ^ y.toNat < 256 := Nat.lt_of_le_of_lt (Nat.div_le_self _ _) (by omega)
 rw [Nat.mod_eq_of_lt h1]
 simp
theorem bin_eql_b8 (x y : Nat) : binE P .eql u (b8 x) (b8 y) = some (.bool (decide (x % 256 = y % 256))) := by
 rw [b8_i,b8_i,bin_eql]; congr 2; simp only [decide_eq_decide]; omega
theorem bin_neq_b8 (x y : Nat) : binE P .neq u (b8 x) (b8 y) = some (.bool (!decide (x % 256 = y % 256))) := by
 rw [b8_i,b8_i,bin_neq]; congr 3; simp only [decide_eq_decide]; omega
theorem ia_b8 (t : TypeId) (x : AV) (i : Nat) : indexAddrE P t x (b8 i) = indexAddrE P t x (.int .u8 ((i % 256 : Nat) : Int)) := rfl
theorem ix_b8 (t : TypeId) (x : AV) (i : Nat) : indexE P t x (b8 i) = indexE P t x (.int .u8 ((i % 256 : Nat) : Int)) := rfl
def B (l : List Nat) : List AV := l.map b8
theorem B_len (l : List Nat) : (B l).length = l.length := by simp [B]
theorem B_get {l : List Nat} {i : Nat} (h : i < l.length) : (B l)[i]? = some (b8 (l.getD i 0)) := by simp [B,h]
theorem B_set (l : List Nat) (i x : Nat) : (B l).set i (b8 x) = B (l.set i x) := by simp [B,List.map_set]
theorem allSc_B (l : List Nat) : allSc (B l) = true := by simp [allSc,B,isSc_b8]
theorem cut_all {n : Nat} {l : List AV} (h : (l.length == n) = true) : cutE 0 n l = some l := by
 have h : l.length = n := by simpa using h
 rw [cutE_of (by omega),List.drop_zero,<- h,List.take_length]
theorem cut4_B {off : Nat} {l : List Nat} (h : off + 4 <= l.length) : cutE off 4 (B l) = some [b8 (l.getD off 0),b8 (l.getD (off + 1) 0),b8 (l.getD (off + 2) 0),b8 (l.getD (off + 3) 0)] := by
 rw [cutE_of (by rw [B_len]; exact h)]
 congr 1
 apply List.ext_getElem?
 intro i
 rw [List.getElem?_take]
 by_cases hi : i < 4
 ·rw [if_pos hi,List.getElem?_drop,B_get (by omega)]
  obtain rfl | rfl | rfl | rfl : i = 0 \/ i = 1 \/ i = 2 \/ i = 3 := by omega
  all_goals rfl
 ·rw [if_neg hi,List.getElem?_eq_none (by simp; omega)]
theorem getD_set_ne {l : List Nat} {i j x : Nat} (h : i ≠ j) : (l.set i x).getD j 0 = l.getD j 0 := by
 simp [List.getD_eq_getElem?_getD,List.getElem?_set_ne h]
/-! reads that float -/
theorem readE_load {ρ : Operand -> AV} {d : Option Tmp} {t u : TypeId} {p : String} {a : Array Edge} {g : Option (Nat × Bool)} {h : Heap} (x : Operand) : readE P ρ ⟨d, .load u x,t,p,a,g⟩ h = th (okv (ρ x)) fun x => loadE P h u x := by
 show ((ρ x).okK fun a => loadK P h u a some) = _
 simp only [okK_E,loadK_E,th_id]
/-! conversions,literals,copies -/
section
variable {call : CallK} {ρ : Operand -> AV} {d : Option Tmp} {t : TypeId} {p : String} {a : Array Edge} {g : Option (Nat × Bool)} {h : Heap}
theorem cls_conv {s u : TypeId} {sd ud : TypeDesc} (hs : P.underlying s = some sd) (hu : P.underlying u = some ud) (hc : convClsD P sd ud = 0) (x : Operand) : cls P ⟨d, .convert s u x,t,p,a,g⟩ = .p := by simp [cls,hs,hu,hc]
theorem opE_conv {s u : TypeId} {sd ud : TypeDesc} (hs : P.underlying s = some sd) (hu : P.underlying u = some ud) (hc : convClsD P sd ud = 0) (x : Operand) :
  opE P call ρ ⟨d, .convert s u x,t,p,a,g⟩ h = th (okv (ρ x)) fun v => th (convPureE P s u v) fun v => some (v,h) := by
 unfold opE opK
 rw [cls_conv hs hu hc]
 simp only [pureK,okK_E]
 exact th_congr _ fun _ => convPureK_E ..
theorem conv_int {s u : TypeId} {k k' : IntKind} (hs : P.underlying s = some (.int k')) (hu : P.underlying u = some (.int k)) (q : IntKind) (n : Int) : convPureE P s u (.int q n) = some (.int k (wrapA k n)) := by
 simp only [convPureE,convPureK,unK_E,hs,hu,th_some,fI_eq]
theorem conv_b8 (s u : TypeId) (x : Nat) : convPureE P s u (b8 x) = convPureE P s u (.int .u8 ((x % 256 : Nat) : Int)) := rfl
theorem int_u8 {n : Int} (h0 : 0 <= n) : AV.int .u8 (wrapA .u8 n) = b8 n.toNat := wrap_b8 h0
theorem opE_copy (c : Call) (hc : c.callee = .builtin .copy) {u : TypeId} {y x : Operand} (hu : c.argTypes[0]? = some u) (hy : c.args[0]? = some y) (hx : c.args[1]? = some x) :
  opE P call ρ ⟨d, .call c,t,p,a,g⟩ h = th (okv (ρ y)) fun y => th (okv (ρ x)) fun x => copyE P h u y x := by
 obtain ⟨cc,ca,ct⟩ := c
 simp only at hc hu hy hx
 subst hc
 show effK P call ρ ⟨d, .call ⟨.builtin .copy,ca,ct⟩,t,p,a,g⟩ h p2 = _
 simp only [effK,hu,hy,hx,okK_E,copyK_E,th2_id]
theorem opE_copy2 (u v : TypeId) (y x : Operand) : opE P call ρ ⟨d, .call ⟨.builtin .copy,#[y,x],#[u,v]⟩,t,p,a,g⟩ h = th (okv (ρ y)) fun y => th (okv (ρ x)) fun x => copyE P h u y x := opE_copy _ rfl rfl rfl rfl
theorem cls_copy (xs : Array Operand) (ts : Array TypeId) : cls P ⟨d, .call ⟨.builtin .copy,xs,ts⟩,t,p,a,g⟩ = .e := rfl
end
def atB (n off : Nat) : Option Blk -> Option (List AV)
 | some (.cells cs _ _) => cutE off n cs
 | _ => none
theorem atB_cells (n off : Nat) (cs : List AV) (e : Nat) (r : Bool) : atB n off (some (.cells cs e r)) = cutE off n cs := rfl
def minS (a b : Nat) : Nat := minN a b
theorem minS_le {a b : Nat} (h : a <= b) : minS a b = a := by simp only [minS,minN,Nat.ble_eq_true_of_le h]
theorem minS_ge {a b : Nat} (h : b <= a) : minS a b = b := by
 unfold minS minN
 cases hb : Nat.ble a b with
 | true => have := Nat.le_of_ble_eq_true hb; simp only; omega
 | false => rfl
def layB (h : Heap) (k off : Nat) (vs : List AV) : Option Blk -> Option Heap
 | some (.cells cs ext false) => th (overE off vs cs) fun cs => some (h.put k (some (.cells cs ext false)))
 | _ => none
theorem layB_cells (h : Heap) (k off : Nat) (vs cs : List AV) (e : Nat) : layB h k off vs (some (.cells cs e false)) = th (overE off vs cs) fun cs => some (h.put k (some (.cells cs e false))) := rfl
theorem copy_ss {t e : TypeId} {n : Nat} (hu : P.underlying t = some (.slice e)) (hz : szE P e = some (n + 1)) (h : Heap) {k off l c k2 off2 l2 c2 : Nat} (hp : 0 < l) (hp2 : 0 < l2) :
  copyE P h t (.slice k off l c) (.slice k2 off2 l2 c2) = th (atB (minS l2 l * (n + 1)) off2 (h.get k2)) fun cs => th (layB h k off cs (h.get k)) fun h => some (.int .i64 (minS l2 l : Nat),h) := by
 have hm : 0 < minS l2 l := by
  rcases Nat.le_total l2 l with c | c
  ·rw [minS_le c]; exact hp2
  ·rw [minS_ge c]; exact hp
 obtain ⟨q,hq⟩ : ∃ q,minS l2 l * (n + 1) = q + 1 := ⟨minS l2 l * (n + 1) - 1,by have h9 : 0 < minS l2 l * (n + 1) := Nat.mul_pos hm (Nat.succ_pos n); omega⟩
 simp only [copyE,copyK,unK_E,hu,th_some,szK_E,hz,lenA,fN_eq,firstK_E]
 have h1 : firstE h (n + 1) (minN l2 l) (.slice k2 off2 l2 c2) = atB (minS l2 l * (n + 1)) off2 (h.get k2) := by
  have hq' : minN l2 l * (n + 1) = q + 1 := hq
  simp only [firstE,firstK]
  rw [hq',hq]
  simp only [getK_E,atB]
  cases h.get k2 with
  | none => rfl
  | some b => cases b with
   | map _ _ => rfl
   | cells cs _ _ => simp only [th_some,lcut_th,th_id]
 rw [h1]
 have hlen : ∀ cs,atB (minS l2 l * (n + 1)) off2 (h.get k2) = some cs -> cs ≠ [] := by
  intro cs hc
  rw [hq] at hc
  cases hg : h.get k2 with
  | none => rw [hg] at hc; cases hc
  | some b => cases b with
   | map _ _ => rw [hg] at hc; cases hc
   | cells cs2 _ _ =>
    rw [hg] at hc
    simp only [atB,cutE] at hc
    split at hc
    ·rename_i hle
     cases hc
     intro e
     have := congrArg List.length e
     simp at this
     omega
    ·cases hc
 cases hc : atB (minS l2 l * (n + 1)) off2 (h.get k2) with
 | none => rfl
 | some cs =>
  simp only [th_some,storeCK_E]
  have : storeCE h k off cs = layB h k off cs (h.get k) := by
   cases cs with
   | nil => exact absurd rfl (hlen [] hc)
   | cons v vs =>
    simp only [storeCE,layB]
    cases h.get k with
    | none => rfl
    | some b => cases b with
     | map _ _ => rfl
     | cells cs _ r => cases r <;> rfl
  rw [this]
  rfl
def fillZ : List (Nat × Nat) -> List (Nat × AV) -> List AV -> Option (List AV)
 | _,[],cells => some cells
 | pl,(i,v) :: rest,cells => match pl[i]? with
  | none => none
  | some (off,size) => (match Nat.beq v.cells.length size with
   | true => th (overE off v.cells cells) fun cells => fillZ pl rest cells
   | false => none)
theorem fillZ_E {place : Nat -> Option (Nat × Nat)} {pl : List (Nat × Nat)} : ∀ (ps : List (Nat × AV)) (cells : List AV),(∀ i v,(i,v) ∈ ps -> place i = pl[i]?) -> fillE place ps cells = fillZ pl ps cells
 | [],_,_ => rfl
 | (i,v) :: r,cells,h => by
  simp only [fillE,fillZ,h i v (by simp)]
  cases pl[i]? with
  | none => rfl
  | some p =>
   obtain ⟨off,size⟩ := p
   simp only
   cases Nat.beq v.cells.length size with
   | false => rfl
   | true => exact th_congr _ fun c => fillZ_E r c fun i v hm => h i v (by simp [hm])
def fillC (b : Bool) (off : Nat) (v : AV) (pl : List (Nat × Nat)) (r : List (Nat × AV)) (cells : List AV) : Option (List AV) := match b with
 | true => th (overE off v.cells cells) fun cells => fillZ pl r cells
 | false => none
def fillP (q : Option (Nat × Nat)) (v : AV) (pl : List (Nat × Nat)) (r : List (Nat × AV)) (cells : List AV) : Option (List AV) := match q with
 | some (off,size) => fillC (v.cells.length == size) off v pl r cells
 | none => none
theorem fillZ_nil (pl : List (Nat × Nat)) (cells : List AV) : fillZ pl [] cells = some cells := by cases pl <;> rfl
theorem fillZ_cons (pl : List (Nat × Nat)) (i : Nat) (v : AV) (r : List (Nat × AV)) (cells : List AV) : fillZ pl ((i,v) :: r) cells = fillP pl[i]? v pl r cells := by
 simp only [fillZ]
 cases pl[i]? with
 | none => rfl
 | some p =>
  obtain ⟨off,size⟩ := p
  simp only [fillP,fillC]
  have : Nat.beq v.cells.length size = (v.cells.length == size) := by rw [Bool.eq_iff_iff]; simp
  rw [<- this]
theorem fillP_some (off size : Nat) (v : AV) (pl : List (Nat × Nat)) (r : List (Nat × AV)) (cells : List AV) : fillP (some (off,size)) v pl r cells = fillC (v.cells.length == size) off v pl r cells := rfl
theorem fillC_true (off : Nat) (v : AV) (pl : List (Nat × Nat)) (r : List (Nat × AV)) (cells : List AV) : fillC true off v pl r cells = th (overE off v.cells cells) fun cells => fillZ pl r cells := rfl
def arrPl (n s : Nat) : List (Nat × Nat) := (List.range n).map fun i => (i * s,s)
theorem build_arr {t e : TypeId} {m n : Nat} {z : AV} {pl : List (Nat × Nat)} (hu : P.underlying t = some (.array m e)) (hz : szE P e = some n) (h0 : zeroE P t = some z) (hp : arrPl m n = pl) (ps : List (Nat × AV)) (hi : (ps.all fun x => decide (x.1 < m)) = true) :
  buildE P t ps = th (fillZ pl ps z.cells) fun cs => some (.agg cs) := by
 subst hp
 simp only [buildE,buildK,zeroK_E,h0,th_some,unK_E,hu,szK_E,hz,cellsK_eq,fillK_E]
 rw [fillZ_E (pl := arrPl m n) ps z.cells]
 intro i v hm
 have := List.all_eq_true.1 hi (i,v) hm
 simp only [decide_eq_true_eq] at this
 simp [arrPl,this]
theorem build_st {t : TypeId} {fs : Array Field} {z : AV} {pl : List (Nat × Nat)} (hu : P.underlying t = some (.struct fs)) (h0 : zeroE P t = some z) (ha : (fs.toList.all fun f => (P.info? f.type).isSome) = true) (hp : (fs.toList.map fun f => ((f.offset,(szE P f.type).getD 0) : Nat × Nat)) = pl) (ps : List (Nat × AV)) :
  buildE P t ps = th (fillZ pl ps z.cells) fun cs => some (.agg cs) := by
 subst hp
 simp only [buildE,buildK,zeroK_E,h0,th_some,unK_E,hu,ha,cellsK_eq,fillK_E]
 rw [fillZ_E (pl := fs.toList.map fun f => (f.offset,(szE P f.type).getD 0)) ps z.cells]
 intro i v hm
 simp only [fsPlace,List.getElem?_map]
 cases hf : fs.toList[i]? with
 | none => rfl
 | some f =>
  have := List.all_eq_true.1 ha f (List.mem_of_getElem? hf)
  obtain ⟨ti,hti⟩ := Option.isSome_iff_exists.1 this
  simp [hti,szE]
end Go.Aw
namespace Go.Aw
open Go Go.Ai
set_option linter.unusedSimpArgs false
variable {P : Program} {β : Type}
theorem G.callC {X : Cx} {ops : Array Oper} {o : Oper} {r : List Oper} {fl : Fl} {lg : List (Option LogS)} {hs : List Heap} {k : List Itm} {σ : Sg} {h0 : Heap} {c : Cls} {x : Option (AV × Heap)} {R Q : AV -> Heap -> Prop} (hc : G x R) (hq : ∀ v h,R v h -> G (runBC X ops o r fl lg hs k σ h0 c (some (v,h))) Q) : G (runBC X ops o r fl lg hs k σ h0 c x) Q := by
 obtain ⟨v,h,rfl,hr⟩ := hc
 exact hq v h hr
def M (x : List Nat) : List Nat := x.map (· % 256)
theorem kEq_b8 (a b : Nat) : kEq .i (b8 a) (b8 b) = some (a % 256 == b % 256) := by
 show (if IntKind.u8 = IntKind.u8 then some (ieq ((a % 256 : Nat) : Int) ((b % 256 : Nat) : Int)) else none) = _
 rw [if_pos rfl,ieq_eq]
 congr 1
 rw [Bool.eq_iff_iff]
 simp only [beq_iff_eq]
 omega
theorem lenIs_rep (n : Nat) : ∀ (x y : List AV),x.length = n -> y.length = n -> lenIs (List.replicate n .i) x y = true := by
 induction n with
 | zero => intro x y hx hy; cases List.length_eq_zero_iff.1 hx; cases List.length_eq_zero_iff.1 hy; rfl
 | succ n ih =>
  intro x y hx hy
  cases x with
  | nil => cases hx
  | cons a x => cases y with
   | nil => cases hy
   | cons b y => exact ih x y (by simpa using hx) (by simpa using hy)
theorem scs_B (n : Nat) : ∀ (x y : List Nat),x.length = n -> y.length = n -> scsEqK (List.replicate n .i) (B x) (B y) some = some (decide (M x = M y)) := by
 induction n with
 | zero => intro x y hx hy; cases List.length_eq_zero_iff.1 hx; cases List.length_eq_zero_iff.1 hy; rfl
 | succ n ih =>
  intro x y hx hy
  cases x with
  | nil => cases hx
  | cons a x => cases y with
   | nil => cases hy
   | cons b y =>
    have hx' : x.length = n := by simpa using hx
    have hy' : y.length = n := by simpa using hy
    simp only [List.replicate_succ,B,List.map_cons,scsEqK,kEq_b8]
    cases hab : a % 256 == b % 256 with
    | true =>
     simp only
     have := ih x y hx' hy'
     unfold B at this
     rw [this]
     have hab : a % 256 = b % 256 := by simpa using hab
     refine congrArg some ?_
     rw [Bool.eq_iff_iff]
     simp only [decide_eq_true_eq,M,List.map_cons,hab,List.cons.injEq,true_and]
     exact ⟨of_decide_eq_true,fun h => decide_eq_true h⟩
    | false =>
     simp only
     rw [lenIs_rep n _ _ (by simp [hx']) (by simp [hy'])]
     have hab : a % 256 ≠ b % 256 := by simpa using hab
     simp [M,hab]
theorem eql_B {t : TypeId} {d : TypeDesc} {n : Nat} (hu : P.underlying t = some d) (ha : isAggD d = true) (hg : P.eqGuardType P.depth t = false) (hk : plainKs P 30 t = some (List.replicate n .i)) (x y : List Nat) (hx : x.length = n) (hy : y.length = n) :
  eqlE P t (.agg (B x)) (.agg (B y)) = some (decide (M x = M y)) := by
 simp only [eqlE,eqlK,unK_E,hu,th_some]
 have key : (match true,P.eqGuardType P.depth t,plainKs P 30 t with
   | true,false,some ks => scsEqK ks (B x) (B y) some
   | _,_,_ => none) = some (decide (M x = M y)) := by
  rw [hg,hk]
  exact scs_B n x y hx hy
 cases d <;> first | exact key | cases ha
theorem bin_eql_agg (t : TypeId) (xs ys : List AV) : binE P .eql t (.agg xs) (.agg ys) = th (eqlE P t (.agg xs) (.agg ys)) fun b => some (.bool b) := by
 simp only [binE,binK,eqlK_E]
theorem same_B (l : List Nat) : AV.same (.agg (B l)) (.agg (B l)) = true := by
 show scsSame (B l) (B l) = true
 induction l with
 | nil => rfl
 | cons x l ih =>
  show (match scSame (b8 x) (b8 x) with | true => scsSame (B l) (B l) | false => false) = true
  have : scSame (b8 x) (b8 x) = true := by
   show (IntKind.u8 == IntKind.u8 && ieq ((x % 256 : Nat) : Int) ((x % 256 : Nat) : Int)) = true
   simp [ieq_eq]
  rw [this]
  exact ih
theorem B_rep (n x : Nat) : List.replicate n (b8 x) = B (List.replicate n x) := by simp [B]
theorem over_B {x y : List Nat} (h : x.length = y.length) : overE 0 (B x) (B y) = some (B x) := by
 rw [overE_n,B_len,ovN_full (by simp [B_len,h]),allSc_B,scE_true]
theorem cutB_all {n : Nat} {l : List Nat} (h : l.length = n) : cutE 0 n (B l) = some (B l) := cut_all (by simp [B_len,h])
end Go.Aw
namespace Go.Aw
open Go Go.Ai
set_option maxRecDepth 10000
/-! the laws of the walk,in a few words -/
def SS1 := PLift.up (And.intro @run_seq ( And.intro @run_scope ( And.intro @run_block ( And.intro @run_blk ( And.intro @run_skip ( And.intro @run_label ( And.intro @run_exit ( And.intro @run_cond ( And.intro @runC_true ( And.intro @runC_false ( And.intro @runX_code ( And.intro @runX_it ( And.intro @runX_blk ( And.intro @run_region ( And.intro @run_regionD ( And.intro @runR_none ( And.intro @runR_some ( And.intro @look_nil ( And.intro @look_cons ( And.intro @lookB_true ( And.intro @lookB_false ( And.intro @run_ops_guard ( And.intro @runG_true ( And.intro @runG_false ( And.intro @wantG_some ( And.intro @isB_tt ( And.intro @isB_ff ( And.intro @isB_tf ( And.intro @isB_ft ( And.intro @run_opsD_plain ( And.intro @run_opsD_guard ( And.intro @run_opsD_end ( And.intro @runBC_p ( And.intro @runBC_r ( And.intro @runBC_a ( And.intro @runBC_e ( And.intro @runBC_e0 ( And.intro @runGD_true ( And.intro @runGD_false (@runN_p))))))))))))))))))))))))))))))))))))))))
def SS2 := PLift.up (And.intro @runN_r ( And.intro @runN_a ( And.intro @runN_e ( And.intro @runN_e0 ( And.intro @runZ_true ( And.intro @chkS_nil ( And.intro @chkS_cons ( And.intro @chkL_some ( And.intro @chkL_none ( And.intro @chk1_nil ( And.intro @chk1_cons ( And.intro @sameO_some ( And.intro @same_int ( And.intro @same_bool ( And.intro @same_ptr ( And.intro @same_slice ( And.intro @same_eslice ( And.intro @same_map ( And.intro @Bool.and_true ( And.intro @Bool.true_and ( And.intro @readE_load ( And.intro @cls_move ( And.intro @cls_assign ( And.intro @cls_pick ( And.intro @cls_build ( And.intro @cls_nilCheck ( And.intro @cls_binOp ( And.intro @cls_unOp ( And.intro @cls_arrayAt ( And.intro @cls_makeFunc ( And.intro @cls_slice ( And.intro @cls_fieldAddr ( And.intro @cls_field ( And.intro @cls_indexAddr ( And.intro @cls_index ( And.intro @cls_extract ( And.intro @cls_typeAssert ( And.intro @cls_load ( And.intro @cls_lookup (@cls_alloc))))))))))))))))))))))))))))))))))))))))
def SS3 := PLift.up (And.intro @cls_box ( And.intro @cls_store ( And.intro @cls_mapUpdate ( And.intro @cls_call ( And.intro @run_ops_nil ( And.intro @run_ops_plain ( And.intro @run_ret ( And.intro @run_nil ( And.intro @runB_some ( And.intro @runB_none ( And.intro @okv_bool ( And.intro @okv_int ( And.intro @okv_str ( And.intro @okv_ptr ( And.intro @okv_nilptr ( And.intro @okv_slice ( And.intro @okv_eslice ( And.intro @okv_nilslice ( And.intro @okv_map ( And.intro @okv_nilmap ( And.intro @okv_func ( And.intro @okv_nilfunc ( And.intro @okv_iface ( And.intro @okv_niliface ( And.intro @okv_agg ( And.intro @okv_tup ( And.intro @okvs_nil ( And.intro @okvs_cons ( And.intro @th_some ( And.intro @opE_move ( And.intro @opE_assign ( And.intro @opE_pick ( And.intro @pickE_true ( And.intro @pickE_false ( And.intro @opE_build ( And.intro @opE_nilCheck ( And.intro @nilE_ptr ( And.intro @nilE_func ( And.intro @opE_binOp (@opE_unOp))))))))))))))))))))))))))))))))))))))))
def SS4 := PLift.up (And.intro @opE_arrayAt ( And.intro @opE_makeFunc ( And.intro @opE_slice ( And.intro @opE_fieldAddr ( And.intro @opE_field ( And.intro @opE_indexAddr ( And.intro @opE_index ( And.intro @opE_extract ( And.intro @extE_tup ( And.intro @opE_load ( And.intro @opE_lookup ( And.intro @opE_alloc ( And.intro @opE_box ( And.intro @opE_store ( And.intro @opE_mapUpdate ( And.intro @opE_call ( And.intro @callE_func ( And.intro @opE_copy2 ( And.intro @cls_copy ( And.intro @conv_b8 ( And.intro @atB_cells ( And.intro @minS_le ( And.intro @minS_ge ( And.intro @layB_cells ( And.intro @fillZ_nil ( And.intro @fillZ_cons ( And.intro @fillP_some ( And.intro @fillC_true ( And.intro @Bool.and_self ( And.intro @argS_at ( And.intro @ev_tmp ( And.intro @ev_const ( And.intro @ev_func ( And.intro @ofV_bool ( And.intro @ofV_u8 ( And.intro @ofV_i64 ( And.intro @ofV_u64 ( And.intro @ofV_u32 ( And.intro @ofV_i32 (@okv_b8))))))))))))))))))))))))))))))))))))))))
def SS5 := PLift.up (And.intro @isSc_b8 ( And.intro @cells_b8 ( And.intro @same_b8 ( And.intro @bin_xor_b8 ( And.intro @bin_and_b8 ( And.intro @bin_or_b8 ( And.intro @bin_add_b8 ( And.intro @bin_mul_b8 ( And.intro @bin_shl_b8 ( And.intro @bin_shr_b8 ( And.intro @bin_eql_b8 ( And.intro @bin_neq_b8 ( And.intro @ia_b8 ( And.intro @ix_b8 ( And.intro @B_len ( And.intro @B_get ( And.intro @B_set ( And.intro @allSc_B ( And.intro @Go.Aw.getD_set_ne ( And.intro @put_put ( And.intro @ofV_nilptr ( And.intro @ofV_nilslice ( And.intro @upd_at ( And.intro @sel_true ( And.intro @sel_false ( And.intro @runL_true ( And.intro @bin_add ( And.intro @bin_sub ( And.intro @bin_mul ( And.intro @bin_eql ( And.intro @bin_neq ( And.intro @bin_lss ( And.intro @bin_leq ( And.intro @bin_gtr ( And.intro @bin_geq ( And.intro @wrap_i64 ( And.intro @wrap_u64 ( And.intro @wrap_u8 ( And.intro @wrap_u32 (@wrap_u8_mod))))))))))))))))))))))))))))))))))))))))
def SS6 := PLift.up (And.intro @bin_shr_u32 ( And.intro @bin_shl_u32 ( And.intro @bin_shr_u64 ( And.intro @bin_shl_u64 ( And.intro @bin_shr_i64 ( And.intro @bin_shl_i64 ( And.intro @bin_xor_u32 ( And.intro @bin_and_u32 ( And.intro @bin_or_u32 ( And.intro @bin_xor_u64 ( And.intro @bin_and_u64 ( And.intro @bin_or_u64 ( And.intro @bin_xor_i64 ( And.intro @bin_and_i64 ( And.intro @bin_or_i64 ( And.intro @bin_quo ( And.intro @bin_rem ( And.intro @un_not ( And.intro @loadE_ptr ( And.intro @storeB_cells ( And.intro @cut_all ( And.intro @cut4_B ( And.intro @overE_one ( And.intro @scE_true ( And.intro @ov2 ( And.intro @ovN_full ( And.intro @allSc_nil ( And.intro @allSc_cons ( And.intro @isSc_int ( And.intro @isSc_bool ( And.intro @isSc_ptr ( And.intro @isSc_nilptr ( And.intro @isSc_slice ( And.intro @isSc_eslice ( And.intro @isSc_nilslice ( And.intro @isSc_map ( And.intro @isSc_func ( And.intro @get_put_same ( And.intro @get_put_ne (@get_new_eq))))))))))))))))))))))))))))))))))))))))
def SS7 := PLift.up (And.intro @get_new_ne ( And.intro @offS_lt ( And.intro @Nat.zero_mul ( And.intro @Nat.sub_zero ( And.intro @Int.toNat_natCast ( And.intro @next_put ( And.intro @next_new ( And.intro @idxE_of ( And.intro @cells_int ( And.intro @cells_bool ( And.intro @cells_ptr ( And.intro @cells_nilptr ( And.intro @cells_slice ( And.intro @cells_eslice ( And.intro @cells_nilslice ( And.intro @cells_map ( And.intro @cells_func ( And.intro @cells_iface ( And.intro @cells_agg ( And.intro @Nat.zero_add ( And.intro @Nat.add_zero ( And.intro @Nat.mul_one ( And.intro @dlei_t ( And.intro @dlei_f ( And.intro @dlti_t ( And.intro @dlti_f ( And.intro @deqi_t ( And.intro @deqi_f ( And.intro @dlen_t ( And.intro @dlen_f ( And.intro @dltn_t ( And.intro @dltn_f ( And.intro @deqn_t ( And.intro @deqn_f ( And.intro @Int.cast_ofNat_Int ( And.intro @ca_add ( And.intro @ca_addl ( And.intro @ca_ladd ( And.intro @ca_mul (@ca_mull))))))))))))))))))))))))))))))))))))))))
def SS8 := PLift.up (And.intro @ca_lmul ( And.intro @ca_mod ( And.intro @ca_div ( And.intro @ca_modn ( And.intro @ca_divn ( And.intro @ca_subl ( And.intro @ca_sub ( And.intro @Bool.not_true (@Bool.not_false)))))))))
def SS9 := PLift.up (And.intro @runR_late (And.intro @keep_next (And.intro @keep_get (And.intro @at_next (And.intro @layS_nil (And.intro @layS_cons (And.intro @layO_some (And.intro @layO_none (And.intro @findP_nil (And.intro @findP_cons' (And.intro @findB_true (And.intro @findB_false (And.intro @madeE_some (And.intro @madeO_some (And.intro @run_opsL_plain (And.intro @runLC_p (And.intro @runLC_r (And.intro @runLC_a (And.intro @runLC_e (And.intro @runLP_some (And.intro @runLR_some (And.intro @runLA_some (And.intro @runLE_some (And.intro @runLE_none (@run_opsL_end)))))))))))))))))))))))))
end Go.Aw
namespace Go.Aw
open Go Go.Ai
def SA := PLift.up (And.intro SS1.down (And.intro SS2.down (And.intro SS3.down (And.intro SS4.down (And.intro SS5.down (And.intro SS6.down (And.intro SS7.down (And.intro SS8.down SS9.down))))))))
def SL0 := PLift.up (And.intro (@Option.bind_some) (And.intro (@List.reverse_cons) (And.intro (@List.reverse_nil) (And.intro (@List.drop_zero) (And.intro (@List.drop_succ_cons) (And.intro (@List.drop_nil) (And.intro (@List.take_zero) (And.intro (@List.take_succ_cons) (And.intro (@List.take_nil) (And.intro (@List.zip_cons_cons) (And.intro (@List.zip_nil_right) (And.intro (@List.zip_nil_left) (And.intro (@List.getElem?_set_self) (And.intro (@List.getElem?_set_ne) (And.intro (@List.length_set) (And.intro (@List.set_set) (And.intro (@List.set_cons_zero) (And.intro (@List.set_cons_succ) (And.intro (@Option.map_some) (@Option.map_none))))))))))))))))))))
def SM0 := PLift.up (And.intro (@List.map_cons) (And.intro (@List.map_nil) (And.intro (@List.toList_toArray) (And.intro (@List.getD_cons_zero) (And.intro (@List.getD_cons_succ) (And.intro (@List.getElem?_cons_zero) (And.intro (@List.getElem?_cons_succ) (And.intro (@List.append_eq) (And.intro (@List.nil_append) (And.intro (@List.cons_append) (And.intro (@List.append_nil) (And.intro (@List.length_cons) (And.intro (@List.length_nil) (And.intro (@if_true) (And.intro (@if_false) (And.intro (@decide_true) (And.intro (@decide_false) (@eq_self))))))))))))))))))
def SD0 := PLift.up (And.intro (@List.length_set) (And.intro (@B_len) (And.intro (@List.length_append) (And.intro (@List.length_replicate) (And.intro (@List.length_map) (And.intro (@List.length_take) (And.intro (@List.length_drop) (And.intro (@List.length_cons) (And.intro (@List.length_nil) (And.intro (@next_new) (And.intro (@next_put) (And.intro (@ne_eq) (And.intro (@Nat.add_assoc) (And.intro (@List.zip_cons_cons) (And.intro (@List.zip_nil_left) (And.intro (@List.zip_nil_right) (And.intro (@List.all_cons) (And.intro (@List.all_nil) (And.intro (@decide_true) (And.intro (@Bool.and_self) (@Bool.and_true)))))))))))))))))))))
def SL := SL0.{0,0,0,0,0,0,0,0,0,0,0,0,0,0,0,0,0,0,0,0,0,0,0,0,0,0}
def SM := SM0.{0,0,0,0,0,0,0,1,1,1,0,0,0,0,0,0,0,0}
def SD := PLift.up (And.intro SD0.{0,1,0,0,0,0,0,0,0,0,0,0,0,0,0,0,0,0}.down (@beq_self_eq_true.{0}))
end Go.Aw
