/- The interpreter compiled. No program. No condition but those in the theorems. -/
import Derived.Test.YtfjcfjfgamajkaaAiCore
import Derived.Test.YtfjcfjfgamajkaaAiM4
namespace Go.Ac
open Go Go.Ai
abbrev R := AV × Heap
abbrev OR := Option R

/-! looks at values, by the recursors themselves: the kernel takes these in few steps -/
noncomputable def kIdx (k : IntKind) : Nat := IntKind.rec 0 1 2 3 4 5 6 7 k
noncomputable def avBad (v : AV) : Bool :=
  AV.rec (motive_1 := fun _ => Bool) (motive_2 := fun _ => PUnit) true (fun _ => false) (fun _ _ => false) (fun _ => false) (fun _ _ => false) false (fun _ _ _ _ => false) (fun _ _ _ _ => false) (fun _ _ _ _ _ => false) (fun _ => false) false (fun _ => false) false (fun _ _ _ _ _ => false) false (fun _ _ _ => false) false (fun _ _ => false) (fun _ _ => false) ⟨⟩ (fun _ _ _ _ => ⟨⟩) v
noncomputable def avSc (v : AV) : Bool :=
  AV.rec (motive_1 := fun _ => Bool) (motive_2 := fun _ => PUnit) false (fun _ => true) (fun _ _ => true) (fun _ => true) (fun _ _ => true) true (fun _ _ _ _ => true) (fun _ _ _ _ => true) (fun _ _ _ _ _ => true) (fun _ => true) true (fun _ => true) true (fun _ _ _ _ _ => true) true (fun _ _ _ => true) true (fun _ _ => false) (fun _ _ => false) ⟨⟩ (fun _ _ _ _ => ⟨⟩) v
noncomputable def asIntC (v : AV) (no : OR) (K : IntKind → Int → OR) : OR :=
  AV.rec (motive_1 := fun _ => OR → OR) (motive_2 := fun _ => PUnit) (fun no => no) (fun _ no => no) (fun k n _ => K k n) (fun _ no => no) (fun _ _ no => no) (fun no => no) (fun _ _ _ _ no => no) (fun _ _ _ _ no => no) (fun _ _ _ _ _ no => no) (fun _ no => no) (fun no => no) (fun _ no => no) (fun no => no) (fun _ _ _ _ _ no => no) (fun no => no) (fun _ _ _ no => no) (fun no => no) (fun _ _ no => no) (fun _ _ no => no) ⟨⟩ (fun _ _ _ _ => ⟨⟩) v no
noncomputable def asBoolC (v : AV) (no : OR) (K : Bool → OR) : OR :=
  AV.rec (motive_1 := fun _ => OR → OR) (motive_2 := fun _ => PUnit) (fun no => no) (fun b _ => K b) (fun _ _ no => no) (fun _ no => no) (fun _ _ no => no) (fun no => no) (fun _ _ _ _ no => no) (fun _ _ _ _ no => no) (fun _ _ _ _ _ no => no) (fun _ no => no) (fun no => no) (fun _ no => no) (fun no => no) (fun _ _ _ _ _ no => no) (fun no => no) (fun _ _ _ no => no) (fun no => no) (fun _ _ no => no) (fun _ _ no => no) ⟨⟩ (fun _ _ _ _ => ⟨⟩) v no
noncomputable def asPtrC (v : AV) (no : OR) (K : Nat → Nat → OR) : OR :=
  AV.rec (motive_1 := fun _ => OR → OR) (motive_2 := fun _ => PUnit) (fun no => no) (fun _ no => no) (fun _ _ no => no) (fun _ no => no) (fun k o _ => K k o) (fun no => no) (fun _ _ _ _ no => no) (fun _ _ _ _ no => no) (fun _ _ _ _ _ no => no) (fun _ no => no) (fun no => no) (fun _ no => no) (fun no => no) (fun _ _ _ _ _ no => no) (fun no => no) (fun _ _ _ no => no) (fun no => no) (fun _ _ no => no) (fun _ _ no => no) ⟨⟩ (fun _ _ _ _ => ⟨⟩) v no
noncomputable def asAggC (v : AV) (no : OR) (K : List AV → OR) : OR :=
  AV.rec (motive_1 := fun _ => OR → OR) (motive_2 := fun _ => PUnit) (fun no => no) (fun _ no => no) (fun _ _ no => no) (fun _ no => no) (fun _ _ no => no) (fun no => no) (fun _ _ _ _ no => no) (fun _ _ _ _ no => no) (fun _ _ _ _ _ no => no) (fun _ no => no) (fun no => no) (fun _ no => no) (fun no => no) (fun _ _ _ _ _ no => no) (fun no => no) (fun _ _ _ no => no) (fun no => no) (fun cs _ _ => K cs) (fun _ _ no => no) ⟨⟩ (fun _ _ _ _ => ⟨⟩) v no
/-- an element's place: of an array behind a pointer, of a slice -/
noncomputable def asElemC (v : AV) (no : OR) (p : Nat → Nat → OR) (s : Nat → Nat → Nat → OR) : OR :=
  AV.rec (motive_1 := fun _ => OR → OR) (motive_2 := fun _ => PUnit) (fun no => no) (fun _ no => no) (fun _ _ no => no) (fun _ no => no) (fun k o _ => p k o) (fun no => no) (fun k o l _ _ => s k o l) (fun k o _ l _ => s k o l) (fun _ _ _ _ _ no => no) (fun _ no => no) (fun no => no) (fun _ no => no) (fun no => no) (fun _ _ _ _ _ no => no) (fun no => no) (fun _ _ _ no => no) (fun no => no) (fun _ _ no => no) (fun _ _ no => no) ⟨⟩ (fun _ _ _ _ => ⟨⟩) v no
noncomputable def ifC (b : Bool) (y n : OR) : OR := Bool.rec n y b
noncomputable def fNC (n : Nat) (K : Nat → OR) : OR := Nat.rec (K 0) (fun m _ => K (Nat.succ m)) n
noncomputable def natC (i : Int) (no : OR) (K : Nat → OR) : OR := Int.rec (motive := fun _ => OR → OR) (fun a _ => K a) (fun _ no => no) i no

/-! tries -/
noncomputable def gC (p : Pth) : Fr → (AV → OR) → OR :=
  Pth.rec (fun fr K => Tr.rec (K undefA) (fun v _ _ _ _ => Option.rec (K undefA) K v) fr) (fun _ ih fr K => Tr.rec (K undefA) (fun _ l _ _ _ => ih l K) fr) (fun _ ih fr K => Tr.rec (K undefA) (fun _ _ r _ _ => ih r K) fr) p
noncomputable def gB (p : Pth) : Tr Blk → (Blk → OR) → OR :=
  Pth.rec (fun fr K => Tr.rec none (fun v _ _ _ _ => Option.rec none K v) fr) (fun _ ih fr K => Tr.rec none (fun _ l _ _ _ => ih l K) fr) (fun _ ih fr K => Tr.rec none (fun _ _ r _ _ => ih r K) fr) p
noncomputable def sT {α : Type} (p : Pth) : Option α → Tr α → (Tr α → OR) → OR :=
  Pth.rec (fun x fr K => Tr.rec (K (.node x .leaf .leaf)) (fun _ l r _ _ => K (.node x l r)) fr)
    (fun _ ih x fr K => Tr.rec (ih x .leaf fun l => K (.node none l .leaf)) (fun v l r _ _ => ih x l fun l => K (.node v l r)) fr)
    (fun _ ih x fr K => Tr.rec (ih x .leaf fun r => K (.node none .leaf r)) (fun v l r _ _ => ih x r fun r => K (.node v l r)) fr) p
/-- a number's path, in few steps -/
noncomputable def pthR (f : Nat) : Nat → Pth :=
  Nat.rec (fun _ => .e) (fun _ ih n => Bool.rec (Bool.rec (.o (ih (Nat.div (Nat.sub n 1) 2))) (.z (ih (Nat.div (Nat.sub n 1) 2))) (Nat.beq (Nat.mod (Nat.sub n 1) 2) 0)) .e (Nat.beq n 0)) f
noncomputable def pthC (n : Nat) : Pth := Bool.rec (pth n) (pthR 32 n) (Nat.ble n 4294967295)
/-! the heap -/
noncomputable def hG (h : Heap) (k : Nat) (K : Blk → OR) : OR := Heap.rec (fun _ t => gB (pthC k) t K) h
noncomputable def hS (h : Heap) (k : Nat) (b : Blk) (K : Heap → OR) : OR := Heap.rec (fun n t => sT (pthC k) (some b) t fun t => K ⟨n, t⟩) h
noncomputable def hN (h : Heap) (b : Blk) (K : Nat → Heap → OR) : OR := Heap.rec (fun k t => sT (pthC k) (some b) t fun t => fNC (Nat.succ k) fun n => K k ⟨n, t⟩) h
noncomputable def asCells (b : Blk) (K : List AV → Nat → Bool → OR) : OR := Blk.rec K (fun _ _ => none) b
/-! lists -/
noncomputable def lgetC (n : Nat) : List AV → (AV → OR) → OR :=
  Nat.rec (fun l K => List.rec none (fun x _ _ => K x) l) (fun _ ih l K => List.rec none (fun _ xs _ => ih xs K) l) n
noncomputable def ltakeC (n : Nat) : List AV → (List AV → OR) → OR :=
  Nat.rec (fun _ K => K []) (fun _ ih l K => List.rec none (fun x xs _ => ih xs fun r => K (x :: r)) l) n
noncomputable def ldropC (n : Nat) : List AV → (List AV → OR) → OR :=
  Nat.rec (fun l K => K l) (fun _ ih l K => List.rec none (fun _ xs _ => ih xs K) l) n
noncomputable def lcutC (off n : Nat) (l : List AV) (K : List AV → OR) : OR := ldropC off l fun r => ltakeC n r K
noncomputable def lput1C (n : Nat) : AV → List AV → (List AV → OR) → OR :=
  Nat.rec (fun v l K => List.rec none (fun _ xs _ => K (v :: xs)) l) (fun _ ih v l K => List.rec none (fun x xs _ => ih v xs fun r => K (x :: r)) l) n
noncomputable def loverC (vs : List AV) : List AV → (List AV → OR) → OR :=
  List.rec (fun l K => K l) (fun v _ ih l K => List.rec none (fun _ xs _ => ifC (avSc v) (ih xs fun r => K (v :: r)) none) l) vs
noncomputable def lputC (n : Nat) : List AV → List AV → (List AV → OR) → OR :=
  Nat.rec (fun vs l K => loverC vs l K) (fun _ ih vs l K => List.rec none (fun x xs _ => ih vs xs fun r => K (x :: r)) l) n
noncomputable def llenC (l : List AV) : Nat → (Nat → OR) → OR :=
  List.rec (fun n K => K n) (fun _ _ ih n K => ih (Nat.succ n) K) l

noncomputable def lappC (a : List AV) : List AV → (List AV → OR) → OR :=
  List.rec (fun l K => K l) (fun x _ ih l K => ih l fun r => K (x :: r)) a
/-! equality of aggregates -/
noncomputable def kEqC (q : Kd) (x y : AV) (no : OR) (K : Bool → OR) : OR :=
  Kd.rec (asIntC x no fun k a => asIntC y no fun k' b => ifC (Nat.beq (kIdx k) (kIdx k')) (K (Int.rec (fun a => Int.rec (fun b => Nat.beq a b) (fun _ => false) b) (fun a => Int.rec (fun _ => false) (fun b => Nat.beq a b) b) a)) no)
    (asBoolC x no fun a => asBoolC y no fun b => K (Bool.rec (Bool.rec true false b) b a)) (match kEq .s x y with | some b => K b | none => no) q
noncomputable def scsEqC (qs : List Kd) : List AV → List AV → (Bool → OR) → OR :=
  List.rec (fun x y K => List.rec (List.rec (K true) (fun _ _ _ => none) y) (fun _ _ _ => none) x)
    (fun q qs ih x y K => List.rec none (fun a x _ => List.rec none (fun b y _ => kEqC q a b none fun e => Bool.rec (match lenIs qs x y with | true => K false | false => none) (ih x y K) e) y) x) qs
/-! compiled: operands -/
inductive Ev where | mk (f : Fr → (AV → OR) → OR)
noncomputable def Ev.f (e : Ev) : Fr → (AV → OR) → OR := Ev.rec (fun f => f) e
noncomputable def cEv (x : Operand) : Ev := match x with
  | .tmp t => .mk (gC (pthC t))
  | .const v => .mk fun _ K => K (ofV v)
  | .global _ => .mk fun _ K => K .bad
  | .func f => .mk fun _ K => K (.func (.func f) [] [])
inductive Evs where | mk (f : Fr → (List AV → OR) → OR)
noncomputable def Evs.f (e : Evs) : Fr → (List AV → OR) → OR := Evs.rec (fun f => f) e
/-- arguments -/
noncomputable def cArgs : List Operand → Evs
  | [] => .mk fun _ K => K []
  | x :: xs => Ev.rec (fun f => Evs.rec (fun g => .mk fun fr K => f fr fun v => ifC (avBad v) none (g fr fun vs => K (v :: vs))) (cArgs xs)) (cEv x)

variable (P : Program)
/-! compiled: arithmetic of one kind; 'slow' is asked where no short way serves -/
inductive Bin where | mk (f : AV → AV → OR → (AV → OR) → OR)
noncomputable def Bin.f (e : Bin) : AV → AV → OR → (AV → OR) → OR := Bin.rec (fun f => f) e
noncomputable def ints (i : Nat) (x y : AV) (slow : OR) (K : Int → Int → OR) : OR :=
  asIntC x slow fun k a => asIntC y slow fun k' b => ifC (Nat.beq (kIdx k) i) (ifC (Nat.beq (kIdx k') i) (K a b) slow) slow
noncomputable def nats (i : Nat) (x y : AV) (slow : OR) (K : Nat → Nat → OR) : OR :=
  ints i x y slow fun a b => natC a slow fun a => natC b slow fun b => K a b
noncomputable def ileC (x y : Int) : Bool := Int.rec (fun a => Int.rec (fun b => Nat.ble a b) (fun _ => false) y) (fun a => Int.rec (fun _ => true) (fun b => Nat.ble b a) y) x
noncomputable def ieqC (x y : Int) : Bool := Int.rec (fun a => Int.rec (fun b => Nat.beq a b) (fun _ => false) y) (fun a => Int.rec (fun _ => false) (fun b => Nat.beq a b) y) x
noncomputable def notC (b : Bool) : Bool := Bool.rec true false b
noncomputable def boolC (b : Bool) (K : AV → OR) : OR := Bool.rec (K (.bool false)) (K (.bool true)) b
/-- a sum, product: what does not fit is taken modulo, of a kind without sign -/
noncomputable def fitC (signed : Bool) (k : IntKind) (T : Nat) (s : Nat) (slow : OR) (K : AV → OR) : OR :=
  fNC s fun s => ifC (Nat.ble (Nat.succ s) T) (K (.int k (.ofNat s))) (Bool.rec (fNC (Nat.mod s T) fun s => K (.int k (.ofNat s))) slow signed)
noncomputable def cBin (op : BinOp) (k : IntKind) : Bin := match op with
  | .add => .mk fun x y slow K => nats (kIdx k) x y slow fun a b => fitC k.signed k (top k) (Nat.add a b) slow K
  | .mul => .mk fun x y slow K => nats (kIdx k) x y slow fun a b => fitC k.signed k (top k) (Nat.mul a b) slow K
  | .sub => .mk fun x y slow K => nats (kIdx k) x y slow fun a b => ifC (Nat.ble b a) (fitC true k (top k) (Nat.sub a b) slow K) slow
  | .and => .mk fun x y slow K => nats (kIdx k) x y slow fun a b => ifC (Nat.ble (Nat.succ a) (top k)) (ifC (Nat.ble (Nat.succ b) (top k)) (fNC (Nat.land a b) fun s => K (.int k (.ofNat s))) slow) slow
  | .or => .mk fun x y slow K => nats (kIdx k) x y slow fun a b => ifC (Nat.ble (Nat.succ a) (top k)) (ifC (Nat.ble (Nat.succ b) (top k)) (fNC (Nat.lor a b) fun s => K (.int k (.ofNat s))) slow) slow
  | .xor => .mk fun x y slow K => nats (kIdx k) x y slow fun a b => ifC (Nat.ble (Nat.succ a) (top k)) (ifC (Nat.ble (Nat.succ b) (top k)) (fNC (Nat.xor a b) fun s => K (.int k (.ofNat s))) slow) slow
  | .shl => .mk fun x y slow K => asIntC x slow fun k1 a => asIntC y slow fun _ b => ifC (Nat.beq (kIdx k1) (kIdx k)) (natC a slow fun a => natC b slow fun b => fitC k.signed k (top k) (Nat.mul a (Nat.pow 2 (Bool.rec k.bits b (Nat.ble b k.bits)))) slow K) slow
  | .shr => .mk fun x y slow K => asIntC x slow fun k1 a => asIntC y slow fun _ b => ifC (Nat.beq (kIdx k1) (kIdx k)) (natC a slow fun a => natC b slow fun b => fNC (Nat.div a (Nat.pow 2 (Bool.rec k.bits b (Nat.ble b k.bits)))) fun s => K (.int k (.ofNat s))) slow
  | .quo => .mk fun x y slow K => nats (kIdx k) x y slow fun a b => ifC (Nat.ble 1 b) (ifC (Nat.ble (Nat.succ a) (top k)) (fNC (Nat.div a b) fun s => K (.int k (.ofNat s))) slow) slow
  | .rem => .mk fun x y slow K => nats (kIdx k) x y slow fun a b => ifC (Nat.ble 1 b) (fNC (Nat.mod a b) fun s => K (.int k (.ofNat s))) slow
  | .eql => .mk fun x y slow K => ints (kIdx k) x y slow fun a b => boolC (ieqC a b) K
  | .neq => .mk fun x y slow K => ints (kIdx k) x y slow fun a b => boolC (notC (ieqC a b)) K
  | .lss => .mk fun x y slow K => ints (kIdx k) x y slow fun a b => boolC (notC (ileC b a)) K
  | .leq => .mk fun x y slow K => ints (kIdx k) x y slow fun a b => boolC (ileC a b) K
  | .gtr => .mk fun x y slow K => ints (kIdx k) x y slow fun a b => boolC (notC (ileC a b)) K
  | .geq => .mk fun x y slow K => ints (kIdx k) x y slow fun a b => boolC (ileC b a) K
  | _ => .mk fun _ _ slow _ => slow

/-! compiled: operations -/
inductive OpV where | mk (f : CallK → Fr → Heap → (AV → Heap → OR) → OR)
noncomputable def OpV.f (e : OpV) : CallK → Fr → Heap → (AV → Heap → OR) → OR := OpV.rec (fun f => f) e
noncomputable def fNO (n : Nat) (K : Nat → OpV) : OpV := Nat.rec (K 0) (fun m _ => K (Nat.succ m)) n
/-- as it stands in Ai -/
noncomputable def cSlow (o : Oper) : OpV := .mk fun call fr h K => opK P call fr.eval o h K
noncomputable def ev1 (x : Operand) (g : (AV → Heap → OR) → Heap → AV → OR) : OpV := Ev.rec (fun f => .mk fun _ fr h K => f fr (g K h)) (cEv x)
noncomputable def ev2 (x y : Operand) (g : (AV → Heap → OR) → Heap → AV → AV → OR) : OpV := Ev.rec (fun f => Ev.rec (fun f' => .mk fun _ fr h K => f fr fun a => f' fr (g K h a)) (cEv y)) (cEv x)
noncomputable def cPure (o : Oper) : OpV := match o.op with
  | .move x | .assign x => ev1 x fun K h v => ifC (avBad v) none (K v h)
  | .nilCheck x => ev1 x fun K h v => asPtrC v (match v with | .ptr k o => K (.ptr k o) h | .func (.func f) a c => K (.func (.func f) a c) h | _ => none) fun k o => K (.ptr k o) h
  | .binOp op t x y _ => (match P.underlying t with
    | some (.int k) => Bin.rec (fun g => ev2 x y fun K h a b => g a b (a.okK fun a => b.okK fun b => binK P op t a b fun v => K v h) fun v => K v h) (cBin op k)
    | some d => (match isAggD d, P.eqGuardType P.depth t, plainKs P 30 t, op with
      | true, false, some ks, .eql => ev2 x y fun K h a b => asAggC a (a.okK fun a => b.okK fun b => binK P op t a b fun v => K v h) fun xs => asAggC b (a.okK fun a => b.okK fun b => binK P op t a b fun v => K v h) fun ys => scsEqC ks xs ys fun e => K (.bool e) h
      | true, false, some ks, .neq => ev2 x y fun K h a b => asAggC a (a.okK fun a => b.okK fun b => binK P op t a b fun v => K v h) fun xs => asAggC b (a.okK fun a => b.okK fun b => binK P op t a b fun v => K v h) fun ys => scsEqC ks xs ys fun e => Bool.rec (K (.bool true) h) (K (.bool false) h) e
      | _, _, _, _ => ev2 x y fun K h a b => a.okK fun a => b.okK fun b => binK P op t a b fun v => K v h)
    | none => ev2 x y fun K h a b => a.okK fun a => b.okK fun b => binK P op t a b fun v => K v h)
  | .pick c a b => Ev.rec (fun f => Ev.rec (fun g => Ev.rec (fun e => .mk fun _ fr h K => e fr fun c => asBoolC c none fun c => Bool.rec (g fr fun v => ifC (avBad v) none (K v h)) (f fr fun v => ifC (avBad v) none (K v h)) c) (cEv c)) (cEv b)) (cEv a)
  | .unOp op _ x => ev1 x fun K h a => a.okK fun a => unA op a fun v => K v h
  | .fieldAddr s x f => (match P.underlying s with
    | some (.struct fs) => (match fs.toList[f]? with
      | some fd => (match P.info? fd.type with
        | some i => (match i.size with
          | 0 => cSlow P o
          | _ + 1 => fNO fd.offset fun d => ev1 x fun K h a => asPtrC a (a.okK fun a => fieldAddrK P s a f fun v => K v h) fun k off => fNC (Nat.add off d) fun o => K (.ptr k o) h)
        | none => cSlow P o)
      | none => cSlow P o)
    | _ => cSlow P o)
  | .indexAddr t x i => (match P.underlying t with
    | some (.array len elem) => (match P.info? elem with
      | some s => fNO s.size fun z => fNO len fun len => ev2 x i fun K h a b => asPtrC a (a.okK fun a => b.okK fun b => indexAddrK P t a b fun v => K v h) fun k off => asIntC b (a.okK fun a => b.okK fun b => indexAddrK P t a b fun v => K v h) fun _ i =>
          natC i none fun i => ifC (Nat.ble (Nat.succ i) len) (fNC (Nat.add off (Nat.mul i z)) fun o => K (.ptr k o) h) none
      | none => cSlow P o)
    | some (.slice elem) => (match P.info? elem with
      | some s => fNO s.size fun z => ev2 x i fun K h a b => asIntC b (a.okK fun a => b.okK fun b => indexAddrK P t a b fun v => K v h) fun _ i => asElemC a (a.okK fun a => b.okK fun b => indexAddrK P t a b fun v => K v h) (fun _ _ => none) fun k off len =>
          natC i none fun i => ifC (Nat.ble (Nat.succ i) len) (fNC (Nat.add off (Nat.mul i z)) fun o => K (.ptr k o) h) none
      | none => cSlow P o)
    | _ => cSlow P o)
  | .field s x f => ev1 x fun K h a => a.okK fun a => fieldK P s a f fun v => K v h
  | .index t x i => ev2 x i fun K h a b => a.okK fun a => b.okK fun b => indexK P t a b fun v => K v h
  | .slice t x lo hi mx => .mk fun _ fr h K => (fr.eval x).okK fun a => sliceK P t a (lo.map fr.eval) (hi.map fr.eval) (mx.map fr.eval) fun v => K v h
  | .extract x i => ev1 x fun K h a => (match a with | .tup vs => lgetC i vs fun v => K v h | _ => none)
  | .convert s d x => (match P.underlying s, P.underlying d with
    | some (.int _), some (.int k) => ev1 x fun K h a => asIntC a (a.okK fun a => convPureK P s d a fun v => K v h) fun _ n => natC n (a.okK fun a => convPureK P s d a fun v => K v h) fun n =>
        fitC k.signed k (top k) n (a.okK fun a => convPureK P s d a fun v => K v h) fun v => K v h
    | _, _ => ev1 x fun K h a => a.okK fun a => convPureK P s d a fun v => K v h)
  | .call c => (match c.callee with
    | .builtin .len => (match c.argTypes[0]?, c.args[0]? with
      | some t, some x => ev1 x fun K h a => a.okK fun a => lenK P t a fun v => K v h
      | _, _ => .mk fun _ fr h K => pureK P fr.eval o fun v => K v h)
    | _ => .mk fun _ fr h K => pureK P fr.eval o fun v => K v h)
  | _ => .mk fun _ fr h K => pureK P fr.eval o fun v => K v h
noncomputable def cRead (o : Oper) : OpV := match o.op with
  | .load t x => (match P.underlying t with
    | some d => (match isAggD d with
      | true => (match P.info? t with
        | some i => fNO i.size fun z => ev1 x fun K h a => asPtrC a none fun k off => hG h k fun b => asCells b fun cs _ _ => lcutC off z cs fun r => K (.agg r) h
        | none => cSlow P o)
      | false => ev1 x fun K h a => asPtrC a none fun k off => hG h k fun b => asCells b fun cs _ _ => lgetC off cs fun v => K v h)
    | none => cSlow P o)
  | _ => .mk fun _ fr h K => readK P fr.eval o h fun v => K v h
noncomputable def cEff (o : Oper) : OpV := match o.op with
  | .store t a x => (match P.info? t with
    | some i => fNO i.size fun z => ev2 x a fun K h v a => ifC (avBad v) none (asPtrC a none fun k off =>
        ifC (avSc v) (ifC (Nat.beq z 1) (hG h k fun b => asCells b fun cs ext ro => ifC ro none (lput1C off v cs fun cs => hS h k (.cells cs ext false) fun h => K undefA h)) none)
          (asAggC v (storeK P h t (.ptr k off) v fun h => K undefA h) fun vs => llenC vs 0 fun m => ifC (Nat.beq z m)
            (List.rec (K undefA h) (fun _ _ _ => hG h k fun b => asCells b fun cs ext ro => ifC ro none (lputC off vs cs fun cs => hS h k (.cells cs ext false) fun h => K undefA h)) vs) none))
    | none => cSlow P o)
  | .call c => (match c.callee with
    | .value (.func f) => Evs.rec (fun g => .mk fun call fr h K => g fr fun vs => Option.rec none (fun p => Prod.rec (fun v h => K v h) p) (call f vs h)) (cArgs c.args.toList)
    | .value f => Evs.rec (fun g => Ev.rec (fun e => .mk fun call fr h K => g fr fun vs => e fr fun fv => (match fv with
        | .func (.func f) first cap => lappC first vs fun vs => lappC vs cap fun vs => Option.rec none (fun p => Prod.rec (fun v h => K v h) p) (call f vs h)
        | _ => none)) (cEv f)) (cArgs c.args.toList)
    | _ => .mk fun call fr h K => effK P call fr.eval o h K)
  | _ => .mk fun call fr h K => effK P call fr.eval o h K
/-- new blocks -/
noncomputable def cNew (o : Oper) : OpV := match o.op with
  | .alloc t => (match zeroK P t fun v => v.cellsK fun cs => some (OpV.mk fun _ _ h K => hN h (.cells cs 0 false) fun k h => K (.ptr k 0) h) with
    | some e => e
    | none => .mk fun _ _ _ _ => none)
  | .box _ x => ev1 x fun K h v => ifC (avBad v) none (asAggC v (hN h (.cells [v] 0 false) fun k h => K (.ptr k 0) h) fun cs => hN h (.cells cs 0 false) fun k h => K (.ptr k 0) h)
  | _ => .mk fun _ fr h K => allocK P fr.eval o fun b mk => hN h b fun k h => (mk k).fK fun v => K v h
noncomputable def cOp (o : Oper) : OpV := match cls P o with
  | .p => cPure P o
  | .r => cRead P o
  | .a => cNew P o
  | .e => cEff P o

/-! compiled: what is laid where -/
inductive PutV where | mk (f : Fr → AV → (Fr → OR) → OR)
noncomputable def PutV.f (e : PutV) : Fr → AV → (Fr → OR) → OR := PutV.rec (fun f => f) e
noncomputable def cPut (n : Nat) : Option Tmp → PutV
  | none => .mk fun fr _ K => K fr
  | some d => match Nat.blt d n with
    | true => .mk fun fr v K => sT (pthC d) (some v) fr K
    | false => .mk fun _ _ _ => none
/-! compiled: regions -/
inductive RV where | mk (f : CallK → Fr → Heap → (Fr → Heap → OR) → OR)
noncomputable def RV.f (e : RV) : CallK → Fr → Heap → (Fr → Heap → OR) → OR := RV.rec (fun f => f) e
noncomputable def cOps (n : Nat) (ops : Array Oper) : List Oper → RV
  | [] => .mk fun _ fr h K => K fr h
  | o :: rest => OpV.rec (fun f => PutV.rec (fun p => RV.rec (fun g => match o.guard with
      | none => .mk fun call fr h K => f call fr h fun v h => p fr v fun fr => g call fr h K
      | some _ => .mk fun call fr h K => ifC (wantA ops fr o) (f call fr h fun v h => p fr v fun fr => g call fr h K) (p fr undefA fun fr => g call fr h K))
      (cOps n ops rest)) (cPut n o.dst)) (cOp P o)
noncomputable def thenC (r : OR) (K : AV → Heap → OR) : OR := Option.rec none (fun p => Prod.rec K p) r
noncomputable def cOpsD (n : Nat) (ops : Array Oper) : List Oper → RV
  | [] => .mk fun _ fr h K => K fr h
  | o :: rest => OpV.rec (fun f => PutV.rec (fun p => RV.rec (fun g => match isX (cls P o) with
      | true => .mk fun call fr h K => ifC (wantA ops fr o) (thenC (f call fr h fun v h => some (v, h)) fun v h => p fr v fun fr => g call fr h K) (p fr undefA fun fr => g call fr h K)
      | false => .mk fun call fr h K => ifC (wantA ops fr o) (thenC (f call fr h fun v h => some (v, h)) fun v _ => p fr v fun fr => g call fr h K) (p fr undefA fun fr => g call fr h K))
      (cOpsD n ops rest)) (cPut n o.dst)) (cOp P o)
/-- one operation, as 'drawOk' looks at it: its number's bit, what it writes, what it names (slots as bits), is it ordered by itself -/
inductive DR where | mk (b d s : Nat) (x : Bool)
def opBits : List Operand → Nat
  | [] => 0
  | .tmp t :: r => Nat.lor (Nat.pow 2 t) (opBits r)
  | _ :: r => opBits r
def toDR (ops : Array Oper) (o : Oper) (i : Nat) : DR :=
  let d := match o.dst with | some t => Nat.pow 2 t | none => 0
  .mk (Nat.pow 2 i) d (Nat.lor d (Nat.lor (match guardTmp ops o with | some t => Nat.pow 2 t | none => 0) (opBits o.op.operands.toList))) (isX (cls P o))
/-- against those ahead -/
noncomputable def pairsC (m d s : Nat) (x : Bool) (l : List DR) : Bool :=
  List.rec true (fun e _ ih => DR.rec (fun b d' s' x' => Bool.rec ih
    (Bool.rec false (Bool.rec false (Bool.rec ih (Bool.rec ih false x') x) (Nat.beq (Nat.land s' d) 0)) (Nat.beq (Nat.land d' s) 0)) (Nat.beq (Nat.land m b) 0)) e) l
def fND {α : Type} (n : Nat) (K : Nat → α) : α := Nat.rec (motive := fun _ => α) (K 0) (fun m _ => K (Nat.succ m)) n
noncomputable def drawC (ops : Array Oper) : List Oper → List Nat → Nat → List DR → Bool
  | [], _, _, _ => true
  | o :: r, ms, i, l => match ms with
    | [] => false
    | m :: ms => fND m fun m => DR.rec (fun b d s x => fND b fun b => fND d fun d => fND s fun s => Bool.rec (Bool.rec false (Bool.rec false (drawC ops r ms (Nat.succ i) (.mk b d s true :: l)) (pairsC m d s true l)) (o.after.toList.all fun e => !Region.binds .any e || decide (e.on < i)))
        (Bool.rec false (Bool.rec false (drawC ops r ms (Nat.succ i) (.mk b d s false :: l)) (pairsC m d s false l)) (o.after.toList.all fun e => !Region.binds .any e || decide (e.on < i))) (notC x)) (toDR P ops o i)
/-! regions with reads that float: what was read is written down, and asked again -/
inductive RL where | mk (f : CallK → Fr → Heap → List (Option Log) → List Heap → (Fr → Heap → List (Option Log) → List Heap → OR) → OR)
noncomputable def RL.f (e : RL) : CallK → Fr → Heap → List (Option Log) → List Heap → (Fr → Heap → List (Option Log) → List Heap → OR) → OR := RL.rec (fun f => f) e
noncomputable def cOpsL (n : Nat) (ops : Array Oper) : List Oper → RL
  | [] => .mk fun _ fr h lg hs K => K fr h lg hs
  | o :: rest => OpV.rec (fun f => PutV.rec (fun p => RL.rec (fun g => match cls P o with
      | .p => .mk fun call fr h lg hs K => ifC (wantA ops fr o) (thenC (f call fr h fun v h => some (v, h)) fun v _ => p fr v fun fr => g call fr h (none :: lg) hs K) (p fr undefA fun fr => g call fr h (none :: lg) hs K)
      | .r => .mk fun call fr h lg hs K => ifC (wantA ops fr o) (thenC (f call fr h fun v h => some (v, h)) fun v _ => p fr v fun fr' => g call fr' h (some ⟨o, fr, v⟩ :: lg) hs K) (p fr undefA fun fr => g call fr h (none :: lg) hs K)
      | _ => .mk fun call fr h lg hs K => ifC (wantA ops fr o) (thenC (f call fr h fun v h => some (v, h)) fun v h' => p fr v fun fr => g call fr h' (none :: lg) (h' :: hs) K) (p fr undefA fun fr => g call fr h (none :: lg) (h :: hs) K))
      (cOpsL n ops rest)) (cPut n o.dst)) (cOp P o)
noncomputable def chkHsC (l : Log) (hs : List Heap) (K : OR) : OR := match cls P l.o with
  | .r => OpV.rec (fun f => List.rec K (fun h _ ih => thenC (f (fun _ _ _ => none) l.fr h fun v h => some (v, h)) fun v _ => ifC (l.v.same v) ih none) hs) (cRead P l.o)
  | _ => chkHs P l hs K
noncomputable def chkFlC (lg : List (Option Log)) (hs : List Heap) (fl : List (Nat × Nat × Nat)) (K : OR) : OR :=
  List.rec K (fun x _ ih => match x with
    | (i, lo, hi) => (match lg[i]? with
      | some (some l) => chkHsC P l ((hs.drop lo).take (hi - lo + 1)) ih
      | some none => ih
      | none => none)) fl
noncomputable def cRegion (n : Nat) (ops : Array Oper) (draw : Bool) : RV := match draw with
  | false => cOps P n ops ops.toList
  | true => match drawC P ops ops.toList (masks ops) 0 [] with
    | false => .mk fun call fr h K => regionK P call n ops true fr h K
    | true => match floats P ops with
      | [] => cOpsD P n ops ops.toList
      | fl => RL.rec (fun f => .mk fun call fr h K => f call fr h [] [h] fun fr h lg hs => chkFlC P lg.reverse hs.reverse fl (K fr h)) (cOpsL P n ops ops.toList)
/-! compiled: code -/
inductive CV where | mk (f : CallK → Fr → Heap → (Ex → Fr → Heap → OR) → OR)
noncomputable def CV.f (e : CV) : CallK → Fr → Heap → (Ex → Fr → Heap → OR) → OR := CV.rec (fun f => f) e
noncomputable def cLoop (f : CallK → Fr → Heap → (Ex → Fr → Heap → OR) → OR) (call : CallK) (n : Nat) : Fr → Heap → (Ex → Fr → Heap → OR) → OR :=
  Nat.rec (fun _ _ _ => none) (fun _ ih fr h K => f call fr h fun e fr h => Ex.rec (ih fr h K) (fun i => K (.exit i) fr h) (K .ret fr h) e) n
noncomputable def cCode (L n : Nat) : Code → CV
  | .skip => .mk fun _ fr h K => K .normal fr h
  | .label _ => .mk fun _ fr h K => K .normal fr h
  | .ret => .mk fun _ fr h K => K .ret fr h
  | .exit id => .mk fun _ fr h K => K (.exit id) fr h
  | .region _ ops draw => RV.rec (fun f => .mk fun call fr h K => f call fr h fun fr h => K .normal fr h) (cRegion P n ops draw)
  | .seq a b => CV.rec (fun f => CV.rec (fun g => .mk fun call fr h K => f call fr h fun e fr h => Ex.rec (g call fr h K) (fun i => K (.exit i) fr h) (K .ret fr h) e) (cCode L n b)) (cCode L n a)
  | .cond c a b => Ev.rec (fun e => CV.rec (fun f => CV.rec (fun g => .mk fun call fr h K => e fr fun v => asBoolC v none fun b => Bool.rec (g call fr h K) (f call fr h K) b) (cCode L n b)) (cCode L n a)) (cEv c)
  | .block id c => CV.rec (fun f => .mk fun call fr h K => f call fr h fun e fr h => Ex.rec (K .normal fr h) (fun j => Bool.rec (K (.exit j) fr h) (K .normal fr h) (Nat.beq j id)) (K .ret fr h) e) (cCode L n c)
  | .loop c => CV.rec (fun f => .mk fun call fr h K => cLoop f call L fr h K) (cCode L n c)
  | .scope c => cCode L n c
  | _ => .mk fun _ _ _ _ => none
/-! compiled: calls -/
noncomputable def enterC (vs : List AV) : Nat → Fr → (Fr → OR) → OR :=
  List.rec (fun _ fr K => K fr) (fun v _ ih i fr K => sT (pthC i) (some v) fr fun fr => ih (Nat.succ i) fr K) vs
inductive ResV where | mk (f : Fr → Heap → (List AV → OR) → OR)
noncomputable def ResV.f (e : ResV) : Fr → Heap → (List AV → OR) → OR := ResV.rec (fun f => f) e
noncomputable def cRes : List ResultVar → ResV
  | [] => .mk fun _ _ K => K []
  | .tmp t :: rs => ResV.rec (fun g => .mk fun fr h K => gC (pthC t) fr fun v => ifC (avBad v) none (g fr h fun vs => K (v :: vs))) (cRes rs)
  | .cell a t :: rs => ResV.rec (fun g => OpV.rec (fun f => .mk fun fr h K => f (fun _ _ _ => none) fr h fun v _ => g fr h fun vs => K (v :: vs)) (cRead P { dst := none, op := .load t (.tmp a), type := t, pos := default, after := #[], guard := none })) (cRes rs)
noncomputable def backC (vs : List AV) (h : Heap) : OR := List.rec (some (.tup [], h)) (fun v r _ => List.rec (some (v, h)) (fun _ _ _ => some (.tup (v :: r), h)) r) vs
inductive FnV where | mk (f : CallK → List AV → Heap → OR)
noncomputable def FnV.f (e : FnV) : CallK → List AV → Heap → OR := FnV.rec (fun f => f) e
noncomputable def cFn (E : Env) (f : FuncId) : FnV := match E.ora f with
  | some g => .mk fun call args h => g call args h
  | none => match E.P.funcs.toList[f]? with
    | some fn => (match fn.body with
      | some c => CV.rec (fun k => ResV.rec (fun r => .mk fun call args h => llenC args 0 fun m => ifC (Nat.ble m fn.ntmps)
          (enterC args 0 .leaf fun fr => k call fr h fun e fr h => Ex.rec (r fr h fun vs => backC vs h) (fun _ => none) (r fr h fun vs => backC vs h) e) none)
          (cRes E.P fn.results.toList)) (cCode E.P E.L fn.ntmps c)
      | none => .mk fun _ args h => externD fn.name args h)
    | none => .mk fun _ _ _ => none
noncomputable def callC (E : Env) (d : Nat) : CallK :=
  Nat.rec (fun _ _ _ => none) (fun _ ih f args h => FnV.rec (fun g => g ih args h) (cFn E f)) d
noncomputable def runC (E : Env) (d : Nat) (f : FuncId) : OR := callC E d f [] ⟨0, .leaf⟩
end Go.Ac
namespace Go.Ac
open Go Go.Ai
set_option linter.unusedSimpArgs false
variable {P : Program}

theorem fNC_eq (n : Nat) (K : Nat → OR) : fNC n K = K n := by cases n <;> rfl
theorem fNO_eq (n : Nat) (K : Nat → OpV) : fNO n K = K n := by cases n <;> rfl
theorem fND_eq {α : Type} (n : Nat) (K : Nat → α) : fND n K = K n := by cases n <;> rfl
theorem fN_eq' {β : Type} (n : Nat) (K : Nat → β) : fN n K = K n := by cases n <;> rfl
theorem fI_eq' {β : Type} (n : Int) (K : Int → β) : fI n K = K n := by cases n <;> simp [fI, fN_eq']
theorem fB_eq' {β : Type} (b : Bool) (K : Bool → β) : fB b K = K b := by cases b <;> rfl
theorem ifC_true (y n : OR) : ifC true y n = y := rfl
theorem ifC_false (y n : OR) : ifC false y n = n := rfl
theorem ifC_eq (b : Bool) (y n : OR) : ifC b y n = if b = true then y else n := by cases b <;> rfl
theorem fK_eq (v : AV) (K : AV → OR) : v.fK K = ifC (avBad v) none (K v) := by
  cases v <;> simp [AV.fK, fN_eq', fI_eq', fB_eq'] <;> rfl
theorem okK_eq (v : AV) (K : AV → OR) : v.okK K = ifC (avBad v) none (K v) := by
  cases v <;> rfl
theorem asInt_int (k : IntKind) (n : Int) (no : OR) (K : IntKind → Int → OR) : asIntC (.int k n) no K = K k n := rfl
theorem asInt_cases (v : AV) (no : OR) (K : IntKind → Int → OR) : (∃ k n, v = .int k n ∧ asIntC v no K = K k n) ∨ asIntC v no K = no := by
  cases v <;> first | exact .inr rfl | exact .inl ⟨_, _, rfl, rfl⟩
theorem asPtr_cases (v : AV) (no : OR) (K : Nat → Nat → OR) : (∃ k n, v = .ptr k n ∧ asPtrC v no K = K k n) ∨ (asPtrC v no K = no ∧ ∀ k n, v ≠ .ptr k n) := by
  cases v <;> first | exact .inr ⟨rfl, fun _ _ h => by cases h⟩ | exact .inl ⟨_, _, rfl, rfl⟩
theorem asBool_cases (v : AV) (no : OR) (K : Bool → OR) : (∃ b, v = .bool b ∧ asBoolC v no K = K b) ∨ (asBoolC v no K = no ∧ ∀ b, v ≠ .bool b) := by
  cases v <;> first | exact .inr ⟨rfl, fun _ h => by cases h⟩ | exact .inl ⟨_, rfl, rfl⟩
theorem asAgg_cases (v : AV) (no : OR) (K : List AV → OR) : (∃ cs, v = .agg cs ∧ asAggC v no K = K cs) ∨ (asAggC v no K = no ∧ ∀ cs, v ≠ .agg cs) := by
  cases v <;> first | exact .inr ⟨rfl, fun _ h => by cases h⟩ | exact .inl ⟨_, rfl, rfl⟩
theorem kIdx_inj {k k' : IntKind} (h : kIdx k = kIdx k') : k = k' := by
  cases k <;> cases k' <;> first | rfl | (exact absurd h (by decide))
theorem nat_cases (i : Int) (no : OR) (K : Nat → OR) : (∃ a, i = .ofNat a ∧ natC i no K = K a) ∨ natC i no K = no := by
  cases i <;> first | exact .inl ⟨_, rfl, rfl⟩ | exact .inr rfl

/-! paths -/
theorem pthF_enough : ∀ (f g n : Nat), n ≤ f → n ≤ g → pthF f n = pthF g n := by
  intro f
  induction f with
  | zero =>
    intro g n h _
    have : n = 0 := by omega
    subst this
    cases g <;> rfl
  | succ f ih =>
    intro g n h hg
    cases g with
    | zero =>
      have : n = 0 := by omega
      subst this; rfl
    | succ g =>
      simp only [pthF]
      cases n with
      | zero => rfl
      | succ m =>
        simp only
        rw [ih g (m / 2) (by omega) (by omega)]
theorem pthR_eq : ∀ (f n : Nat), n < 2 ^ f → pthR f n = pth n := by
  intro f
  induction f with
  | zero => intro n h; have : n = 0 := by simpa using h
            subst this; rfl
  | succ f ih =>
    intro n h
    cases n with
    | zero => rfl
    | succ m =>
      have hm : m / 2 < 2 ^ f := by rw [Nat.pow_succ] at h; omega
      have e : pthR (f + 1) (m + 1) = Bool.rec (Bool.rec (.o (pthR f (m / 2))) (.z (pthR f (m / 2))) (Nat.beq (m % 2) 0)) .e (Nat.beq (m + 1) 0) := rfl
      rw [e, ih _ hm]
      have h0 : Nat.beq (m + 1) 0 = false := rfl
      rw [h0]
      have hp : pth (m + 1) = match m % 2 with | 0 => .z (pthF m (m / 2)) | _ => .o (pthF m (m / 2)) := rfl
      rw [hp, show pth (m / 2) = pthF m (m / 2) from pthF_enough _ _ _ (Nat.le_refl _) (Nat.div_le_self _ _)]
      have : m % 2 = 0 ∨ m % 2 = 1 := by omega
      rcases this with h1 | h1 <;> rw [h1] <;> rfl
theorem pthC_eq (n : Nat) : pthC n = pth n := by
  unfold pthC
  cases h : Nat.ble n 4294967295 with
  | false => rfl
  | true =>
    have := Nat.le_of_ble_eq_true h
    exact pthR_eq 32 n (by omega)
theorem gC_eq : ∀ (p : Pth) (fr : Fr) (K : AV → OR), gC p fr K = K (fr.getK p undefA id) := by
  intro p
  induction p with
  | e => intro fr K; cases fr with
    | leaf => rfl
    | node v l r => cases v <;> rfl
  | z p ih => intro fr K; cases fr with
    | leaf => rfl
    | node v l r => exact ih l K
  | o p ih => intro fr K; cases fr with
    | leaf => rfl
    | node v l r => exact ih r K
theorem gB_eq : ∀ (p : Pth) (t : Tr Blk) (K : Blk → OR), gB p t K = t.getK p none K := by
  intro p
  induction p with
  | e => intro t K; cases t with
    | leaf => rfl
    | node v l r => cases v <;> rfl
  | z p ih => intro t K; cases t with
    | leaf => rfl
    | node v l r => exact ih l K
  | o p ih => intro t K; cases t with
    | leaf => rfl
    | node v l r => exact ih r K
theorem sT_eq {α : Type} : ∀ (p : Pth) (x : Option α) (t : Tr α) (K : Tr α → OR), sT p x t K = t.setK x p K := by
  intro p
  induction p with
  | e => intro x t K; cases t <;> rfl
  | z p ih => intro x t K; cases t with
    | leaf => exact ih x .leaf _
    | node v l r => exact ih x l _
  | o p ih => intro x t K; cases t with
    | leaf => exact ih x .leaf _
    | node v l r => exact ih x r _
theorem hG_eq (h : Heap) (k : Nat) (K : Blk → OR) : hG h k K = h.getK k none K := by
  cases h; simp only [hG, Heap.getK, pthC_eq]; exact gB_eq _ _ _
theorem hS_eq (h : Heap) (k : Nat) (b : Blk) (K : Heap → OR) : hS h k b K = h.putK k b K := by
  cases h; simp only [hS, Heap.putK, pthC_eq]; exact sT_eq _ _ _ _
theorem hN_eq (h : Heap) (b : Blk) (K : Nat → Heap → OR) : hN h b K = h.newK b K := by
  cases h with | mk k t =>
  simp only [hN, Heap.newK, pthC_eq, fNC_eq, fN_eq']
  exact sT_eq _ _ _ _
theorem lgetC_eq : ∀ (n : Nat) (l : List AV) (K : AV → OR), lgetC n l K = lget l n none K
  | 0, [], _ => rfl
  | 0, _ :: _, _ => rfl
  | _ + 1, [], _ => rfl
  | n + 1, _ :: l, K => lgetC_eq n l K
theorem ltakeC_eq : ∀ (n : Nat) (l : List AV) (K : List AV → OR), ltakeC n l K = ltake n l none K
  | 0, _, _ => rfl
  | _ + 1, [], _ => rfl
  | n + 1, _ :: l, _ => ltakeC_eq n l _
theorem ldropC_eq : ∀ (n : Nat) (l : List AV) (K : List AV → OR), ldropC n l K = ldrop n l none K
  | 0, _, _ => rfl
  | _ + 1, [], _ => rfl
  | n + 1, _ :: l, _ => ldropC_eq n l _
theorem lcutC_eq (off n : Nat) (l : List AV) (K : List AV → OR) : lcutC off n l K = lcut off n l none K := by
  unfold lcutC lcut
  rw [ldropC_eq]
  congr 1
  funext r
  exact ltakeC_eq _ _ _
theorem avSc_eq (v : AV) : avSc v = isSc v := by cases v <;> rfl
theorem loverC_eq : ∀ (vs l : List AV) (K : List AV → OR), loverC vs l K = lover vs l none K
  | [], _, _ => rfl
  | _ :: _, [], _ => rfl
  | v :: vs, w :: xs, K => by
    have e : loverC (v :: vs) (w :: xs) K = ifC (avSc v) (loverC vs xs fun r => K (v :: r)) none := rfl
    rw [e, avSc_eq, loverC_eq]
    simp only [lover]
    cases isSc v <;> rfl
theorem lputC_eq : ∀ (n : Nat) (vs l : List AV) (K : List AV → OR), lputC n vs l K = lput n vs l none K
  | 0, vs, l, K => loverC_eq vs l K
  | _ + 1, _, [], _ => rfl
  | n + 1, vs, _ :: l, _ => lputC_eq n vs l _
theorem lput1C_eq : ∀ (n : Nat) (v : AV) (l : List AV) (K : List AV → OR), isSc v = true → lput1C n v l K = lput n [v] l none K
  | 0, v, [], K, h => rfl
  | 0, v, _ :: l, K, h => by
    simp only [lput, lover, h]; rfl
  | _ + 1, _, [], _, _ => rfl
  | n + 1, v, _ :: l, _, h => lput1C_eq n v l _ h
theorem llenC_eq : ∀ (l : List AV) (n : Nat) (K : Nat → OR), llenC l n K = llen l n K
  | [], _, _ => rfl
  | _ :: l, n, K => by
    simp only [llen, fN_eq']
    exact llenC_eq l (n + 1) K
theorem lappC_eq : ∀ (a l : List AV) (K : List AV → OR), lappC a l K = lapp a l K
  | [], _, _ => rfl
  | _ :: a, l, _ => lappC_eq a l _
end Go.Ac
namespace Go.Ac
open Go Go.Ai
set_option linter.unusedSimpArgs false
variable {P : Program}

theorem ints_eq {k : IntKind} {x y : AV} {S : OR} {F : Int → Int → OR} (h : ∀ a b, x = .int k a → y = .int k b → F a b = S) : ints (kIdx k) x y S F = S := by
  unfold ints
  rcases asInt_cases x S (fun k1 a => asIntC y S fun k' b => ifC (Nat.beq (kIdx k1) (kIdx k)) (ifC (Nat.beq (kIdx k') (kIdx k)) (F a b) S) S) with ⟨k1, a, hx, e⟩ | e <;> rw [e]
  rcases asInt_cases y S (fun k' b => ifC (Nat.beq (kIdx k1) (kIdx k)) (ifC (Nat.beq (kIdx k') (kIdx k)) (F a b) S) S) with ⟨k2, b, hy, e⟩ | e <;> rw [e]
  rw [ifC_eq]
  split
  · rename_i h1
    rw [ifC_eq]
    split
    · rename_i h2
      have e1 := kIdx_inj (Nat.eq_of_beq_eq_true h1)
      have e2 := kIdx_inj (Nat.eq_of_beq_eq_true h2)
      subst e1; subst e2
      exact h a b hx hy
    · rfl
  · rfl
theorem nats_eq {k : IntKind} {x y : AV} {S : OR} {F : Nat → Nat → OR} (h : ∀ a b : Nat, x = .int k (.ofNat a) → y = .int k (.ofNat b) → F a b = S) : nats (kIdx k) x y S F = S := by
  unfold nats
  refine ints_eq fun a b hx hy => ?_
  rcases nat_cases a S (fun a => natC b S fun b => F a b) with ⟨a', ha, e⟩ | e <;> rw [e]
  rcases nat_cases b S (fun b => F a' b) with ⟨b', hb, e⟩ | e <;> rw [e]
  subst ha; subst hb
  exact h a' b' hx hy
theorem wrapA_lt {k : IntKind} {s : Nat} (h : s < top k) : wrapA k (.ofNat s) = .ofNat s := by
  have g : Nat.blt s (top k) = true := by rw [Nat.blt_eq]; exact h
  simp only [wrapA, g]
theorem natC_of (a : Nat) (no : OR) (K : Nat → OR) : natC (.ofNat a) no K = K a := rfl
theorem wrapA_mod {k : IntKind} {s : Nat} (hs : k.signed = false) : wrapA k (.ofNat s) = .ofNat (s % top k) := by
  rw [wrapA_eq]
  cases k <;> simp [IntKind.signed] at hs <;> simp [IntKind.wrap, IntKind.bits, IntKind.signed, top]
theorem fitC_eq {sg : Bool} {k : IntKind} {s : Nat} {S : OR} {K : AV → OR} (hsg : sg = true ∨ sg = k.signed) (h : S = K (.int k (wrapA k (.ofNat s)))) : fitC sg k (top k) s S K = S := by
  unfold fitC
  rw [fNC_eq, ifC_eq]
  split
  · rename_i h1
    have := Nat.le_of_ble_eq_true h1
    rw [h, wrapA_lt (by omega)]
  · cases sg with
    | true => rfl
    | false =>
      have hk : k.signed = false := by
        rcases hsg with h | h
        · cases h
        · exact h.symm
      show fNC (s % top k) _ = S
      rw [fNC_eq, h, wrapA_mod hk]
theorem boolC_eq (b : Bool) (K : AV → OR) : boolC b K = K (.bool b) := by cases b <;> rfl
theorem ieqC_eq (a b : Int) : ieqC a b = ieq a b := by cases a <;> cases b <;> rfl
theorem ileC_eq (a b : Int) : ileC a b = ile a b := by cases a <;> cases b <;> rfl
theorem notC_eq (b : Bool) : notC b = !b := by cases b <;> rfl
theorem bits_minN (k : IntKind) (b : Nat) : (Bool.rec k.bits b (Nat.ble b k.bits) : Nat) = minN b k.bits := by
  unfold minN
  cases Nat.ble b k.bits <;> rfl

theorem cBin_eq (op : BinOp) (t : TypeId) (k : IntKind) (x y : AV) (K : AV → OR) :
    (cBin op k).f x y (x.okK fun a => y.okK fun b => binK P op t a b K) K = x.okK fun a => y.okK fun b => binK P op t a b K := by
  generalize hS : (x.okK fun a => y.okK fun b => binK P op t a b K) = S
  have int2 : ∀ {k1 k2 a b}, x = .int k1 a → y = .int k2 b → S = binK P op t (.int k1 a) (.int k2 b) K := by
    intro k1 k2 a b hx hy
    rw [← hS, hx, hy]; rfl
  cases op
  case add =>
    refine nats_eq fun a b hx hy => fitC_eq (.inr rfl) ?_
    rw [int2 hx hy]
    simp only [binK, if_true, intOpK, fI_eq']
    rfl
  case mul =>
    refine nats_eq fun a b hx hy => fitC_eq (.inr rfl) ?_
    rw [int2 hx hy]
    simp only [binK, if_true, intOpK, fI_eq']
    rfl
  case sub =>
    refine nats_eq fun a b hx hy => ?_
    rw [ifC_eq]
    split
    · rename_i hle
      have hle := Nat.le_of_ble_eq_true hle
      refine fitC_eq (.inl rfl) ?_
      rw [int2 hx hy]
      simp only [binK, if_true, intOpK, fI_eq']
      have : (Int.ofNat a - Int.ofNat b) = Int.ofNat (a - b) := by simp; omega
      rw [this]
      rfl
    · rfl
  case and =>
    refine nats_eq fun a b hx hy => ?_
    rw [ifC_eq]
    split
    · rename_i h1
      rw [ifC_eq]
      split
      · rename_i h2
        have h1 := Nat.le_of_ble_eq_true h1
        have h2 := Nat.le_of_ble_eq_true h2
        rw [fNC_eq, int2 hx hy]
        have g1 : Nat.blt a (top k) = true := by rw [Nat.blt_eq]; omega
        have g2 : Nat.blt b (top k) = true := by rw [Nat.blt_eq]; omega
        simp only [binK, if_true, intOpK, bitsA, g1, g2, fI_eq']
      · rfl
    · rfl
  case or =>
    refine nats_eq fun a b hx hy => ?_
    rw [ifC_eq]
    split
    · rename_i h1
      rw [ifC_eq]
      split
      · rename_i h2
        have h1 := Nat.le_of_ble_eq_true h1
        have h2 := Nat.le_of_ble_eq_true h2
        rw [fNC_eq, int2 hx hy]
        have g1 : Nat.blt a (top k) = true := by rw [Nat.blt_eq]; omega
        have g2 : Nat.blt b (top k) = true := by rw [Nat.blt_eq]; omega
        simp only [binK, if_true, intOpK, bitsA, g1, g2, fI_eq']
      · rfl
    · rfl
  case xor =>
    refine nats_eq fun a b hx hy => ?_
    rw [ifC_eq]
    split
    · rename_i h1
      rw [ifC_eq]
      split
      · rename_i h2
        have h1 := Nat.le_of_ble_eq_true h1
        have h2 := Nat.le_of_ble_eq_true h2
        rw [fNC_eq, int2 hx hy]
        have g1 : Nat.blt a (top k) = true := by rw [Nat.blt_eq]; omega
        have g2 : Nat.blt b (top k) = true := by rw [Nat.blt_eq]; omega
        simp only [binK, if_true, intOpK, bitsA, g1, g2, fI_eq']
      · rfl
    · rfl
  case shl =>
    show asIntC x S _ = S
    rcases asInt_cases x S (fun k1 a => asIntC y S fun _ b => ifC (Nat.beq (kIdx k1) (kIdx k)) (natC a S fun a => natC b S fun b => fitC k.signed k (top k) (Nat.mul a (Nat.pow 2 (Bool.rec k.bits b (Nat.ble b k.bits)))) S K) S) with ⟨k1, a, hx, e⟩ | e <;> rw [e]
    rcases asInt_cases y S (fun _ b => ifC (Nat.beq (kIdx k1) (kIdx k)) (natC a S fun a => natC b S fun b => fitC k.signed k (top k) (Nat.mul a (Nat.pow 2 (Bool.rec k.bits b (Nat.ble b k.bits)))) S K) S) with ⟨k2, b, hy, e⟩ | e <;> rw [e]
    rw [ifC_eq]
    split
    · rename_i h1
      have e1 := kIdx_inj (Nat.eq_of_beq_eq_true h1)
      subst e1
      cases a with
      | negSucc a => rfl
      | ofNat a =>
        cases b with
        | negSucc b => rfl
        | ofNat b =>
          refine fitC_eq (.inr rfl) ?_
          rw [int2 hx hy]
          simp only [binK, shiftA, fI_eq', bits_minN]
          rfl
    · rfl
  case shr =>
    show asIntC x S _ = S
    rcases asInt_cases x S (fun k1 a => asIntC y S fun _ b => ifC (Nat.beq (kIdx k1) (kIdx k)) (natC a S fun a => natC b S fun b => fNC (Nat.div a (Nat.pow 2 (Bool.rec k.bits b (Nat.ble b k.bits)))) fun s => K (.int k (.ofNat s))) S) with ⟨k1, a, hx, e⟩ | e <;> rw [e]
    rcases asInt_cases y S (fun _ b => ifC (Nat.beq (kIdx k1) (kIdx k)) (natC a S fun a => natC b S fun b => fNC (Nat.div a (Nat.pow 2 (Bool.rec k.bits b (Nat.ble b k.bits)))) fun s => K (.int k (.ofNat s))) S) with ⟨k2, b, hy, e⟩ | e <;> rw [e]
    rw [ifC_eq]
    split
    · rename_i h1
      have e1 := kIdx_inj (Nat.eq_of_beq_eq_true h1)
      subst e1
      cases a with
      | negSucc a => rfl
      | ofNat a =>
        cases b with
        | negSucc b => rfl
        | ofNat b =>
          rw [natC_of, natC_of, fNC_eq, int2 hx hy]
          simp only [binK, shiftA, fI_eq', bits_minN]
          rfl
    · rfl
  case quo =>
    refine nats_eq fun a b hx hy => ?_
    rw [ifC_eq]
    split
    · rename_i h1
      have h1 := Nat.le_of_ble_eq_true h1
      rw [ifC_eq]
      split
      · rename_i h2
        have h2 := Nat.le_of_ble_eq_true h2
        rw [fNC_eq, int2 hx hy]
        have g : ieq (Int.ofNat b) 0 = false := by
          cases b with
          | zero => omega
          | succ b => rfl
        have hw : wrapA k ((Int.ofNat a).tdiv (Int.ofNat b)) = Int.ofNat (a / b) := by
          have : (Int.ofNat a).tdiv (Int.ofNat b) = Int.ofNat (a / b) := rfl
          rw [this, wrapA_lt]
          have := Nat.div_le_self a b
          omega
        simp only [binK, if_true, intOpK, divA, g, fI_eq', hw]
        rfl
      · rfl
    · rfl
  case rem =>
    refine nats_eq fun a b hx hy => ?_
    rw [ifC_eq]
    split
    · rename_i h1
      have h1 := Nat.le_of_ble_eq_true h1
      rw [fNC_eq, int2 hx hy]
      have g : ieq (Int.ofNat b) 0 = false := by
        cases b with
        | zero => omega
        | succ b => rfl
      simp only [binK, if_true, intOpK, divA, g, fI_eq']
      rfl
    · rfl
  case eql => exact ints_eq fun a b hx hy => by rw [boolC_eq, ieqC_eq, int2 hx hy]; simp [binK, intOpK, cmpA, fB_eq']
  case neq => exact ints_eq fun a b hx hy => by rw [boolC_eq, notC_eq, ieqC_eq, int2 hx hy]; simp [binK, intOpK, cmpA, fB_eq']
  case lss => exact ints_eq fun a b hx hy => by rw [boolC_eq, notC_eq, ileC_eq, int2 hx hy]; simp [binK, intOpK, cmpA, fB_eq']
  case leq => exact ints_eq fun a b hx hy => by rw [boolC_eq, ileC_eq, int2 hx hy]; simp [binK, intOpK, cmpA, fB_eq']
  case gtr => exact ints_eq fun a b hx hy => by rw [boolC_eq, notC_eq, ileC_eq, int2 hx hy]; simp [binK, intOpK, cmpA, fB_eq']
  case geq => exact ints_eq fun a b hx hy => by rw [boolC_eq, ileC_eq, int2 hx hy]; simp [binK, intOpK, cmpA, fB_eq']
  all_goals rfl
end Go.Ac
namespace Go.Ac
open Go Go.Ai
set_option linter.unusedSimpArgs false
variable {P : Program}

theorem cEv_eq (x : Operand) (fr : Fr) (K : AV → OR) : (cEv x).f fr K = K (fr.eval x) := by
  cases x with
  | tmp t => simp only [cEv, Ev.f, pthC_eq]; exact gC_eq _ _ _
  | _ => rfl
theorem ev1_eq (x : Operand) (g : (AV → Heap → OR) → Heap → AV → OR) (call : CallK) (fr : Fr) (h : Heap) (K : AV → Heap → OR) : (ev1 x g).f call fr h K = g K h (fr.eval x) := by
  unfold ev1
  have := cEv_eq x fr (g K h)
  cases hx : cEv x with
  | mk f => rw [hx] at this; exact this
theorem ev2_eq (x y : Operand) (g : (AV → Heap → OR) → Heap → AV → AV → OR) (call : CallK) (fr : Fr) (h : Heap) (K : AV → Heap → OR) : (ev2 x y g).f call fr h K = g K h (fr.eval x) (fr.eval y) := by
  unfold ev2
  have h1 := fun K => cEv_eq x fr K
  have h2 := fun K => cEv_eq y fr K
  cases hx : cEv x with
  | mk f =>
    cases hy : cEv y with
    | mk f' =>
      rw [hx] at h1; rw [hy] at h2
      show f fr (fun a => f' fr (g K h a)) = _
      have e1 := h1 (fun a => f' fr (g K h a))
      have e2 := h2 (g K h (fr.eval x))
      simp only [Ev.f] at e1 e2
      rw [e1, e2]
theorem cArgs_eq : ∀ (xs : List Operand) (fr : Fr) (K : List AV → OR), (cArgs xs).f fr K = fArgs fr.eval xs K
  | [], _, _ => rfl
  | x :: xs, fr, K => by
    have ih := fun K => cArgs_eq xs fr K
    have h1 := fun K => cEv_eq x fr K
    simp only [fArgs, cArgs]
    cases hx : cEv x with
    | mk f =>
      cases hy : cArgs xs with
      | mk g =>
        rw [hx] at h1; rw [hy] at ih
        simp only [Ev.f, Evs.f] at h1 ih ⊢
        rw [h1, fK_eq]
        simp only [ih]
theorem binK_agg {t : TypeId} {d : TypeDesc} {ks : List Kd} {xs ys : List AV} (hu : P.underlying t = some d) (ha : isAggD d = true) (hg : P.eqGuardType P.depth t = false) (hk : plainKs P 30 t = some ks) :
    eqlK P t (.agg xs) (.agg ys) = fun (K : Bool → OR) => scsEqK ks xs ys K := by
  funext K
  unfold eqlK unK
  rw [hu]
  simp only
  cases d <;> simp [isAggD] at ha <;> simp only [isAggD, hg, hk]
theorem asInt_cases2 (v : AV) (no : OR) (K : IntKind → Int → OR) : (∃ k n, v = .int k n ∧ asIntC v no K = K k n) ∨ (asIntC v no K = no ∧ ∀ k n, v ≠ .int k n) := by
  cases v <;> first | exact .inr ⟨rfl, fun _ _ h => by cases h⟩ | exact .inl ⟨_, _, rfl, rfl⟩
theorem kEq_int_l {x y : AV} (h : ∀ k n, x ≠ .int k n) : kEq .i x y = none := by
  cases x <;> first | rfl | (exact absurd rfl (h _ _))
theorem kEq_int_r {x y : AV} (h : ∀ k n, y ≠ .int k n) : kEq .i x y = none := by
  cases y <;> first | (cases x <;> rfl) | (exact absurd rfl (h _ _))
theorem kEqC_eq (q : Kd) (x y : AV) (K : Bool → OR) : kEqC q x y none K = match kEq q x y with | some b => K b | none => none := by
  cases q with
  | i =>
    show asIntC x none (fun k a => asIntC y none fun k' b => ifC (Nat.beq (kIdx k) (kIdx k')) (K (ieqC a b)) none) = _
    rcases asInt_cases2 x none (fun k a => asIntC y none fun k' b => ifC (Nat.beq (kIdx k) (kIdx k')) (K (ieqC a b)) none) with ⟨k1, a, hx, e⟩ | ⟨e, hn⟩
    · rw [e]
      rcases asInt_cases2 y none (fun k' b => ifC (Nat.beq (kIdx k1) (kIdx k')) (K (ieqC a b)) none) with ⟨k2, b, hy, e⟩ | ⟨e, hn⟩
      · rw [e, hx, hy, ifC_eq, ieqC_eq]
        simp only [kEq]
        by_cases hk : k1 = k2
        · subst hk
          simp
        · have : ¬ (Nat.beq (kIdx k1) (kIdx k2) = true) := fun h => hk (kIdx_inj (Nat.eq_of_beq_eq_true h))
          rw [if_neg this, if_neg hk]
      · rw [e, kEq_int_r hn]
    · rw [e, kEq_int_l hn]
  | b => cases x <;> cases y <;> first | rfl | (rename_i a b; cases a <;> cases b <;> rfl)
  | s => rfl
theorem scsEqC_eq : ∀ (ks : List Kd) (x y : List AV) (K : Bool → OR), scsEqC ks x y K = scsEqK ks x y K
  | [], [], [], _ => rfl
  | [], [], _ :: _, _ => rfl
  | [], _ :: _, [], _ => rfl
  | [], _ :: _, _ :: _, _ => rfl
  | _ :: _, [], [], _ => rfl
  | _ :: _, [], _ :: _, _ => rfl
  | _ :: _, _ :: _, [], _ => rfl
  | q :: qs, a :: x, b :: y, K => by
    show kEqC q a b none (fun e => Bool.rec (match lenIs qs x y with | true => K false | false => none) (scsEqC qs x y K) e) = _
    rw [kEqC_eq, scsEqC_eq qs x y K]
    simp only [scsEqK]
    cases kEq q a b with
    | none => rfl
    | some e => cases e <;> rfl
end Go.Ac
namespace Go.Ac
open Go Go.Ai
set_option linter.unusedSimpArgs false
variable {P : Program}

theorem fitC_conv {k : IntKind} {n : Nat} {S : OR} {K : AV → OR} (h : S = K (.int k (wrapA k (.ofNat n)))) : fitC k.signed k (top k) n S K = S := fitC_eq (.inr rfl) h
theorem slow_eq (o : Oper) (call : CallK) (fr : Fr) (h : Heap) (K : AV → Heap → OR) : (cSlow P o).f call fr h K = opK P call fr.eval o h K := rfl
theorem ok_bad {v : AV} {K : AV → OR} (h : avBad v = false) : v.okK K = K v := by rw [okK_eq, h]; rfl

theorem cPure_eq (o : Oper) (hc : cls P o = .p) (call : CallK) (fr : Fr) (h : Heap) (K : AV → Heap → OR) : (cPure P o).f call fr h K = pureK P fr.eval o fun v => K v h := by
  have slow : (cSlow P o).f call fr h K = pureK P fr.eval o fun v => K v h := by rw [slow_eq]; simp only [opK, hc]
  unfold cPure
  cases hop : o.op
  case move x => simp only [ev1_eq]; unfold pureK; simp only [hop, fK_eq]
  case assign x => simp only [ev1_eq]; unfold pureK; simp only [hop, fK_eq]
  case nilCheck x =>
    simp only [ev1_eq]; unfold pureK; simp only [hop]
    cases fr.eval x <;> rfl
  case binOp op t x y p =>
    have gen : (ev2 x y fun K h a b => a.okK fun a => b.okK fun b => binK P op t a b fun v => K v h).f call fr h K = pureK P fr.eval o fun v => K v h := by
      rw [ev2_eq]; unfold pureK; simp only [hop]
    simp only
    split
    · rename_i k hk
      have := cBin_eq (P := P) op t k (fr.eval x) (fr.eval y) fun v => K v h
      cases hg : cBin op k with
      | mk g =>
        rw [hg] at this
        simp only [Bin.f] at this
        simp only
        rw [ev2_eq, this]
        unfold pureK
        simp only [hop]
    · rename_i d hk hu
      split
      · rename_i ks ha hg hks
        rw [ev2_eq]
        rw [← gen, ev2_eq]
        rcases asAgg_cases (fr.eval x) ((fr.eval x).okK fun a => (fr.eval y).okK fun b => binK P .eql t a b fun v => K v h) (fun xs => asAggC (fr.eval y) ((fr.eval x).okK fun a => (fr.eval y).okK fun b => binK P .eql t a b fun v => K v h) fun ys => scsEqC ks xs ys fun e => K (.bool e) h) with ⟨xs, hx, e⟩ | ⟨e, _⟩ <;> rw [e]
        rcases asAgg_cases (fr.eval y) ((fr.eval x).okK fun a => (fr.eval y).okK fun b => binK P .eql t a b fun v => K v h) (fun ys => scsEqC ks xs ys fun e => K (.bool e) h) with ⟨ys, hy, e⟩ | ⟨e, _⟩ <;> rw [e]
        rw [hx, hy, scsEqC_eq]
        simp only [AV.okK, binK, binK_agg hu ha hg hks]
      · rename_i ks ha hg hks
        rw [ev2_eq]
        rw [← gen, ev2_eq]
        rcases asAgg_cases (fr.eval x) ((fr.eval x).okK fun a => (fr.eval y).okK fun b => binK P .neq t a b fun v => K v h) (fun xs => asAggC (fr.eval y) ((fr.eval x).okK fun a => (fr.eval y).okK fun b => binK P .neq t a b fun v => K v h) fun ys => scsEqC ks xs ys fun e => Bool.rec (K (.bool true) h) (K (.bool false) h) e) with ⟨xs, hx, e⟩ | ⟨e, _⟩ <;> rw [e]
        rcases asAgg_cases (fr.eval y) ((fr.eval x).okK fun a => (fr.eval y).okK fun b => binK P .neq t a b fun v => K v h) (fun ys => scsEqC ks xs ys fun e => Bool.rec (K (.bool true) h) (K (.bool false) h) e) with ⟨ys, hy, e⟩ | ⟨e, _⟩ <;> rw [e]
        rw [hx, hy, scsEqC_eq]
        simp only [AV.okK, binK, binK_agg hu ha hg hks]
        congr 1
        funext b
        cases b <;> rfl
      · exact gen
    · exact gen
  case pick c a b =>
    have h1 := fun K => cEv_eq a fr K
    have h2 := fun K => cEv_eq b fr K
    have h3 := fun K => cEv_eq c fr K
    unfold pureK
    simp only [hop]
    cases ha : cEv a with
    | mk f =>
      cases hb : cEv b with
      | mk g =>
        cases hcc : cEv c with
        | mk e =>
          rw [ha] at h1; rw [hb] at h2; rw [hcc] at h3
          simp only [Ev.f] at h1 h2 h3
          simp only [OpV.f, h1, h2, h3, fK_eq]
          cases fr.eval c <;> first | rfl | (rename_i b; cases b <;> rfl)
  case unOp op t x => simp only [ev1_eq]; unfold pureK; simp only [hop]
  case fieldAddr s x f =>
    simp only
    split
    · rename_i fs hs
      split
      · rename_i fd hfd
        split
        · rename_i ti hti
          split
          · exact slow
          · rename_i m hm
            rw [fNO_eq, ev1_eq]
            unfold pureK
            simp only [hop]
            rcases asPtr_cases (fr.eval x) ((fr.eval x).okK fun a => fieldAddrK P s a f fun v => K v h) (fun k off => fNC (Nat.add off fd.offset) fun o => K (.ptr k o) h) with ⟨k, off, hx, e⟩ | ⟨e, _⟩ <;> rw [e]
            rw [hx, fNC_eq]
            simp only [AV.okK, fieldAddrK, unK, hs, hfd, szK, hti, fN_eq', hm]
            rfl
        · exact slow
      · exact slow
    · exact slow
  case indexAddr t x i =>
    simp only
    split
    · rename_i len elem ht
      split
      · rename_i s hs
        rw [fNO_eq, fNO_eq, ev2_eq]
        unfold pureK
        simp only [hop]
        generalize hS : ((fr.eval x).okK fun a => (fr.eval i).okK fun b => indexAddrK P t a b fun v => K v h) = S
        rcases asPtr_cases (fr.eval x) S (fun k off => asIntC (fr.eval i) S fun _ i => natC i none fun i => ifC (Nat.ble (Nat.succ i) len) (fNC (Nat.add off (Nat.mul i s.size)) fun o => K (.ptr k o) h) none) with ⟨k, off, hx, e⟩ | ⟨e, _⟩ <;> rw [e]
        rcases asInt_cases (fr.eval i) S (fun _ i => natC i none fun i => ifC (Nat.ble (Nat.succ i) len) (fNC (Nat.add off (Nat.mul i s.size)) fun o => K (.ptr k o) h) none) with ⟨k2, n, hi, e⟩ | e <;> rw [e]
        rw [← hS, hx, hi]
        simp only [AV.okK, indexAddrK, asI, unK, ht]
        cases n with
        | negSucc n => rfl
        | ofNat n =>
          rw [natC_of, ifC_eq]
          simp only [idxK, szK, hs, fN_eq', fNC_eq]
          cases hb : Nat.ble (Nat.succ n) len with
          | true => have : Nat.blt n len = true := hb
                    rw [this]; rfl
          | false => have : Nat.blt n len = false := hb
                     rw [this]; rfl
      · exact slow
    · rename_i elem ht
      split
      · rename_i s hs
        rw [fNO_eq, ev2_eq]
        unfold pureK
        simp only [hop]
        generalize hS : ((fr.eval x).okK fun a => (fr.eval i).okK fun b => indexAddrK P t a b fun v => K v h) = S
        rcases asInt_cases2 (fr.eval i) S (fun _ n => asElemC (fr.eval x) S (fun _ _ => none) fun k off len => natC n none fun i => ifC (Nat.ble (Nat.succ i) len) (fNC (Nat.add off (Nat.mul i s.size)) fun o => K (.ptr k o) h) none) with ⟨k2, n, hi, e⟩ | ⟨e, _⟩ <;> rw [e]
        have fin : ∀ (k off len : Nat), S = (indexAddrK P t (.slice k off len len) (.int k2 n) fun v => K v h) → (natC n none fun i => ifC (Nat.ble (Nat.succ i) len) (fNC (Nat.add off (Nat.mul i s.size)) fun o => K (.ptr k o) h) none) = S := by
          intro k off len hS
          rw [hS]
          simp only [indexAddrK, asI, unK, ht]
          cases n with
          | negSucc n => rfl
          | ofNat n =>
            rw [natC_of, ifC_eq]
            simp only [idxK, szK, hs, fN_eq', fNC_eq]
            cases hb : Nat.ble (Nat.succ n) len with
            | true => have : Nat.blt n len = true := hb
                      rw [this]; rfl
            | false => have : Nat.blt n len = false := hb
                       rw [this]; rfl
        have none_of : (∀ K : AV → OR, indexAddrK P t (fr.eval x) (.int k2 n) K = none) → avBad (fr.eval x) = false → none = S := by
          intro h1 h2
          rw [← hS, ok_bad h2, hi]
          simp only [AV.okK, h1]
        cases hx : fr.eval x with
        | slice k off len cap =>
          refine fin k off len ?_
          rw [← hS, hx, hi]
          simp only [AV.okK, indexAddrK, asI, unK, ht]
        | eslice k off i0 len =>
          refine fin k off len ?_
          rw [← hS, hx, hi]
          simp only [AV.okK, indexAddrK, asI, unK, ht]
        | ptr k off =>
          show none = S
          refine none_of (fun K => ?_) (by rw [hx]; rfl)
          rw [hx]; simp only [indexAddrK, asI, unK, ht]
        | _ => rfl
      · exact slow
    · exact slow
  case field s x f => simp only [ev1_eq]; unfold pureK; simp only [hop]
  case index t x i => simp only [ev2_eq]; unfold pureK; simp only [hop]
  case slice t x lo hi mx => unfold pureK; simp only [hop]; rfl
  case extract x i =>
    simp only [ev1_eq]; unfold pureK; simp only [hop]
    cases fr.eval x <;> first | rfl | (simp only; exact lgetC_eq _ _ _)
  case convert s d x =>
    have gen : (ev1 x fun K h a => a.okK fun a => convPureK P s d a fun v => K v h).f call fr h K = pureK P fr.eval o fun v => K v h := by
      rw [ev1_eq]; unfold pureK; simp only [hop]
    simp only
    split
    · rename_i k1 k hs hd
      rw [← gen, ev1_eq, ev1_eq]
      generalize hS : ((fr.eval x).okK fun a => convPureK P s d a fun v => K v h) = S
      rcases asInt_cases (fr.eval x) S (fun _ n => natC n S fun n => fitC k.signed k (top k) n S fun v => K v h) with ⟨k2, n, hx, e⟩ | e <;> rw [e]
      cases n with
      | negSucc n => rfl
      | ofNat n =>
        rw [natC_of]
        refine fitC_conv ?_
        rw [← hS, hx]
        simp only [AV.okK, convPureK, unK, hs, hd, fI_eq']
    · exact gen
  case call c =>
    simp only
    cases hcal : c.callee with
    | builtin b =>
      cases b
      case len =>
        simp only
        split
        · rename_i t x ht hx
          rw [ev1_eq]; unfold pureK; simp only [hop, hcal, ht, hx]
        · rfl
      all_goals rfl
    | value f => rfl
    | invoke r m => rfl
  all_goals rfl
end Go.Ac
