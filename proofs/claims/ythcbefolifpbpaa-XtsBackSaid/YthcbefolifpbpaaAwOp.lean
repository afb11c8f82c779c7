import Derived.Test.YthcbefolifpbpaaAwWalk
namespace Go.Aw
open Go Go.Ai
set_option linter.unusedSimpArgs false
variable {P : Program} {β : Type}

/-! what each operation gives -/
section
variable {call : CallK} {ρ : Operand → AV} {d : Option Tmp} {t : TypeId} {p : String} {a : Array Edge} {g : Option (Nat × Bool)} {h : Heap}
theorem okv_bool (b : Bool) : okv (.bool b) = some (.bool b) := rfl
theorem okv_int (k : IntKind) (n : Int) : okv (.int k n) = some (.int k n) := rfl
theorem okv_str (s : List UInt8) : okv (.str s) = some (.str s) := rfl
theorem okv_ptr (k o : Nat) : okv (.ptr k o) = some (.ptr k o) := rfl
theorem okv_nilptr : okv .nilptr = some .nilptr := rfl
theorem okv_slice (k o l c : Nat) : okv (.slice k o l c) = some (.slice k o l c) := rfl
theorem okv_eslice (k o l c : Nat) : okv (.eslice k o l c) = some (.eslice k o l c) := rfl
theorem okv_nilslice : okv .nilslice = some .nilslice := rfl
theorem okv_map (k : Nat) : okv (.map k) = some (.map k) := rfl
theorem okv_nilmap : okv .nilmap = some .nilmap := rfl
theorem okv_func (f : Fn) (a c : List AV) : okv (.func f a c) = some (.func f a c) := rfl
theorem okv_nilfunc : okv .nilfunc = some .nilfunc := rfl
theorem okv_iface (t : TypeId) (v : AV) : okv (.iface t v) = some (.iface t v) := rfl
theorem okv_niliface : okv .niliface = some .niliface := rfl
theorem okv_agg (cs : List AV) : okv (.agg cs) = some (.agg cs) := rfl
theorem okv_tup (cs : List AV) : okv (.tup cs) = some (.tup cs) := rfl
theorem opE_move (x : Operand) : opE P call ρ ⟨d, .move x, t, p, a, g⟩ h = th (okv (ρ x)) fun v => some (v, h) := by
  show ((ρ x).fK fun v => p2 v h) = _
  exact fK_E _ _
theorem opE_assign (x : Operand) : opE P call ρ ⟨d, .assign x, t, p, a, g⟩ h = th (okv (ρ x)) fun v => some (v, h) := by
  show ((ρ x).fK fun v => p2 v h) = _
  exact fK_E _ _
def pickE : AV → AV → AV → Option AV
  | .bool true, a, _ => okv a
  | .bool false, _, b => okv b
  | _, _, _ => none
theorem pickE_true (a b : AV) : pickE (.bool true) a b = okv a := rfl
theorem pickE_false (a b : AV) : pickE (.bool false) a b = okv b := rfl
theorem opE_pick (c x y : Operand) : opE P call ρ ⟨d, .pick c x y, t, p, a, g⟩ h = th (pickE (ρ c) (ρ x) (ρ y)) fun v => some (v, h) := by
  show (match ρ c with | .bool true => (ρ x).fK fun v => p2 v h | .bool false => (ρ y).fK fun v => p2 v h | _ => none) = _
  cases ρ c <;> try rfl
  rename_i b
  cases b <;> exact fK_E _ _
theorem opE_build (u : TypeId) (ps : Array (Nat × Operand)) : opE P call ρ ⟨d, .build u ps, t, p, a, g⟩ h = th (okvs ((ps.toList.map (·.2)).map ρ)) fun vs => th (buildE P u ((ps.toList.map (·.1)).zip vs)) fun v => some (v, h) := by
  show (fArgs ρ (ps.toList.map (·.2)) fun vs => buildK P u ((ps.toList.map (·.1)).zip vs) fun v => p2 v h) = _
  rw [fArgs_E]; exact th_congr _ fun vs => buildK_E ..
def nilE : AV → Option AV
  | .ptr k o => some (.ptr k o)
  | .func (.func f) a c => some (.func (.func f) a c)
  | _ => none
theorem nilE_ptr (k o : Nat) : nilE (.ptr k o) = some (.ptr k o) := rfl
theorem nilE_func (f : Nat) (a c : List AV) : nilE (.func (.func f) a c) = some (.func (.func f) a c) := rfl
theorem opE_nilCheck (x : Operand) : opE P call ρ ⟨d, .nilCheck x, t, p, a, g⟩ h = th (nilE (ρ x)) fun v => some (v, h) := by
  show (match ρ x with | .ptr k o => p2 (.ptr k o) h | .func (.func f) a c => p2 (.func (.func f) a c) h | _ => none) = _
  cases ρ x <;> try rfl
  rename_i f _ _
  cases f <;> rfl
theorem opE_binOp (op : BinOp) (u v : TypeId) (x y : Operand) : opE P call ρ ⟨d, .binOp op u x y v, t, p, a, g⟩ h = th (okv (ρ x)) fun x => th (okv (ρ y)) fun y => th (binE P op u x y) fun v => some (v, h) := by
  show ((ρ x).okK fun a => (ρ y).okK fun b => binK P op u a b fun v => p2 v h) = _
  simp only [okK_E]; exact th_congr _ fun _ => th_congr _ fun _ => binK_E ..
theorem opE_unOp (op : UnOp) (u : TypeId) (x : Operand) : opE P call ρ ⟨d, .unOp op u x, t, p, a, g⟩ h = th (okv (ρ x)) fun x => th (unE op x) fun v => some (v, h) := by
  show ((ρ x).okK fun a => unA op a fun v => p2 v h) = _
  simp only [okK_E]; exact th_congr _ fun _ => unA_E ..
theorem opE_arrayAt (u : TypeId) (x : Operand) : opE P call ρ ⟨d, .sliceToArrayPointer u x, t, p, a, g⟩ h = th (okv (ρ x)) fun x => th (arrayAtE P u x) fun v => some (v, h) := by
  show ((ρ x).okK fun a => arrayAtK P u a fun v => p2 v h) = _
  simp only [okK_E]; exact th_congr _ fun _ => arrayAtK_E ..
theorem opE_makeFunc (f : Fn) (x y : Array Operand) : opE P call ρ ⟨d, .makeFunc f x y, t, p, a, g⟩ h = th (okvs (x.toList.map ρ)) fun x => th (okvs (y.toList.map ρ)) fun y => some (.func f x y, h) := by
  show (fArgs ρ x.toList fun f' => fArgs ρ y.toList fun c => p2 (.func f f' c) h) = _
  simp only [fArgs_E]; rfl
theorem opE_slice (u : TypeId) (x : Operand) (lo hi mx : Option Operand) : opE P call ρ ⟨d, .slice u x lo hi mx, t, p, a, g⟩ h = th (okv (ρ x)) fun x => th (sliceE P u x (lo.map ρ) (hi.map ρ) (mx.map ρ)) fun v => some (v, h) := by
  show ((ρ x).okK fun a => sliceK P u a (lo.map ρ) (hi.map ρ) (mx.map ρ) fun v => p2 v h) = _
  simp only [okK_E]; exact th_congr _ fun _ => sliceK_E ..
theorem opE_fieldAddr (u : TypeId) (x : Operand) (f : Nat) : opE P call ρ ⟨d, .fieldAddr u x f, t, p, a, g⟩ h = th (okv (ρ x)) fun x => th (fieldAddrE P u x f) fun v => some (v, h) := by
  show ((ρ x).okK fun a => fieldAddrK P u a f fun v => p2 v h) = _
  simp only [okK_E]; exact th_congr _ fun _ => fieldAddrK_E ..
theorem opE_field (u : TypeId) (x : Operand) (f : Nat) : opE P call ρ ⟨d, .field u x f, t, p, a, g⟩ h = th (okv (ρ x)) fun x => th (fieldE P u x f) fun v => some (v, h) := by
  show ((ρ x).okK fun a => fieldK P u a f fun v => p2 v h) = _
  simp only [okK_E]; exact th_congr _ fun _ => fieldK_E ..
theorem opE_indexAddr (u : TypeId) (x i : Operand) : opE P call ρ ⟨d, .indexAddr u x i, t, p, a, g⟩ h = th (okv (ρ x)) fun x => th (okv (ρ i)) fun i => th (indexAddrE P u x i) fun v => some (v, h) := by
  show ((ρ x).okK fun a => (ρ i).okK fun b => indexAddrK P u a b fun v => p2 v h) = _
  simp only [okK_E]; exact th_congr _ fun _ => th_congr _ fun _ => indexAddrK_E ..
theorem opE_index (u : TypeId) (x i : Operand) : opE P call ρ ⟨d, .index u x i, t, p, a, g⟩ h = th (okv (ρ x)) fun x => th (okv (ρ i)) fun i => th (indexE P u x i) fun v => some (v, h) := by
  show ((ρ x).okK fun a => (ρ i).okK fun b => indexK P u a b fun v => p2 v h) = _
  simp only [okK_E]; exact th_congr _ fun _ => th_congr _ fun _ => indexK_E ..
def extE : AV → Nat → Option AV
  | .tup vs, i => vs[i]?
  | _, _ => none
theorem extE_tup (vs : List AV) (i : Nat) : extE (.tup vs) i = vs[i]? := rfl
theorem opE_extract (x : Operand) (i : Nat) : opE P call ρ ⟨d, .extract x i, t, p, a, g⟩ h = th (extE (ρ x) i) fun v => some (v, h) := by
  show (match ρ x with | .tup vs => lget vs i none fun v => p2 v h | _ => none) = _
  cases ρ x <;> try rfl
  simp only [lget_E]; rfl
theorem opE_len (c : Call) (hc : c.callee = .builtin .len) {u : TypeId} {x : Operand} (hu : c.argTypes[0]? = some u) (hx : c.args[0]? = some x) {ud : TypeDesc} (hud : P.underlying u = some ud) (hm : isMapD ud = false) :
    opE P call ρ ⟨d, .call c, t, p, a, g⟩ h = th (okv (ρ x)) fun x => th (lenE P u x) fun v => some (v, h) := by
  obtain ⟨cc, ca, ct⟩ := c
  simp only at hc hu hx
  subst hc
  have : cls P ⟨d, .call ⟨.builtin .len, ca, ct⟩, t, p, a, g⟩ = .p := by simp [cls, hu, hud, hm]
  unfold opE opK
  rw [this]
  simp only [pureK, hu, hx, okK_E]
  exact th_congr _ fun _ => lenK_E ..
theorem opE_min (c : Call) (hc : c.callee = .builtin .min) : opE P call ρ ⟨d, .call c, t, p, a, g⟩ h = th (okvs (c.args.toList.map ρ)) fun vs => th (minMaxK false vs some) fun v => some (v, h) := by
  obtain ⟨cc, ca, ct⟩ := c
  simp only at hc
  subst hc
  show (fArgs ρ ca.toList fun vs => minMaxK false vs fun v => p2 v h) = _
  simp only [fArgs_E]; exact th_congr _ fun _ => minMaxK_E ..
theorem opE_load (u : TypeId) (x : Operand) : opE P call ρ ⟨d, .load u x, t, p, a, g⟩ h = th (okv (ρ x)) fun x => th (loadE P h u x) fun v => some (v, h) := by
  show ((ρ x).okK fun a => loadK P h u a fun v => p2 v h) = _
  simp only [okK_E]; exact th_congr _ fun _ => loadK_E ..
theorem opE_lookup (u : TypeId) (x i : Operand) (ok : Bool) : opE P call ρ ⟨d, .lookup u x i ok, t, p, a, g⟩ h = th (okv (ρ x)) fun x => th (okv (ρ i)) fun i => th (lookupE P h u x i ok) fun v => some (v, h) := by
  show ((ρ x).okK fun a => (ρ i).okK fun b => lookupK P h u a b ok fun v => p2 v h) = _
  simp only [okK_E]; exact th_congr _ fun _ => th_congr _ fun _ => lookupK_E ..
theorem opE_alloc (u : TypeId) : opE P call ρ ⟨d, .alloc u, t, p, a, g⟩ h = th (zeroE P u) fun v => some (.ptr h.next 0, h.new (.cells v.cells 0 false)) := by
  show (zeroK P u fun v => v.cellsK fun cs => h.newK (.cells cs 0 false) fun k h => (AV.ptr k 0).fK fun v => p2 v h) = _
  simp only [zeroK_E, cellsK_eq, newK_E, fK_E]
  rfl
theorem opE_box (u : TypeId) (x : Operand) : opE P call ρ ⟨d, .box u x, t, p, a, g⟩ h = th (okv (ρ x)) fun v => some (.ptr h.next 0, h.new (.cells v.cells 0 false)) := by
  show ((ρ x).fK fun v => v.cellsK fun cs => h.newK (.cells cs 0 false) fun k h => (AV.ptr k 0).fK fun v => p2 v h) = _
  simp only [fK_E, cellsK_eq, newK_E]
  rfl
theorem opE_store (u : TypeId) (x y : Operand) : opE P call ρ ⟨d, .store u x y, t, p, a, g⟩ h = th (okv (ρ y)) fun v => th (okv (ρ x)) fun x => th (storeE P h u x v) fun h => some (undefA, h) := by
  show ((ρ y).fK fun v => (ρ x).okK fun a => storeK P h u a v fun h => p2 undefA h) = _
  simp only [okK_E, fK_E]; exact th_congr _ fun _ => th_congr _ fun _ => storeK_E ..
theorem opE_mapUpdate (u : TypeId) (m k v : Operand) : opE P call ρ ⟨d, .mapUpdate u m k v, t, p, a, g⟩ h = th (okv (ρ k)) fun k => th (okv (ρ v)) fun v => th (okv (ρ m)) fun m => th (mapUpdateE P h u m k v) fun h => some (undefA, h) := by
  show ((ρ k).fK fun k => (ρ v).fK fun v => (ρ m).okK fun m => mapUpdateK P h u m k v fun h => p2 undefA h) = _
  simp only [okK_E, fK_E]; exact th_congr _ fun _ => th_congr _ fun _ => th_congr _ fun _ => mapUpdateK_E ..
/-- a call of a function value -/
def callE (call : CallK) (fv : AV) (vs : List AV) (h : Heap) : Option (AV × Heap) := match fv with
  | .func (.func f) first cap => call f (first ++ vs ++ cap) h
  | _ => none
theorem callE_func (f : Nat) (a c vs : List AV) : callE call (.func (.func f) a c) vs h = call f (a ++ vs ++ c) h := rfl
theorem opE_call (f : Operand) (xs : Array Operand) (ts : Array TypeId) : opE P call ρ ⟨d, .call ⟨.value f, xs, ts⟩, t, p, a, g⟩ h = th (okvs (xs.toList.map ρ)) fun vs => th (okv (ρ f)) fun fv => callE call fv vs h := by
  show (fArgs ρ xs.toList fun vs => (ρ f).okK fun fv => (match fv with
      | .func (.func f) first cap => lapp first vs fun vs => lapp vs cap fun vs => (match call f vs h with | some (v, h) => p2 v h | none => none)
      | _ => none)) = _
  simp only [fArgs_E, okK_E, lapp_eq]
  refine th_congr _ fun vs => th_congr _ fun fv => ?_
  cases fv <;> try rfl
  rename_i fn _ _
  cases fn <;> try rfl
  simp only [callE]
  split <;> simp_all [p2]
end
/-! classes -/
section
variable {d : Option Tmp} {t : TypeId} {p : String} {a : Array Edge} {g : Option (Nat × Bool)}
theorem cls_move (x : Operand) : cls P ⟨d, .move x, t, p, a, g⟩ = .p := rfl
theorem cls_assign (x : Operand) : cls P ⟨d, .assign x, t, p, a, g⟩ = .p := rfl
theorem cls_pick (x y z : Operand) : cls P ⟨d, .pick x y z, t, p, a, g⟩ = .p := rfl
theorem cls_build (u : TypeId) (x : Array (Nat × Operand)) : cls P ⟨d, .build u x, t, p, a, g⟩ = .p := rfl
theorem cls_nilCheck (x : Operand) : cls P ⟨d, .nilCheck x, t, p, a, g⟩ = .p := rfl
theorem cls_binOp (op : BinOp) (u v : TypeId) (x y : Operand) : cls P ⟨d, .binOp op u x y v, t, p, a, g⟩ = .p := rfl
theorem cls_unOp (op : UnOp) (u : TypeId) (x : Operand) : cls P ⟨d, .unOp op u x, t, p, a, g⟩ = .p := rfl
theorem cls_arrayAt (u : TypeId) (x : Operand) : cls P ⟨d, .sliceToArrayPointer u x, t, p, a, g⟩ = .p := rfl
theorem cls_makeFunc (f : Fn) (x y : Array Operand) : cls P ⟨d, .makeFunc f x y, t, p, a, g⟩ = .p := rfl
theorem cls_slice (u : TypeId) (x : Operand) (lo hi mx : Option Operand) : cls P ⟨d, .slice u x lo hi mx, t, p, a, g⟩ = .p := rfl
theorem cls_fieldAddr (u : TypeId) (x : Operand) (f : Nat) : cls P ⟨d, .fieldAddr u x f, t, p, a, g⟩ = .p := rfl
theorem cls_field (u : TypeId) (x : Operand) (f : Nat) : cls P ⟨d, .field u x f, t, p, a, g⟩ = .p := rfl
theorem cls_indexAddr (u : TypeId) (x y : Operand) : cls P ⟨d, .indexAddr u x y, t, p, a, g⟩ = .p := rfl
theorem cls_index (u : TypeId) (x y : Operand) : cls P ⟨d, .index u x y, t, p, a, g⟩ = .p := rfl
theorem cls_extract (x : Operand) (i : Nat) : cls P ⟨d, .extract x i, t, p, a, g⟩ = .p := rfl
theorem cls_typeAssert (x : Operand) (u v : TypeId) (b : Bool) : cls P ⟨d, .typeAssert x u v b, t, p, a, g⟩ = .p := rfl
theorem cls_load (u : TypeId) (x : Operand) : cls P ⟨d, .load u x, t, p, a, g⟩ = .r := rfl
theorem cls_lookup (u : TypeId) (x y : Operand) (b : Bool) : cls P ⟨d, .lookup u x y b, t, p, a, g⟩ = .r := rfl
theorem cls_alloc (u : TypeId) : cls P ⟨d, .alloc u, t, p, a, g⟩ = .a := rfl
theorem cls_box (u : TypeId) (x : Operand) : cls P ⟨d, .box u x, t, p, a, g⟩ = .a := rfl
theorem cls_store (u : TypeId) (x y : Operand) : cls P ⟨d, .store u x y, t, p, a, g⟩ = .e := rfl
theorem cls_mapUpdate (u : TypeId) (x y z : Operand) : cls P ⟨d, .mapUpdate u x y z, t, p, a, g⟩ = .e := rfl
theorem cls_call (f : Operand) (xs : Array Operand) (ts : Array TypeId) : cls P ⟨d, .call ⟨.value f, xs, ts⟩, t, p, a, g⟩ = .e := rfl
end
/-! words on values -/
theorem okvs_nil : okvs [] = some [] := rfl
theorem okvs_cons (v : AV) (vs : List AV) : okvs (v :: vs) = th (okv v) fun v => th (okvs vs) fun vs => some (v :: vs) := rfl
theorem ev_tmp (σ : Sg) (t : Nat) : ev σ (.tmp t) = σ t := rfl
theorem argS_at (args : List AV) (t : Nat) : argS args t = args.getD t undefA := rfl
theorem ev_const (σ : Sg) (v : Value) : ev σ (.const v) = ofV v := rfl
theorem ev_func (σ : Sg) (f : Nat) : ev σ (.func f) = .func (.func f) [] [] := rfl
theorem ofV_bool (b : Bool) : ofV (.bool b) = .bool b := rfl
theorem ofV_int (k : IntKind) (n : Int) : ofV (.int k n) = .int k n := rfl
theorem ofV_nilptr : ofV (.pointer none) = .nilptr := rfl
theorem ofV_nilslice : ofV (.slice none 0 0) = .nilslice := rfl
theorem ofV_agg {cs : Array Value} {xs : List AV} (h : ofSs cs.toList = some xs) : ofV (.agg cs) = .agg xs := by simp [ofV, h]
/-! numbers -/
theorem ile_eq (a b : Int) : ile a b = decide (a ≤ b) := by
  cases a <;> cases b <;> simp only [ile]
  · rename_i a b
    rw [Bool.eq_iff_iff]; simp only [Nat.ble_eq, decide_eq_true_eq]
    exact (Int.ofNat_le).symm
  · simp; omega
  · simp; omega
  · rename_i a b
    rw [Bool.eq_iff_iff]; simp only [Nat.ble_eq, decide_eq_true_eq]
    omega
variable {u : TypeId} {k : IntKind}
theorem bin_add (x y : Int) : binE P .add u (.int k x) (.int k y) = some (.int k (wrapA k (x + y))) := by simp [binE, binK, intOpK]
theorem bin_sub (x y : Int) : binE P .sub u (.int k x) (.int k y) = some (.int k (wrapA k (x - y))) := by simp [binE, binK, intOpK]
theorem bin_mul (x y : Int) : binE P .mul u (.int k x) (.int k y) = some (.int k (wrapA k (x * y))) := by simp [binE, binK, intOpK]
theorem bin_eql (x y : Int) : binE P .eql u (.int k x) (.int k y) = some (.bool (decide (x = y))) := by simp [binE, binK, intOpK, cmpA, ieq_eq]; rfl
theorem bin_neq (x y : Int) : binE P .neq u (.int k x) (.int k y) = some (.bool (!decide (x = y))) := by simp [binE, binK, intOpK, cmpA, ieq_eq]; rfl
theorem bin_lss (x y : Int) : binE P .lss u (.int k x) (.int k y) = some (.bool (decide (x < y))) := by simp only [binE, binK, intOpK, cmpA, ile_eq, fB_eq, if_true]; congr 2; rw [Bool.eq_iff_iff]; simp
theorem bin_leq (x y : Int) : binE P .leq u (.int k x) (.int k y) = some (.bool (decide (x ≤ y))) := by simp [binE, binK, intOpK, cmpA, ile_eq]
theorem bin_gtr (x y : Int) : binE P .gtr u (.int k x) (.int k y) = some (.bool (decide (y < x))) := by simp only [binE, binK, intOpK, cmpA, ile_eq, fB_eq, if_true]; congr 2; rw [Bool.eq_iff_iff]; simp
theorem bin_geq (x y : Int) : binE P .geq u (.int k x) (.int k y) = some (.bool (decide (y ≤ x))) := by simp [binE, binK, intOpK, cmpA, ile_eq]
theorem wrapA_nat {k : IntKind} {x : Int} (h0 : 0 ≤ x) (h1 : x < top k) : wrapA k x = x := by
  obtain ⟨n, rfl⟩ := Int.eq_ofNat_of_zero_le h0
  have : Nat.blt n (top k) = true := Nat.blt_eq.mpr (by exact_mod_cast h1)
  show (match Nat.blt n (top k) with | true => Int.ofNat n | false => k.wrap (Int.ofNat n)) = _
  rw [this]; rfl
theorem wrap_i64 {x : Int} (h0 : 0 ≤ x) (h1 : x < 9223372036854775808) : wrapA .i64 x = x := wrapA_nat h0 h1
theorem wrap_u64 {x : Int} (h0 : 0 ≤ x) (h1 : x < 18446744073709551616) : wrapA .u64 x = x := wrapA_nat h0 h1
theorem wrap_u8 {x : Int} (h0 : 0 ≤ x) (h1 : x < 256) : wrapA .u8 x = x := wrapA_nat h0 h1
theorem wrap_u32 {x : Int} (h0 : 0 ≤ x) (h1 : x < 4294967296) : wrapA .u32 x = x := wrapA_nat h0 h1
theorem bin_shr {k k' : IntKind} {x y : Int} (hx : 0 ≤ x) (hy : 0 ≤ y) (hb : y ≤ k.bits) : binE P .shr u (.int k x) (.int k' y) = some (.int k (x / 2 ^ y.toNat)) := by
  obtain ⟨a, rfl⟩ := Int.eq_ofNat_of_zero_le hx
  obtain ⟨m, rfl⟩ := Int.eq_ofNat_of_zero_le hy
  have hm : m ≤ k.bits := by exact_mod_cast hb
  have e : minN m k.bits = m := by simp only [minN, Nat.ble_eq_true_of_le hm]
  show (match (some (Int.ofNat (a / 2 ^ minN m k.bits)) : Option Int) with | some n => fI n fun n => some (AV.int k n) | none => none) = _
  rw [e]
  simp only [fI_eq]
  simp
theorem bin_shl {k k' : IntKind} {x y : Int} (hy : 0 ≤ y) (hb : y ≤ k.bits) : binE P .shl u (.int k x) (.int k' y) = some (.int k (wrapA k (x * 2 ^ y.toNat))) := by
  obtain ⟨m, rfl⟩ := Int.eq_ofNat_of_zero_le hy
  have hm : m ≤ k.bits := by exact_mod_cast hb
  have e : minN m k.bits = m := by simp only [minN, Nat.ble_eq_true_of_le hm]
  show (match (some (wrapA k (x * (2 ^ minN m k.bits : Nat))) : Option Int) with | some n => fI n fun n => some (AV.int k n) | none => none) = _
  rw [e]
  simp only [fI_eq]
  simp
theorem bits_of {k : IntKind} {x y : Int} (h1 : 0 ≤ x) (h2 : x < top k) (h3 : 0 ≤ y) (h4 : y < top k) :
    bitsA .xor k x y = some ((x.toNat ^^^ y.toNat : Nat) : Int) ∧ bitsA .and k x y = some ((x.toNat &&& y.toNat : Nat) : Int) ∧ bitsA .or k x y = some ((x.toNat ||| y.toNat : Nat) : Int) := by
  obtain ⟨a, rfl⟩ := Int.eq_ofNat_of_zero_le h1
  obtain ⟨b, rfl⟩ := Int.eq_ofNat_of_zero_le h3
  have ha : Nat.blt a (top k) = true := Nat.blt_eq.mpr (by exact_mod_cast h2)
  have hb : Nat.blt b (top k) = true := Nat.blt_eq.mpr (by exact_mod_cast h4)
  refine ⟨?_, ?_, ?_⟩ <;> simp only [bitsA, Int.ofNat_eq_natCast, ha, hb] <;> rfl
theorem bin_xor8 {x y : Int} (h1 : 0 ≤ x) (h2 : x < 256) (h3 : 0 ≤ y) (h4 : y < 256) : binE P .xor u (.int .u8 x) (.int .u8 y) = some (.int .u8 ((x.toNat ^^^ y.toNat : Nat) : Int)) := by
  simp [binE, binK, intOpK, (bits_of (k := .u8) h1 h2 h3 h4).1]
theorem bin_and8 {x y : Int} (h1 : 0 ≤ x) (h2 : x < 256) (h3 : 0 ≤ y) (h4 : y < 256) : binE P .and u (.int .u8 x) (.int .u8 y) = some (.int .u8 ((x.toNat &&& y.toNat : Nat) : Int)) := by
  simp [binE, binK, intOpK, (bits_of (k := .u8) h1 h2 h3 h4).2.1]
theorem bin_or8 {x y : Int} (h1 : 0 ≤ x) (h2 : x < 256) (h3 : 0 ≤ y) (h4 : y < 256) : binE P .or u (.int .u8 x) (.int .u8 y) = some (.int .u8 ((x.toNat ||| y.toNat : Nat) : Int)) := by
  simp [binE, binK, intOpK, (bits_of (k := .u8) h1 h2 h3 h4).2.2]
theorem bin_shr_u8 {k' : IntKind} {x y : Int} (hx : 0 ≤ x) (hy : 0 ≤ y) (hb : y ≤ 8) : binE P .shr u (.int .u8 x) (.int k' y) = some (.int .u8 (x / 2 ^ y.toNat)) := bin_shr hx hy hb
theorem bin_shl_u8 {k' : IntKind} {x y : Int} (hy : 0 ≤ y) (hb : y ≤ 8) : binE P .shl u (.int .u8 x) (.int k' y) = some (.int .u8 (wrapA .u8 (x * 2 ^ y.toNat))) := bin_shl hy hb
theorem bin_shr_u32 {k' : IntKind} {x y : Int} (hx : 0 ≤ x) (hy : 0 ≤ y) (hb : y ≤ 32) : binE P .shr u (.int .u32 x) (.int k' y) = some (.int .u32 (x / 2 ^ y.toNat)) := bin_shr hx hy hb
theorem bin_shl_u32 {k' : IntKind} {x y : Int} (hy : 0 ≤ y) (hb : y ≤ 32) : binE P .shl u (.int .u32 x) (.int k' y) = some (.int .u32 (wrapA .u32 (x * 2 ^ y.toNat))) := bin_shl hy hb
theorem bin_shr_u64 {k' : IntKind} {x y : Int} (hx : 0 ≤ x) (hy : 0 ≤ y) (hb : y ≤ 64) : binE P .shr u (.int .u64 x) (.int k' y) = some (.int .u64 (x / 2 ^ y.toNat)) := bin_shr hx hy hb
theorem bin_shl_u64 {k' : IntKind} {x y : Int} (hy : 0 ≤ y) (hb : y ≤ 64) : binE P .shl u (.int .u64 x) (.int k' y) = some (.int .u64 (wrapA .u64 (x * 2 ^ y.toNat))) := bin_shl hy hb
theorem bin_shr_i64 {k' : IntKind} {x y : Int} (hx : 0 ≤ x) (hy : 0 ≤ y) (hb : y ≤ 64) : binE P .shr u (.int .i64 x) (.int k' y) = some (.int .i64 (x / 2 ^ y.toNat)) := bin_shr hx hy hb
theorem bin_shl_i64 {k' : IntKind} {x y : Int} (hy : 0 ≤ y) (hb : y ≤ 64) : binE P .shl u (.int .i64 x) (.int k' y) = some (.int .i64 (wrapA .i64 (x * 2 ^ y.toNat))) := bin_shl hy hb
theorem bin_xor_u32 {x y : Int} (h1 : 0 ≤ x) (h2 : x < 4294967296) (h3 : 0 ≤ y) (h4 : y < 4294967296) : binE P .xor u (.int .u32 x) (.int .u32 y) = some (.int .u32 ((x.toNat ^^^ y.toNat : Nat) : Int)) := by
  simp [binE, binK, intOpK, (bits_of (k := .u32) h1 h2 h3 h4).1]
theorem bin_and_u32 {x y : Int} (h1 : 0 ≤ x) (h2 : x < 4294967296) (h3 : 0 ≤ y) (h4 : y < 4294967296) : binE P .and u (.int .u32 x) (.int .u32 y) = some (.int .u32 ((x.toNat &&& y.toNat : Nat) : Int)) := by
  simp [binE, binK, intOpK, (bits_of (k := .u32) h1 h2 h3 h4).2.1]
theorem bin_or_u32 {x y : Int} (h1 : 0 ≤ x) (h2 : x < 4294967296) (h3 : 0 ≤ y) (h4 : y < 4294967296) : binE P .or u (.int .u32 x) (.int .u32 y) = some (.int .u32 ((x.toNat ||| y.toNat : Nat) : Int)) := by
  simp [binE, binK, intOpK, (bits_of (k := .u32) h1 h2 h3 h4).2.2]
theorem bin_xor_u64 {x y : Int} (h1 : 0 ≤ x) (h2 : x < 18446744073709551616) (h3 : 0 ≤ y) (h4 : y < 18446744073709551616) : binE P .xor u (.int .u64 x) (.int .u64 y) = some (.int .u64 ((x.toNat ^^^ y.toNat : Nat) : Int)) := by
  simp [binE, binK, intOpK, (bits_of (k := .u64) h1 h2 h3 h4).1]
theorem bin_and_u64 {x y : Int} (h1 : 0 ≤ x) (h2 : x < 18446744073709551616) (h3 : 0 ≤ y) (h4 : y < 18446744073709551616) : binE P .and u (.int .u64 x) (.int .u64 y) = some (.int .u64 ((x.toNat &&& y.toNat : Nat) : Int)) := by
  simp [binE, binK, intOpK, (bits_of (k := .u64) h1 h2 h3 h4).2.1]
theorem bin_or_u64 {x y : Int} (h1 : 0 ≤ x) (h2 : x < 18446744073709551616) (h3 : 0 ≤ y) (h4 : y < 18446744073709551616) : binE P .or u (.int .u64 x) (.int .u64 y) = some (.int .u64 ((x.toNat ||| y.toNat : Nat) : Int)) := by
  simp [binE, binK, intOpK, (bits_of (k := .u64) h1 h2 h3 h4).2.2]
theorem bin_xor_i64 {x y : Int} (h1 : 0 ≤ x) (h2 : x < 9223372036854775808) (h3 : 0 ≤ y) (h4 : y < 9223372036854775808) : binE P .xor u (.int .i64 x) (.int .i64 y) = some (.int .i64 ((x.toNat ^^^ y.toNat : Nat) : Int)) := by
  simp [binE, binK, intOpK, (bits_of (k := .i64) h1 h2 h3 h4).1]
theorem bin_and_i64 {x y : Int} (h1 : 0 ≤ x) (h2 : x < 9223372036854775808) (h3 : 0 ≤ y) (h4 : y < 9223372036854775808) : binE P .and u (.int .i64 x) (.int .i64 y) = some (.int .i64 ((x.toNat &&& y.toNat : Nat) : Int)) := by
  simp [binE, binK, intOpK, (bits_of (k := .i64) h1 h2 h3 h4).2.1]
theorem bin_or_i64 {x y : Int} (h1 : 0 ≤ x) (h2 : x < 9223372036854775808) (h3 : 0 ≤ y) (h4 : y < 9223372036854775808) : binE P .or u (.int .i64 x) (.int .i64 y) = some (.int .i64 ((x.toNat ||| y.toNat : Nat) : Int)) := by
  simp [binE, binK, intOpK, (bits_of (k := .i64) h1 h2 h3 h4).2.2]
theorem wrap_u8_mod {x : Int} (h0 : 0 ≤ x) : wrapA .u8 x = x % 256 := by
  obtain ⟨n, rfl⟩ := Int.eq_ofNat_of_zero_le h0
  show (match Nat.blt n 256 with | true => Int.ofNat n | false => IntKind.wrap .u8 (Int.ofNat n)) = _
  cases h : Nat.blt n 256 with
  | true => have : n < 256 := Nat.blt_eq.mp h; simp only [Int.ofNat_eq_natCast]; omega
  | false => simp [IntKind.wrap]; rfl
theorem bin_quo {x y : Int} (h0 : 0 ≤ x) (h1 : 0 < y) : binE P .quo u (.int k x) (.int k y) = some (.int k (wrapA k (x / y))) := by
  have : ieq y 0 = false := by rw [ieq_eq]; simp; omega
  simp [binE, binK, intOpK, divA, this, Int.tdiv_eq_ediv_of_nonneg h0]
theorem bin_rem {x y : Int} (h0 : 0 ≤ x) (h1 : 0 < y) : binE P .rem u (.int k x) (.int k y) = some (.int k (x % y)) := by
  have : ieq y 0 = false := by rw [ieq_eq]; simp; omega
  simp [binE, binK, intOpK, divA, this, Int.tmod_eq_emod_of_nonneg h0]
theorem un_not (b : Bool) : unE .not (.bool b) = some (.bool (!b)) := by cases b <;> rfl
theorem neq_pn {t e : TypeId} (hu : P.underlying t = some (.pointer e)) (k o : Nat) : binE P .neq t (.ptr k o) .nilptr = some (.bool true) := by simp [binE, binK, eqlK, unK_E, hu]
theorem eql_pn {t e : TypeId} (hu : P.underlying t = some (.pointer e)) (k o : Nat) : binE P .eql t (.ptr k o) .nilptr = some (.bool false) := by simp [binE, binK, eqlK, unK_E, hu]
theorem neq_nn {t e : TypeId} (hu : P.underlying t = some (.pointer e)) : binE P .neq t .nilptr .nilptr = some (.bool false) := by simp [binE, binK, eqlK, unK_E, hu]
theorem eql_nn {t e : TypeId} (hu : P.underlying t = some (.pointer e)) : binE P .eql t .nilptr .nilptr = some (.bool true) := by simp [binE, binK, eqlK, unK_E, hu]
theorem dlei_t {a b : Int} (h : a ≤ b) : decide (a ≤ b) = true := decide_eq_true h
theorem dlei_f {a b : Int} (h : ¬ a ≤ b) : decide (a ≤ b) = false := decide_eq_false h
theorem dlti_t {a b : Int} (h : a < b) : decide (a < b) = true := decide_eq_true h
theorem dlti_f {a b : Int} (h : ¬ a < b) : decide (a < b) = false := decide_eq_false h
theorem deqi_t {a b : Int} (h : a = b) : decide (a = b) = true := decide_eq_true h
theorem deqi_f {a b : Int} (h : ¬ a = b) : decide (a = b) = false := decide_eq_false h
theorem dlen_t {a b : Nat} (h : a ≤ b) : decide (a ≤ b) = true := decide_eq_true h
theorem dlen_f {a b : Nat} (h : ¬ a ≤ b) : decide (a ≤ b) = false := decide_eq_false h
theorem dltn_t {a b : Nat} (h : a < b) : decide (a < b) = true := decide_eq_true h
theorem dltn_f {a b : Nat} (h : ¬ a < b) : decide (a < b) = false := decide_eq_false h
theorem deqn_t {a b : Nat} (h : a = b) : decide (a = b) = true := decide_eq_true h
theorem deqn_f {a b : Nat} (h : ¬ a = b) : decide (a = b) = false := decide_eq_false h
/-! memory -/ -- dle_t
def loadB (P : Program) (t : TypeId) (off : Nat) : Option Blk → Option AV
  | some (.cells cs _ _) => th (P.underlying t) fun d => (match isAggD d with
      | true => th (szE P t) fun n => th (cutE off n cs) fun r => some (.agg r)
      | false => cs[off]?)
  | _ => none
theorem loadE_ptr (h : Heap) (t : TypeId) (k off : Nat) : loadE P h t (.ptr k off) = loadB P t off (h.get k) := by
  simp only [loadE, loadB]
  cases h.get k with
  | none => rfl
  | some b => cases b <;> rfl
theorem loadB_agg {t : TypeId} {d : TypeDesc} {n : Nat} (hu : P.underlying t = some d) (ha : isAggD d = true) (hz : szE P t = some n) (off : Nat) (cs : List AV) (e : Nat) (r : Bool) : loadB P t off (some (.cells cs e r)) = th (cutE off n cs) fun r => some (.agg r) := by
  simp only [loadB, hu, th_some, ha, hz]
theorem loadB_sc {t : TypeId} {d : TypeDesc} (hu : P.underlying t = some d) (ha : isAggD d = false) (off : Nat) (cs : List AV) (e : Nat) (r : Bool) : loadB P t off (some (.cells cs e r)) = cs[off]? := by
  simp only [loadB, hu, th_some, ha]
def storeB (h : Heap) (k off : Nat) (vs : List AV) : Option Blk → Option Heap
  | some (.cells cs ext false) => th (overE off vs cs) fun cs => some (h.put k (some (.cells cs ext false)))
  | _ => none
theorem storeE_ptr {t : TypeId} {n : Nat} (hz : szE P t = some (n + 1)) (h : Heap) (k off : Nat) (v : AV) : storeE P h t (.ptr k off) v = if v.cells.length = n + 1 then storeB h k off v.cells (h.get k) else none := by
  simp only [storeE, hz, th_some]
  by_cases hv : v.cells.length = n + 1
  · rw [if_pos hv, hv, Nat.beq_refl]
    simp only [storeCE]
    cases hc : v.cells with
    | nil => rw [hc] at hv; cases hv
    | cons a as =>
      cases h.get k with
      | none => rfl
      | some b => cases b with
        | map _ _ => rfl
        | cells cs e r => cases r <;> rfl
  · rw [if_neg hv]
    have : Nat.beq (n + 1) v.cells.length = false := by
      cases hb : Nat.beq (n + 1) v.cells.length with
      | true => exact absurd (Nat.eq_of_beq_eq_true hb).symm hv
      | false => rfl
    rw [this]
theorem storeB_cells (h : Heap) (k off : Nat) (vs cs : List AV) (e : Nat) : storeB h k off vs (some (.cells cs e false)) = th (overE off vs cs) fun cs => some (h.put k (some (.cells cs e false))) := rfl
theorem cutE_of {off n : Nat} {l : List AV} (h : off + n ≤ l.length) : cutE off n l = some ((l.drop off).take n) := by simp [cutE, h]
def scE (b : Bool) (l : List AV) : Option (List AV) := match b with
  | true => some l
  | false => none
theorem scE_true (l : List AV) : scE true l = some l := rfl
def ovN (n off : Nat) (vs l : List AV) : Option (List AV) := if off + n ≤ l.length ∧ allSc vs = true then some (l.take off ++ vs ++ l.drop (off + n)) else none
theorem overE_n (off : Nat) (vs l : List AV) : overE off vs l = ovN vs.length off vs l := rfl
theorem ovN_of {n off : Nat} {vs l : List AV} (h : off + n ≤ l.length) : ovN n off vs l = scE (allSc vs) (l.take off ++ vs ++ l.drop (off + n)) := by
  unfold ovN
  cases hs : allSc vs with
  | true => rw [if_pos ⟨h, rfl⟩]; rfl
  | false => rw [if_neg (by rintro ⟨_, h⟩; cases h)]; rfl
theorem ov2 (off : Nat) (v w : AV) (vs l : List AV) : overE off (v :: w :: vs) l = ovN (vs.length + 2) off (v :: w :: vs) l := rfl
theorem ovN_full {n : Nat} {vs l : List AV} (h : (l.length == n) = true)  : ovN n 0 vs l = scE (allSc vs) vs := by
  have h : l.length = n := by simpa using h
  rw [ovN_of (by omega), Nat.zero_add, ← h, List.drop_length]
  simp
theorem allSc_nil : allSc [] = true := rfl
theorem allSc_cons (v : AV) (vs : List AV) : allSc (v :: vs) = (isSc v && allSc vs) := rfl
theorem overE_one {off : Nat} {v : AV} {l : List AV} (h : off < l.length) : overE off [v] l = scE (isSc v) (l.set off v) := by
  rw [overE_n, List.length_singleton, ovN_of (by omega), allSc_cons, allSc_nil, Bool.and_true, List.set_eq_take_append_cons_drop, if_pos h]
  simp
theorem get_put_same (h : Heap) (k : Nat) (b : Option Blk) : (h.put k b).get k = b := put_same ..
theorem get_put_ne {h : Heap} {k j : Nat} {b : Option Blk} (hj : j ≠ k) : (h.put k b).get j = h.get j := put_ne _ _ hj
theorem get_new_same (h : Heap) (b : Blk) : (h.new b).get h.next = some b := new_same ..
theorem get_new_eq {h : Heap} {j : Nat} {b : Blk} (hj : (j == h.next) = true) : (h.new b).get j = some b := by
  have hj : j = h.next := by simpa using hj
  subst hj
  exact new_same ..
theorem get_new_ne {h : Heap} {j : Nat} {b : Blk} (hj : j ≠ h.next) : (h.new b).get j = h.get j := new_ne _ _ hj
theorem next_put (h : Heap) (k : Nat) (b : Option Blk) : (h.put k b).next = h.next := rfl
theorem next_new (h : Heap) (b : Blk) : (h.new b).next = h.next + 1 := rfl
theorem fa_of {s ft : TypeId} {fs : Array Field} {fd : Field} (f n o : Nat) (hu : P.underlying s = some (.struct fs)) (hf : fs.toList[f]? = some fd) (hft : fd.type = ft) (hz : szE P ft = some (n + 1)) (ho : fd.offset = o) (k off : Nat) : fieldAddrE P s (.ptr k off) f = some (.ptr k (off + o)) := by
  subst ho hft
  simp only [fieldAddrE, fieldAddrK, unK_E, hu, th_some, hf, szK_E, hz, fN_eq]
theorem fieldE_of {s ft : TypeId} {fs : Array Field} {fd : Field} (f o : Nat) (hu : P.underlying s = some (.struct fs)) (hf : fs.toList[f]? = some fd) (hft : fd.type = ft) (ho : fd.offset = o) (cs : List AV) : fieldE P s (.agg cs) f = partE P ft cs o := by
  subst ho hft
  simp only [fieldE, fieldK, unK_E, hu, th_some, hf, partE]
theorem partE_agg {t : TypeId} {d : TypeDesc} {n : Nat} (hu : P.underlying t = some d) (ha : isAggD d = true) (hz : szE P t = some n) (cs : List AV) (off : Nat) : partE P t cs off = th (cutE off n cs) fun r => some (.agg r) := by
  simp only [partE, partK, unK_E, hu, th_some, ha, szK_E, hz, lcut_th]
theorem partE_sc {t : TypeId} {d : TypeDesc} (hu : P.underlying t = some d) (ha : isAggD d = false) (cs : List AV) (off : Nat) : partE P t cs off = cs[off]? := by
  simp only [partE, partK, unK_E, hu, th_some, ha, lget_E, th_id]
theorem ia_arr {t e : TypeId} {m n : Nat} (hu : P.underlying t = some (.array m e)) (hz : szE P e = some n) (k off : Nat) {q : IntKind} (i : Int) : indexAddrE P t (.ptr k off) (.int q i) = th (idxE i m) fun i => some (.ptr k (off + i * n)) := by
  simp only [indexAddrE, indexAddrK, asI_E, asIE, unK_E, hu, th_some, idxK_E, szK_E, hz, fN_eq]
theorem ia_slice {t e : TypeId} {n : Nat} (hu : P.underlying t = some (.slice e)) (hz : szE P e = some n) (k off l c : Nat) {q : IntKind} (i : Int) : indexAddrE P t (.slice k off l c) (.int q i) = th (idxE i l) fun i => some (.ptr k (off + i * n)) := by
  simp only [indexAddrE, indexAddrK, asI_E, asIE, unK_E, hu, th_some, idxK_E, szK_E, hz, fN_eq]
theorem ia_eslice {t e : TypeId} {n : Nat} (hu : P.underlying t = some (.slice e)) (hz : szE P e = some n) (k off i0 l : Nat) {q : IntKind} (i : Int) : indexAddrE P t (.eslice k off i0 l) (.int q i) = th (idxE i l) fun i => some (.ptr k (off + i * n)) := by
  simp only [indexAddrE, indexAddrK, asI_E, asIE, unK_E, hu, th_some, idxK_E, szK_E, hz, fN_eq]
def offS (m l off n : Nat) : Nat := match Nat.beq m l with | true => off | false => off + l * n
theorem sl_arr {t e : TypeId} {m n : Nat} (hu : P.underlying t = some (.array m e)) (hz : szE P e = some n) (k off : Nat) {q q' : IntKind} (l h : Int) : sliceE P t (.ptr k off) (some (.int q l)) (some (.int q' h)) none = th (idxE h (m + 1)) fun h => th (idxE l (h + 1)) fun l => some (.slice k (offS m l off n) (h - l) (m - l)) := by
  simp only [sliceE, sliceK, unK_E, hu, th_some, bndK_E, bndE, asIE, szK_E, hz, fN_eq]; rfl
theorem offS_lt {m l n off : Nat} (h : l < m) : offS m l off n = off + l * n := by
  have : Nat.beq m l = false := by
    cases hb : Nat.beq m l with
    | true => have := Nat.eq_of_beq_eq_true hb; omega
    | false => rfl
  unfold offS
  rw [this]
theorem sl_arr_h {t e : TypeId} {m n : Nat} (hu : P.underlying t = some (.array m e)) (hz : szE P e = some n) (k off : Nat) {q' : IntKind} (h : Int) : sliceE P t (.ptr k off) none (some (.int q' h)) none = th (idxE h (m + 1)) fun h => some (.slice k (offS m 0 off n) (h - 0) (m - 0)) := by
  simp only [sliceE, sliceK, unK_E, hu, th_some, bndK_E, bndE, asIE, szK_E, hz, fN_eq]; rfl
theorem sl_arr_l {t e : TypeId} {m n : Nat} (hu : P.underlying t = some (.array m e)) (hz : szE P e = some n) (k off : Nat) {q : IntKind} (l : Int) : sliceE P t (.ptr k off) (some (.int q l)) none none = th (idxE l (m + 1)) fun l => some (.slice k (offS m l off n) (m - l) (m - l)) := by
  simp only [sliceE, sliceK, unK_E, hu, th_some, bndK_E, bndE, asIE, szK_E, hz, fN_eq]; rfl
theorem sl_arr_0 {t e : TypeId} {m n : Nat} (hu : P.underlying t = some (.array m e)) (hz : szE P e = some n) (k off : Nat) : sliceE P t (.ptr k off) none none none = some (.slice k (offS m 0 off n) (m - 0) (m - 0)) := by
  simp only [sliceE, sliceK, unK_E, hu, th_some, bndK_E, bndE, szK_E, hz, fN_eq]; rfl
theorem idxE_of {i : Int} {n : Nat} (h0 : 0 ≤ i) (h1 : i < n) : idxE i n = some i.toNat := by simp [idxE, h0, h1]
theorem ix_arr {t e : TypeId} {m n : Nat} (hu : P.underlying t = some (.array m e)) (hz : szE P e = some n) (cs : List AV) {q : IntKind} (i : Int) : indexE P t (.agg cs) (.int q i) = th (idxE i m) fun i => partE P e cs (i * n) := by
  simp only [indexE, indexK, asI_E, asIE, unK_E, hu, th_some, idxK_E, szK_E, hz, fN_eq, partE]
theorem set_set {α : Type} (x y : Option α) (p : Pth) (t : Tr α) : Tr.set x p (Tr.set y p t) = Tr.set x p t := by
  induction p generalizing t with
  | e => cases t <;> rfl
  | z p ih => cases t with
    | leaf => rw [set_zl, set_z, set_zl, ih]
    | node v l r => rw [set_z, set_z, set_z, ih]
  | o p ih => cases t with
    | leaf => rw [set_ol, set_o, set_ol, ih]
    | node v l r => rw [set_o, set_o, set_o, ih]
theorem put_put (h : Heap) (k : Nat) (a b : Option Blk) : (h.put k a).put k b = h.put k b := by simp only [Heap.put, set_set]
theorem set_self {α : Type} (v : α) (p : Pth) (t : Tr α) (h : t.get p = some v) : Tr.set (some v) p t = t := by
  induction p generalizing t with
  | e => cases t with
    | leaf => rw [get_leaf] at h; cases h
    | node w l r =>
      have : w = some v := by cases w <;> simp_all [Tr.get, Tr.getK]
      subst this
      rfl
  | z p ih => cases t with
    | leaf => rw [get_leaf] at h; cases h
    | node w l r =>
      rw [set_z, ih l (by simpa [Tr.get, Tr.getK] using h)]
  | o p ih => cases t with
    | leaf => rw [get_leaf] at h; cases h
    | node w l r =>
      rw [set_o, ih r (by simpa [Tr.get, Tr.getK] using h)]
theorem put_self {h : Heap} {k : Nat} {b : Blk} (hk : h.get k = some b) : h.put k (some b) = h := by
  cases h
  simp only [Heap.put, Heap.get] at hk ⊢
  rw [set_self b _ _ hk]
/-! casts outward -/
theorem ca_add (a b : Nat) : ((a : Nat) : Int) + ((b : Nat) : Int) = ((a + b : Nat) : Int) := (Int.natCast_add a b).symm
theorem ca_addl (a b : Nat) : ((a : Nat) : Int) + (no_index (OfNat.ofNat b : Int)) = ((a + OfNat.ofNat b : Nat) : Int) := rfl
theorem ca_ladd (a b : Nat) : (no_index (OfNat.ofNat a : Int)) + ((b : Nat) : Int) = ((OfNat.ofNat a + b : Nat) : Int) := (Int.natCast_add a b).symm
theorem ca_mul (a b : Nat) : ((a : Nat) : Int) * ((b : Nat) : Int) = ((a * b : Nat) : Int) := (Int.natCast_mul a b).symm
theorem ca_mull (a b : Nat) : ((a : Nat) : Int) * (no_index (OfNat.ofNat b : Int)) = ((a * OfNat.ofNat b : Nat) : Int) := (Int.natCast_mul a b).symm
theorem ca_lmul (a b : Nat) : (no_index (OfNat.ofNat a : Int)) * ((b : Nat) : Int) = ((OfNat.ofNat a * b : Nat) : Int) := (Int.natCast_mul a b).symm
theorem ca_mod (a b : Nat) : ((a : Nat) : Int) % (no_index (OfNat.ofNat b : Int)) = ((a % OfNat.ofNat b : Nat) : Int) := (Int.natCast_emod a b).symm
theorem ca_div (a b : Nat) : ((a : Nat) : Int) / (no_index (OfNat.ofNat b : Int)) = ((a / OfNat.ofNat b : Nat) : Int) := (Int.natCast_ediv a b).symm
theorem ca_modn (a b : Nat) : ((a : Nat) : Int) % ((b : Nat) : Int) = ((a % b : Nat) : Int) := (Int.natCast_emod a b).symm
theorem ca_divn (a b : Nat) : ((a : Nat) : Int) / ((b : Nat) : Int) = ((a / b : Nat) : Int) := (Int.natCast_ediv a b).symm
theorem ca_subl {a b : Nat} (h : b ≤ a) : ((a : Nat) : Int) - (no_index (OfNat.ofNat b : Int)) = ((a - OfNat.ofNat b : Nat) : Int) := by
  show (a : Int) - (b : Int) = ((a - b : Nat) : Int)
  omega
theorem ca_sub {a b : Nat} (h : b ≤ a) : ((a : Nat) : Int) - ((b : Nat) : Int) = ((a - b : Nat) : Int) := by omega
/-! bytes -/
def b8 (x : Nat) : AV := .int .u8 ((x % 256 : Nat) : Int)
theorem b8_mod (x : Nat) : b8 (x % 256) = b8 x := by simp [b8]
theorem okv_b8 (x : Nat) : okv (b8 x) = some (b8 x) := rfl
theorem isSc_b8 (x : Nat) : isSc (b8 x) = true := rfl
theorem cells_int (k : IntKind) (n : Int) : (AV.int k n).cells = [.int k n] := rfl
theorem cells_bool (b : Bool) : (AV.bool b).cells = [.bool b] := rfl
theorem cells_ptr (k o : Nat) : (AV.ptr k o).cells = [.ptr k o] := rfl
theorem cells_nilptr : AV.nilptr.cells = [.nilptr] := rfl
theorem cells_slice (k o l c : Nat) : (AV.slice k o l c).cells = [.slice k o l c] := rfl
theorem cells_eslice (k o l c : Nat) : (AV.eslice k o l c).cells = [.eslice k o l c] := rfl
theorem cells_nilslice : AV.nilslice.cells = [.nilslice] := rfl
theorem cells_map (k : Nat) : (AV.map k).cells = [.map k] := rfl
theorem cells_func (f : Fn) (a c : List AV) : (AV.func f a c).cells = [.func f a c] := rfl
theorem cells_iface (t : TypeId) (v : AV) : (AV.iface t v).cells = [.iface t v] := rfl
theorem cells_agg (cs : List AV) : (AV.agg cs).cells = cs := rfl
theorem isSc_int (k : IntKind) (n : Int) : isSc (.int k n) = true := rfl
theorem isSc_bool (b : Bool) : isSc (.bool b) = true := rfl
theorem isSc_ptr (k o : Nat) : isSc (.ptr k o) = true := rfl
theorem isSc_nilptr : isSc .nilptr = true := rfl
theorem isSc_slice (k o l c : Nat) : isSc (.slice k o l c) = true := rfl
theorem isSc_eslice (k o l c : Nat) : isSc (.eslice k o l c) = true := rfl
theorem isSc_nilslice : isSc .nilslice = true := rfl
theorem isSc_map (k : Nat) : isSc (.map k) = true := rfl
theorem isSc_func (f : Fn) (a c : List AV) : isSc (.func f a c) = true := rfl
theorem cells_b8 (x : Nat) : (b8 x).cells = [b8 x] := rfl
theorem same_b8 (x : Nat) : AV.same (b8 x) (b8 x) = true := same_int ..
theorem ofV_u8 {n : Int} (h0 : 0 ≤ n) (h1 : n < 256) : ofV (.int .u8 n) = b8 n.toNat := by
  show AV.int .u8 n = _
  unfold b8; congr 1; omega
theorem ofV_i64 (n : Int) : ofV (.int .i64 n) = .int .i64 n := rfl
theorem ofV_u64 (n : Int) : ofV (.int .u64 n) = .int .u64 n := rfl
theorem ofV_u32 (n : Int) : ofV (.int .u32 n) = .int .u32 n := rfl
theorem ofV_i32 (n : Int) : ofV (.int .i32 n) = .int .i32 n := rfl
theorem b8_i (x : Nat) : b8 x = .int .u8 ((x % 256 : Nat) : Int) := rfl
theorem xor_mod (a b : Nat) : (a % 256) ^^^ (b % 256) = (a ^^^ b) % 256 := (Nat.xor_mod_two_pow (n := 8)).symm
theorem and_mod (a b : Nat) : (a % 256) &&& (b % 256) = (a &&& b) % 256 := (Nat.and_mod_two_pow (n := 8)).symm
theorem or_mod (a b : Nat) : (a % 256) ||| (b % 256) = (a ||| b) % 256 := (Nat.or_mod_two_pow (n := 8)).symm
theorem bin_xor_b8 (x y : Nat) : binE P .xor u (b8 x) (b8 y) = some (b8 (x ^^^ y)) := by
  rw [b8_i, b8_i, bin_xor8 (by omega) (by omega) (by omega) (by omega)]
  simp only [Int.toNat_natCast, xor_mod]; rfl
theorem bin_and_b8 (x y : Nat) : binE P .and u (b8 x) (b8 y) = some (b8 (x &&& y)) := by
  rw [b8_i, b8_i, bin_and8 (by omega) (by omega) (by omega) (by omega)]
  simp only [Int.toNat_natCast, and_mod]; rfl
theorem bin_or_b8 (x y : Nat) : binE P .or u (b8 x) (b8 y) = some (b8 (x ||| y)) := by
  rw [b8_i, b8_i, bin_or8 (by omega) (by omega) (by omega) (by omega)]
  simp only [Int.toNat_natCast, or_mod]; rfl
theorem wrap_b8 {n : Int} (h0 : 0 ≤ n) : AV.int .u8 (wrapA .u8 n) = b8 n.toNat := by
  rw [wrap_u8_mod h0]; unfold b8; congr 1; omega
theorem bin_add_b8 (x y : Nat) : binE P .add u (b8 x) (b8 y) = some (b8 (x + y)) := by
  rw [b8_i, b8_i, bin_add, wrap_b8 (by omega), ← b8_mod, ← b8_mod (x + y)]; congr 2; omega
theorem bin_mul_b8 (x y : Nat) : binE P .mul u (b8 x) (b8 y) = some (b8 (x * y)) := by
  rw [b8_i, b8_i, bin_mul, wrap_b8 (by exact Int.mul_nonneg (by omega) (by omega)), ← b8_mod, ← b8_mod (x * y)]
  congr 2
  have : ((((x % 256 : Nat) : Int) * ((y % 256 : Nat) : Int))).toNat = (x % 256) * (y % 256) := by rw [← Int.natCast_mul, Int.toNat_natCast]
  rw [this, Nat.mul_mod x y]
theorem bin_shl_b8 {k' : IntKind} (x : Nat) {y : Int} (hy : 0 ≤ y) (hb : y ≤ 8) : binE P .shl u (b8 x) (.int k' y) = some (b8 (x * 2 ^ y.toNat)) := by
  rw [b8_i, bin_shl_u8 hy hb]
  have h2 : (0 : Int) ≤ 2 ^ y.toNat := Int.le_of_lt (Int.pow_pos (by omega))
  rw [wrap_b8 (Int.mul_nonneg (by omega) h2), ← b8_mod, ← b8_mod (x * _)]
  congr 2
  have : ((((x % 256 : Nat) : Int) * 2 ^ y.toNat)).toNat = (x % 256) * 2 ^ y.toNat := by
    have : ((2 : Int) ^ y.toNat) = ((2 ^ y.toNat : Nat) : Int) := by simp
    rw [this, ← Int.natCast_mul, Int.toNat_natCast]
  rw [this, Nat.mul_mod (x % 256), Nat.mod_mod, ← Nat.mul_mod]
theorem bin_shr_b8 {k' : IntKind} (x : Nat) {y : Int} (hy : 0 ≤ y) (hb : y ≤ 8) : binE P .shr u (b8 x) (.int k' y) = some (b8 (x % 256 / 2 ^ y.toNat)) := by
  rw [b8_i, bin_shr_u8 (by omega) hy hb]
  unfold b8
  congr 2
  have h1 : x % 256 / 2 ^ y.toNat < 256 := Nat.lt_of_le_of_lt (Nat.div_le_self _ _) (by omega)
  rw [Nat.mod_eq_of_lt h1]
  simp
theorem bin_eql_b8 (x y : Nat) : binE P .eql u (b8 x) (b8 y) = some (.bool (decide (x % 256 = y % 256))) := by
  rw [b8_i, b8_i, bin_eql]; congr 2; simp only [decide_eq_decide]; omega
theorem bin_neq_b8 (x y : Nat) : binE P .neq u (b8 x) (b8 y) = some (.bool (!decide (x % 256 = y % 256))) := by
  rw [b8_i, b8_i, bin_neq]; congr 3; simp only [decide_eq_decide]; omega
theorem ia_b8 (t : TypeId) (x : AV) (i : Nat) : indexAddrE P t x (b8 i) = indexAddrE P t x (.int .u8 ((i % 256 : Nat) : Int)) := rfl
theorem ix_b8 (t : TypeId) (x : AV) (i : Nat) : indexE P t x (b8 i) = indexE P t x (.int .u8 ((i % 256 : Nat) : Int)) := rfl
/-- bytes as cells -/
def B (l : List Nat) : List AV := l.map b8
theorem B_len (l : List Nat) : (B l).length = l.length := by simp [B]
theorem B_get {l : List Nat} {i : Nat} (h : i < l.length) : (B l)[i]? = some (b8 (l.getD i 0)) := by simp [B, h]
theorem B_set (l : List Nat) (i x : Nat) : (B l).set i (b8 x) = B (l.set i x) := by simp [B, List.map_set]
theorem allSc_B (l : List Nat) : allSc (B l) = true := by simp [allSc, B, isSc_b8]
theorem cut_all {n : Nat} {l : List AV} (h : (l.length == n) = true) : cutE 0 n l = some l := by
  have h : l.length = n := by simpa using h
  rw [cutE_of (by omega), List.drop_zero, ← h, List.take_length]
theorem cut4_B {off : Nat} {l : List Nat} (h : off + 4 ≤ l.length) : cutE off 4 (B l) = some [b8 (l.getD off 0), b8 (l.getD (off + 1) 0), b8 (l.getD (off + 2) 0), b8 (l.getD (off + 3) 0)] := by
  rw [cutE_of (by rw [B_len]; exact h)]
  congr 1
  apply List.ext_getElem?
  intro i
  rw [List.getElem?_take]
  by_cases hi : i < 4
  · rw [if_pos hi, List.getElem?_drop, B_get (by omega)]
    obtain rfl | rfl | rfl | rfl : i = 0 ∨ i = 1 ∨ i = 2 ∨ i = 3 := by omega
    all_goals rfl
  · rw [if_neg hi, List.getElem?_eq_none (by simp; omega)]
theorem cutE_B {off n : Nat} {l : List Nat} (h : off + n ≤ l.length) : cutE off n (B l) = some (B ((l.drop off).take n)) := by
  rw [cutE_of (by rw [B_len]; exact h)]
  simp [B, List.map_take, List.map_drop]
theorem getD_set_ne {l : List Nat} {i j x : Nat} (h : i ≠ j) : (l.set i x).getD j 0 = l.getD j 0 := by
  simp [List.getD_eq_getElem?_getD, List.getElem?_set_ne h]
theorem getD_set_eq {l : List Nat} {i x : Nat} (h : i < l.length) : (l.set i x).getD i 0 = x := by
  simp [List.getD_eq_getElem?_getD, List.getElem?_set_self h]
/-- a row laid over others, looked at -/
theorem lay_at (off : Nat) (vs l : List AV) (h : off + vs.length ≤ l.length) (j : Nat) : (l.take off ++ vs ++ l.drop (off + vs.length))[j]? = if off ≤ j ∧ j < off + vs.length then vs[j - off]? else l[j]? := by
  have ht : (l.take off).length = off := by simp; omega
  by_cases h1 : j < off
  · rw [if_neg (by omega), List.append_assoc, List.getElem?_append_left (by omega), List.getElem?_take_of_lt h1]
  · by_cases h2 : j < off + vs.length
    · rw [if_pos ⟨by omega, h2⟩, List.append_assoc, List.getElem?_append_right (by omega), ht, List.getElem?_append_left (by omega)]
    · rw [if_neg (by omega), List.getElem?_append_right (by simp; omega), List.getElem?_drop]
      congr 1
      simp; omega
theorem lay_len (off : Nat) (vs l : List AV) (h : off + vs.length ≤ l.length) : (l.take off ++ vs ++ l.drop (off + vs.length)).length = l.length := by simp; omega
/-! reads that float -/
theorem readE_load {ρ : Operand → AV} {d : Option Tmp} {t u : TypeId} {p : String} {a : Array Edge} {g : Option (Nat × Bool)} {h : Heap} (x : Operand) : readE P ρ ⟨d, .load u x, t, p, a, g⟩ h = th (okv (ρ x)) fun x => loadE P h u x := by
  show ((ρ x).okK fun a => loadK P h u a some) = _
  simp only [okK_E, loadK_E, th_id]
/-! conversions, literals, copies -/
section
variable {call : CallK} {ρ : Operand → AV} {d : Option Tmp} {t : TypeId} {p : String} {a : Array Edge} {g : Option (Nat × Bool)} {h : Heap}
theorem cls_conv {s u : TypeId} {sd ud : TypeDesc} (hs : P.underlying s = some sd) (hu : P.underlying u = some ud) (hc : convClsD P sd ud = 0) (x : Operand) : cls P ⟨d, .convert s u x, t, p, a, g⟩ = .p := by simp [cls, hs, hu, hc]
theorem opE_conv {s u : TypeId} {sd ud : TypeDesc} (hs : P.underlying s = some sd) (hu : P.underlying u = some ud) (hc : convClsD P sd ud = 0) (x : Operand) :
    opE P call ρ ⟨d, .convert s u x, t, p, a, g⟩ h = th (okv (ρ x)) fun v => th (convPureE P s u v) fun v => some (v, h) := by
  unfold opE opK
  rw [cls_conv hs hu hc]
  simp only [pureK, okK_E]
  exact th_congr _ fun _ => convPureK_E ..
theorem conv_int {s u : TypeId} {k k' : IntKind} (hs : P.underlying s = some (.int k')) (hu : P.underlying u = some (.int k)) (q : IntKind) (n : Int) : convPureE P s u (.int q n) = some (.int k (wrapA k n)) := by
  simp only [convPureE, convPureK, unK_E, hs, hu, th_some, fI_eq]
theorem conv_b8 (s u : TypeId) (x : Nat) : convPureE P s u (b8 x) = convPureE P s u (.int .u8 ((x % 256 : Nat) : Int)) := rfl
theorem int_u8 {n : Int} (h0 : 0 ≤ n) : AV.int .u8 (wrapA .u8 n) = b8 n.toNat := wrap_b8 h0
theorem opE_copy (c : Call) (hc : c.callee = .builtin .copy) {u : TypeId} {y x : Operand} (hu : c.argTypes[0]? = some u) (hy : c.args[0]? = some y) (hx : c.args[1]? = some x) :
    opE P call ρ ⟨d, .call c, t, p, a, g⟩ h = th (okv (ρ y)) fun y => th (okv (ρ x)) fun x => copyE P h u y x := by
  obtain ⟨cc, ca, ct⟩ := c
  simp only at hc hu hy hx
  subst hc
  show effK P call ρ ⟨d, .call ⟨.builtin .copy, ca, ct⟩, t, p, a, g⟩ h p2 = _
  simp only [effK, hu, hy, hx, okK_E, copyK_E, th2_id]
theorem opE_copy2 (u v : TypeId) (y x : Operand) : opE P call ρ ⟨d, .call ⟨.builtin .copy, #[y, x], #[u, v]⟩, t, p, a, g⟩ h = th (okv (ρ y)) fun y => th (okv (ρ x)) fun x => copyE P h u y x := opE_copy _ rfl rfl rfl rfl
theorem cls_copy (xs : Array Operand) (ts : Array TypeId) : cls P ⟨d, .call ⟨.builtin .copy, xs, ts⟩, t, p, a, g⟩ = .e := rfl
end
def atB (n off : Nat) : Option Blk → Option (List AV)
  | some (.cells cs _ _) => cutE off n cs
  | _ => none
theorem atB_cells (n off : Nat) (cs : List AV) (e : Nat) (r : Bool) : atB n off (some (.cells cs e r)) = cutE off n cs := rfl
def minS (a b : Nat) : Nat := minN a b
theorem minS_le {a b : Nat} (h : a ≤ b) : minS a b = a := by simp only [minS, minN, Nat.ble_eq_true_of_le h]
theorem minS_ge {a b : Nat} (h : b ≤ a) : minS a b = b := by
  unfold minS minN
  cases hb : Nat.ble a b with
  | true => have := Nat.le_of_ble_eq_true hb; simp only; omega
  | false => rfl
/-- a row of cells laid into a block -/
def layB (h : Heap) (k off : Nat) (vs : List AV) : Option Blk → Option Heap
  | some (.cells cs ext false) => th (overE off vs cs) fun cs => some (h.put k (some (.cells cs ext false)))
  | _ => none
theorem layB_cells (h : Heap) (k off : Nat) (vs cs : List AV) (e : Nat) : layB h k off vs (some (.cells cs e false)) = th (overE off vs cs) fun cs => some (h.put k (some (.cells cs e false))) := rfl
theorem copy_ss {t e : TypeId} {n : Nat} (hu : P.underlying t = some (.slice e)) (hz : szE P e = some (n + 1)) (h : Heap) {k off l c k2 off2 l2 c2 : Nat} (hp : 0 < l) (hp2 : 0 < l2) :
    copyE P h t (.slice k off l c) (.slice k2 off2 l2 c2) = th (atB (minS l2 l * (n + 1)) off2 (h.get k2)) fun cs => th (layB h k off cs (h.get k)) fun h => some (.int .i64 (minS l2 l : Nat), h) := by
  have hm : 0 < minS l2 l := by
    rcases Nat.le_total l2 l with c | c
    · rw [minS_le c]; exact hp2
    · rw [minS_ge c]; exact hp
  obtain ⟨q, hq⟩ : ∃ q, minS l2 l * (n + 1) = q + 1 := ⟨minS l2 l * (n + 1) - 1, by have h9 : 0 < minS l2 l * (n + 1) := Nat.mul_pos hm (Nat.succ_pos n); omega⟩
  simp only [copyE, copyK, unK_E, hu, th_some, szK_E, hz, lenA, fN_eq, firstK_E]
  have h1 : firstE h (n + 1) (minN l2 l) (.slice k2 off2 l2 c2) = atB (minS l2 l * (n + 1)) off2 (h.get k2) := by
    have hq' : minN l2 l * (n + 1) = q + 1 := hq
    simp only [firstE, firstK]
    rw [hq', hq]
    simp only [getK_E, atB]
    cases h.get k2 with
    | none => rfl
    | some b => cases b with
      | map _ _ => rfl
      | cells cs _ _ => simp only [th_some, lcut_th, th_id]
  rw [h1]
  have hlen : ∀ cs, atB (minS l2 l * (n + 1)) off2 (h.get k2) = some cs → cs ≠ [] := by
    intro cs hc
    rw [hq] at hc
    cases hg : h.get k2 with
    | none => rw [hg] at hc; cases hc
    | some b => cases b with
      | map _ _ => rw [hg] at hc; cases hc
      | cells cs2 _ _ =>
        rw [hg] at hc
        simp only [atB, cutE] at hc
        split at hc
        · rename_i hle
          cases hc
          intro e
          have := congrArg List.length e
          simp at this
          omega
        · cases hc
  cases hc : atB (minS l2 l * (n + 1)) off2 (h.get k2) with
  | none => rfl
  | some cs =>
    simp only [th_some, storeCK_E]
    have : storeCE h k off cs = layB h k off cs (h.get k) := by
      cases cs with
      | nil => exact absurd rfl (hlen [] hc)
      | cons v vs =>
        simp only [storeCE, layB]
        cases h.get k with
        | none => rfl
        | some b => cases b with
          | map _ _ => rfl
          | cells cs _ r => cases r <;> rfl
    rw [this]
    rfl
theorem aa_slice {t e : TypeId} {n : Nat} (hu : P.underlying t = some (.array n e)) {k off l c : Nat} (hl : n ≤ l) : arrayAtE P t (.slice k off l c) = some (.ptr k off) := by
  simp only [arrayAtE, arrayAtK, unK_E, hu, th_some, Nat.ble_eq_true_of_le hl]
/-- parts laid into cells, by a list of places -/
def fillZ : List (Nat × Nat) → List (Nat × AV) → List AV → Option (List AV)
  | _, [], cells => some cells
  | pl, (i, v) :: rest, cells => match pl[i]? with
    | none => none
    | some (off, size) => (match Nat.beq v.cells.length size with
      | true => th (overE off v.cells cells) fun cells => fillZ pl rest cells
      | false => none)
theorem fillZ_E {place : Nat → Option (Nat × Nat)} {pl : List (Nat × Nat)} : ∀ (ps : List (Nat × AV)) (cells : List AV), (∀ i v, (i, v) ∈ ps → place i = pl[i]?) → fillE place ps cells = fillZ pl ps cells
  | [], _, _ => rfl
  | (i, v) :: r, cells, h => by
    simp only [fillE, fillZ, h i v (by simp)]
    cases pl[i]? with
    | none => rfl
    | some p =>
      obtain ⟨off, size⟩ := p
      simp only
      cases Nat.beq v.cells.length size with
      | false => rfl
      | true => exact th_congr _ fun c => fillZ_E r c fun i v hm => h i v (by simp [hm])
def fillC (b : Bool) (off : Nat) (v : AV) (pl : List (Nat × Nat)) (r : List (Nat × AV)) (cells : List AV) : Option (List AV) := match b with
  | true => th (overE off v.cells cells) fun cells => fillZ pl r cells
  | false => none
def fillP (q : Option (Nat × Nat)) (v : AV) (pl : List (Nat × Nat)) (r : List (Nat × AV)) (cells : List AV) : Option (List AV) := match q with
  | some (off, size) => fillC (v.cells.length == size) off v pl r cells
  | none => none
theorem fillZ_nil (pl : List (Nat × Nat)) (cells : List AV) : fillZ pl [] cells = some cells := by cases pl <;> rfl
theorem fillZ_cons (pl : List (Nat × Nat)) (i : Nat) (v : AV) (r : List (Nat × AV)) (cells : List AV) : fillZ pl ((i, v) :: r) cells = fillP pl[i]? v pl r cells := by
  simp only [fillZ]
  cases pl[i]? with
  | none => rfl
  | some p =>
    obtain ⟨off, size⟩ := p
    simp only [fillP, fillC]
    have : Nat.beq v.cells.length size = (v.cells.length == size) := by rw [Bool.eq_iff_iff]; simp
    rw [← this]
theorem fillP_some (off size : Nat) (v : AV) (pl : List (Nat × Nat)) (r : List (Nat × AV)) (cells : List AV) : fillP (some (off, size)) v pl r cells = fillC (v.cells.length == size) off v pl r cells := rfl
theorem fillC_true (off : Nat) (v : AV) (pl : List (Nat × Nat)) (r : List (Nat × AV)) (cells : List AV) : fillC true off v pl r cells = th (overE off v.cells cells) fun cells => fillZ pl r cells := rfl
def arrPl (n s : Nat) : List (Nat × Nat) := (List.range n).map fun i => (i * s, s)
theorem build_arr {t e : TypeId} {m n : Nat} {z : AV} {pl : List (Nat × Nat)} (hu : P.underlying t = some (.array m e)) (hz : szE P e = some n) (h0 : zeroE P t = some z) (hp : arrPl m n = pl) (ps : List (Nat × AV)) (hi : (ps.all fun x => decide (x.1 < m)) = true) :
    buildE P t ps = th (fillZ pl ps z.cells) fun cs => some (.agg cs) := by
  subst hp
  simp only [buildE, buildK, zeroK_E, h0, th_some, unK_E, hu, szK_E, hz, cellsK_eq, fillK_E]
  rw [fillZ_E (pl := arrPl m n) ps z.cells]
  intro i v hm
  have := List.all_eq_true.1 hi (i, v) hm
  simp only [decide_eq_true_eq] at this
  simp [arrPl, this]
theorem build_st {t : TypeId} {fs : Array Field} {z : AV} {pl : List (Nat × Nat)} (hu : P.underlying t = some (.struct fs)) (h0 : zeroE P t = some z) (ha : (fs.toList.all fun f => (P.info? f.type).isSome) = true) (hp : (fs.toList.map fun f => ((f.offset, (szE P f.type).getD 0) : Nat × Nat)) = pl) (ps : List (Nat × AV)) :
    buildE P t ps = th (fillZ pl ps z.cells) fun cs => some (.agg cs) := by
  subst hp
  simp only [buildE, buildK, zeroK_E, h0, th_some, unK_E, hu, ha, cellsK_eq, fillK_E]
  rw [fillZ_E (pl := fs.toList.map fun f => (f.offset, (szE P f.type).getD 0)) ps z.cells]
  intro i v hm
  simp only [fsPlace, List.getElem?_map]
  cases hf : fs.toList[i]? with
  | none => rfl
  | some f =>
    have := List.all_eq_true.1 ha f (List.mem_of_getElem? hf)
    obtain ⟨ti, hti⟩ := Option.isSome_iff_exists.1 this
    simp [hti, szE]
end Go.Aw
