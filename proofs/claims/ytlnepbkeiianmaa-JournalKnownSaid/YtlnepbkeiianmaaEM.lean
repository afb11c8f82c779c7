/- Of this program, for all inputs: contracts. No condition but those in the theorems. -/
import Derived.Test.YtlnepbkeiianmaaAwM3
import Derived.Test.YtlnepbkeiianmaaEL
namespace Go.Aw
open Go Go.Ai
set_option linter.unusedSimpArgs false
set_option linter.unusedVariables false
variable {P : Program} {call : CallK} {ρ : Operand -> AV} {dd : Option Tmp} {t : TypeId} {p : String} {a : Array Edge} {g : Option (Nat × Bool)} {h : Heap}
/-! maps by numbers -/
theorem cls_makeMap (T : TypeId) (r : Option Operand) : cls P ⟨dd, .makeMap T r,t,p,a,g⟩ = .a := rfl
theorem opE_makeMap {T kt et : TypeId} (hT : P.underlying T = some (.map kt et)) : opE P call ρ ⟨dd, .makeMap T none,t,p,a,g⟩ h = some (.map h.next,h.new (.map [] false)) := by
 unfold opE opK
 rw [cls_makeMap]
 simp only [allocK,unK_E,hT,th_some,isMapD,newK_E,fK_E]
 rfl
def updB (b : Option Blk) (k v : AV) : Option Blk := match b with
 | some (.map es false) => th (updK es k v some) fun es => some (.map es false)
 | _ => none
theorem mapUpd {T kt et : TypeId} {k : IntKind} {q : IntKind} {i : Int} {v : AV} {r : Nat} (hT : P.underlying T = some (.map kt et)) (hk : P.underlying kt = some (.int k)) :
  mapUpdateE P h T (.map r) (.int q i) v = th (updB (h.get r) (.int q i) v) fun b => some (h.put r (some b)) := by
 simp only [mapUpdateE,mapUpdateK,unK_E,hT,th_some,keyK,hk,hgetK_eq]
 cases h.get r with
 | none => rfl
 | some b =>
  cases b with
  | cells cs e ro => rfl
  | map es ro =>
   cases ro with
   | true => rfl
   | false =>
    simp only [updB]
    rw [updK_E]
    simp only [th_th,hputK_eq,th_some]
/-! slices: one element built; a clone -/
theorem bsE_of {P : Program} {T len : Nat} {l : List (Nat × AV)} {b : Blk} {n c : Nat} (hb : ∀ K : Blk -> (Nat -> AV) -> Option (AV × Heap),buildSliceK P T len l K = K b (fun k => .slice k 0 n c)) (h : Heap) : bsE P T len l h = some (.slice h.next 0 n c,h.new b) := by
 unfold bsE
 rw [hb]
 simp only [newK_E,fK_E,okv_slice,th_some]
theorem bs_one {T e s : TypeId} {cs : List AV} {z : AV} (hT : P.underlying T = some (.slice e)) (hsz : szE P e = some (s + 1)) (hz : zeroE P e = some z) (hzl : z.cells.length = s + 1) (hb : Nat.ble (1 * (s + 1)) buildCells = true) (hl : cs.length = s + 1) (hs : allSc cs = true) (h : Heap) :
  bsE P T 1 [(0, .agg cs)] h = some (.slice h.next 0 1 1,h.new (.cells cs 0 false)) := by
 have e1 : (AV.agg cs).cells = cs := rfl
 have ov : overE 0 cs z.cells = some cs := by rw [overE_n,hl,ovN_full (by simp [hzl]),hs,scE_true]
 simp only [bsE,buildSliceK,unK_E,hT,th_some,szK_E,hsz,hb,zeroK_E,hz,cellsK_eq,llen_eq,Nat.zero_add,hzl,Nat.beq_refl,repK,lapp_eq,List.nil_append,List.append_nil,fillK_E,fillE,Nat.zero_mul,e1,hl,ov,newK_E,fK_E,okv_slice]
theorem app_cap {T e s k o kx ox n c ex : Nat} {ie : TypeInfo} {zv : Value} (E : Elem P T e s ie zv) (hn : n + 1 < 4096) {cs nw : List AV} {ro : Bool} (hg : h.get kx = some (.cells cs ex ro)) (hc : cutE ox ((n + 1) * (s + 1)) cs = some nw) (hl : nw.length = (n + 1) * (s + 1)) (hs : allSc nw = true) :
  appE P T (.slice k o 0 0) (.slice kx ox (n + 1) c) h = some (.eslice h.next 0 0 (n + 1),h.new (.cells nw (s + 1) false)) := by
 have hsm := small_ok E.small hn
 have e0 : (n + 1) * (s + 1) = ((n + 1) * s + n) + 1 := by rw [Nat.mul_add]; omega
 have eb : Nat.ble (n + 1) 0 = false := rfl
 simp only [appE,appendK,unK_E,E.sl,th_some,E.info,E.zero,E.zsz,E.size,lenA,fN_eq,Nat.zero_add,hsm,firstK,eb,Nat.zero_mul,growK,p2]
 rw [e0] at hc hl ⊢
 simp only [hgetK_eq,hg,lcut_th,hc,llen_eq,Nat.zero_add,hl,Nat.beq_refl,lsc_eq,hs,lapp_eq,List.nil_append,newK_E,th_some]
theorem same_nilslice : AV.same .nilslice .nilslice = true := rfl
/-! min,max -/
theorem cls_max (x y : Operand) (ts : Array TypeId) : cls P ⟨dd, .call ⟨.builtin .max,#[x,y],ts⟩,t,p,a,g⟩ = .p := rfl
theorem cls_min (x y : Operand) (ts : Array TypeId) : cls P ⟨dd, .call ⟨.builtin .min,#[x,y],ts⟩,t,p,a,g⟩ = .p := rfl
def mmE (m : Bool) (a b : AV) : Option AV := minMaxK m [a,b] some
theorem mm_max (x y : Int) : mmE true (.int .i64 x) (.int .i64 y) = some (.int .i64 (max x y)) := by
 by_cases h : x <= y
 ·have e : ile x y = true := by rw [Aw.ile_eq]; simpa using h
  simp only [mmE,minMaxK,e,if_true,show max x y = y by omega]
 ·have e : ile x y = false := by rw [Aw.ile_eq]; simpa using h
  simp only [mmE,minMaxK,e,if_true,show max x y = x by omega]
theorem mm_min (x y : Int) : mmE false (.int .i64 x) (.int .i64 y) = some (.int .i64 (min x y)) := by
 by_cases h : x <= y
 ·have e : ile x y = true := by rw [Aw.ile_eq]; simpa using h
  simp only [mmE,minMaxK,e,if_true,show min x y = x by omega]
 ·have e : ile x y = false := by rw [Aw.ile_eq]; simpa using h
  simp only [mmE,minMaxK,e,if_true,show min x y = y by omega]
theorem opE_mm (b : Builtin) (m : Bool) (hb : (b = .max /\ m = true) \/ (b = .min /\ m = false)) (x y : Operand) (ts : Array TypeId) :
  opE P call ρ ⟨dd, .call ⟨.builtin b,#[x,y],ts⟩,t,p,a,g⟩ h = th (okv (ρ x)) fun u => th (okv (ρ y)) fun v => th (mmE m u v) fun v => some (v,h) := by
 rcases hb with ⟨rfl,rfl⟩ | ⟨rfl,rfl⟩ <;>
 ·show fArgs ρ [x,y] (fun vs => minMaxK _ vs fun v => p2 v h) = _
  simp only [fArgs,fK_E,mmE]
  refine th_congr _ fun u => th_congr _ fun v => ?_
  unfold minMaxK
  split
  ·split
   ·split <;> rfl
   ·rfl
  ·rfl
theorem opE_maxB (x y : Operand) (ts : Array TypeId) :
  opE P call ρ ⟨dd, .call ⟨.builtin .max,#[x,y],ts⟩,t,p,a,g⟩ h = th (okv (ρ x)) fun u => th (okv (ρ y)) fun v => th (mmE true u v) fun v => some (v,h) := opE_mm .max true (.inl ⟨rfl,rfl⟩) ..
theorem opE_minB (x y : Operand) (ts : Array TypeId) :
  opE P call ρ ⟨dd, .call ⟨.builtin .min,#[x,y],ts⟩,t,p,a,g⟩ h = th (okv (ρ x)) fun u => th (okv (ρ y)) fun v => th (mmE false u v) fun v => some (v,h) := opE_mm .min false (.inr ⟨rfl,rfl⟩) ..
theorem wrap_i64s {x : Int} (h0 : -9223372036854775808 <= x) (h1 : x < 9223372036854775808) : wrapA .i64 x = x := by
 by_cases h : 0 <= x
 ·exact wrap_i64 h h1
 ·obtain ⟨n,rfl⟩ : ∃ n,x = Int.negSucc n := by
   cases x with
   | ofNat n => exact absurd (Int.natCast_nonneg n) h
   | negSucc n => exact ⟨n,rfl⟩
  show IntKind.wrap .i64 (Int.negSucc n) = _
  simp only [IntKind.wrap]
  have e1 : (2 : Int) ^ IntKind.i64.bits = 18446744073709551616 := by decide
  have e2 : (2 : Int) ^ (IntKind.i64.bits - 1) = 9223372036854775808 := by decide
  have e3 : IntKind.i64.signed = true := rfl
  rw [e1,e2,e3]
  have : Int.negSucc n = -((n : Int) + 1) := rfl
  rw [this] at h0 h1 ⊢
  have e4 : (-((n : Int) + 1)) % 18446744073709551616 = 18446744073709551616 - ((n : Int) + 1) := by omega
  rw [e4,if_pos (by simp; omega)]
  omega
def MX := PLift.up (And.intro @cls_max (And.intro @cls_min (And.intro @mm_max (And.intro @mm_min (And.intro @opE_maxB @opE_minB)))))
end Go.Aw
