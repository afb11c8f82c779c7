/- Of this program, for all inputs: contracts. No condition but those in the theorems. -/
import Derived.Test.YtfjcfjfgamajkaaAwM3
import Derived.Test.YtfjcfjfgamajkaaEL
namespace Go.Aw
open Go Go.Ai
set_option linter.unusedSimpArgs false
set_option linter.unusedVariables false
variable {P : Program} {call : CallK} {ρ : Operand -> AV} {dd : Option Tmp} {t : TypeId} {p : String} {a : Array Edge} {g : Option (Nat × Bool)} {h : Heap}
/-! maps by numbers -/
theorem cls_makeMap (T : TypeId) (r : Option Operand) : cls P ⟨dd, .makeMap T r,t,p,a,g⟩ = .a := rfl
theorem opE_makeMap {T kt et : TypeId} (hT : P.underlying T = some (.map kt et)) : opE P call ρ ⟨dd, .makeMap T none,t,p,a,g⟩ h = some (.map h.next,h.new (.map [] false)) := by
 unfold opE opK
 rw [cls_makeMap]
 simp only [allocK,unK_E,hT,th_some,isMapD,newK_E,fK_E]
 rfl
def updB (b : Option Blk) (k v : AV) : Option Blk := match b with
 | some (.map es false) => th (updK es k v some) fun es => some (.map es false)
 | _ => none
theorem mapUpd {T kt et : TypeId} {k : IntKind} {q : IntKind} {i : Int} {v : AV} {r : Nat} (hT : P.underlying T = some (.map kt et)) (hk : P.underlying kt = some (.int k)) :
  mapUpdateE P h T (.map r) (.int q i) v = th (updB (h.get r) (.int q i) v) fun b => some (h.put r (some b)) := by
 simp only [mapUpdateE,mapUpdateK,unK_E,hT,th_some,keyK,hk,hgetK_eq]
 cases h.get r with
 | none => rfl
 | some b =>
  cases b with
  | cells cs e ro => rfl
  | map es ro =>
   cases ro with
   | true => rfl
   | false =>
    simp only [updB]
    rw [updK_E]
    simp only [th_th,hputK_eq,th_some]
/-! slices: one element built; a clone -/
theorem bsE_of {P : Program} {T len : Nat} {l : List (Nat × AV)} {b : Blk} {n c : Nat} (hb : ∀ K : Blk -> (Nat -> AV) -> Option (AV × Heap),buildSliceK P T len l K = K b (fun k => .slice k 0 n c)) (h : Heap) : bsE P T len l h = some (.slice h.next 0 n c,h.new b) := by
 unfold bsE
 rw [hb]
 simp only [newK_E,fK_E,okv_slice,th_some]
theorem bs_one {T e s : TypeId} {cs : List AV} {z : AV} (hT : P.underlying T = some (.slice e)) (hsz : szE P e = some (s + 1)) (hz : zeroE P e = some z) (hzl : z.cells.length = s + 1) (hb : Nat.ble (1 * (s + 1)) buildCells = true) (hl : cs.length = s + 1) (hs : allSc cs = true) (h : Heap) :
  bsE P T 1 [(0, .agg cs)] h = some (.slice h.next 0 1 1,h.new (.cells cs 0 false)) := by
 have e1 : (AV.agg cs).cells = cs := rfl
 have ov : overE 0 cs z.cells = some cs := by rw [overE_n,hl,ovN_full (by simp [hzl]),hs,scE_true]
 simp only [bsE,buildSliceK,unK_E,hT,th_some,szK_E,hsz,hb,zeroK_E,hz,cellsK_eq,llen_eq,Nat.zero_add,hzl,Nat.beq_refl,repK,lapp_eq,List.nil_append,List.append_nil,fillK_E,fillE,Nat.zero_mul,e1,hl,ov,newK_E,fK_E,okv_slice]
theorem app_nn {T e s : Nat} {ie : TypeInfo} {zv : Value} (E : Elem P T e s ie zv) (h : Heap) : appE P T .nilslice .nilslice h = some (.nilslice,h) := by
 have hsm := small_ok E.small (show 0 < 4096 by omega)
 simp only [appE,appendK,unK_E,E.sl,th_some,E.info,E.zero,E.zsz,E.size,lenA,fN_eq,hsm,firstK,llen_eq,List.length_nil,Nat.zero_mul,Nat.zero_add,Nat.beq_refl,lsc,p2]
theorem app_cap {T e s k o kx ox n c ex : Nat} {ie : TypeInfo} {zv : Value} (E : Elem P T e s ie zv) (hn : n + 1 < 4096) {cs nw : List AV} {ro : Bool} (hg : h.get kx = some (.cells cs ex ro)) (hc : cutE ox ((n + 1) * (s + 1)) cs = some nw) (hl : nw.length = (n + 1) * (s + 1)) (hs : allSc nw = true) :
  appE P T (.slice k o 0 0) (.slice kx ox (n + 1) c) h = some (.eslice h.next 0 0 (n + 1),h.new (.cells nw (s + 1) false)) := by
 have hsm := small_ok E.small hn
 have e0 : (n + 1) * (s + 1) = ((n + 1) * s + n) + 1 := by rw [Nat.mul_add]; omega
 have eb : Nat.ble (n + 1) 0 = false := rfl
 simp only [appE,appendK,unK_E,E.sl,th_some,E.info,E.zero,E.zsz,E.size,lenA,fN_eq,Nat.zero_add,hsm,firstK,eb,Nat.zero_mul,growK,p2]
 rw [e0] at hc hl ⊢
 simp only [hgetK_eq,hg,lcut_th,hc,llen_eq,Nat.zero_add,hl,Nat.beq_refl,lsc_eq,hs,lapp_eq,List.nil_append,newK_E,th_some]
theorem same_nilslice : AV.same .nilslice .nilslice = true := rfl
end Go.Aw
