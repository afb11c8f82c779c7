/- Of this program, for all inputs: contracts. No condition but those in the theorems. -/
import Derived.Test.YtlnepbkeiianmaaAwM3
import Derived.Test.YtlnepbkeiianmaaAwStr
import Derived.Test.YtlnepbkeiianmaaAiM5
namespace Go.Aw
open Go Go.Ai
set_option linter.unusedSimpArgs false
set_option linter.unusedVariables false
variable {P : Program} {call : CallK} {ρ : Operand -> AV} {dd : Option Tmp} {t : TypeId} {p : String} {a : Array Edge} {g : Option (Nat × Bool)} {h : Heap}
/-! a slice that grows; a slice built -/
def appE (P : Program) (T : TypeId) (x y : AV) (h : Heap) : Option (AV × Heap) := appendK P h T x y p2
theorem cls_append (s x : Operand) (T U : TypeId) : cls P ⟨dd, .call ⟨.builtin .append,#[s,x],#[T,U]⟩,t,p,a,g⟩ = .e := rfl
theorem opE_append {T U e : TypeId} (hU : P.underlying U = some (.slice e)) (s x : Operand) :
  opE P call ρ ⟨dd, .call ⟨.builtin .append,#[s,x],#[T,U]⟩,t,p,a,g⟩ h = th (okv (ρ s)) fun u => th (okv (ρ x)) fun v => appE P T u v h := by
 unfold opE opK
 rw [cls_append]
 simp only [effK,List.getElem?_toArray,List.getElem?_cons_zero,List.getElem?_cons_succ,unK_E,hU,th_some,okK_E]
 rfl
theorem lsc_eq (l : List AV) : lsc l = allSc l := by
 induction l with
 | nil => rfl
 | cons v l ih => rw [lsc,ih]; simp only [allSc,List.all_cons]; cases isSc v <;> simp
structure Elem (P : Program) (T e s : Nat) (ie : TypeInfo) (zv : Value) : Prop where
 sl : P.underlying T = some (.slice e)
 info : P.info? e = some ie
 zero : ie.zero = some zv
 zsz : Nat.beq zv.cells.size (s + 1) = true
 size : ie.size = s + 1
 small : (ie.bytes + 1) * (s + 2) <= 65536
theorem capRoom_ge (s b : Nat) : mostCells <= capRoom s b := by
 unfold capRoom
 split
 ·decide
 ·exact Nat.le_refl _
theorem small_ok {s b n : Nat} (hb : (b + 1) * (s + 2) <= 65536) (hn : n < 4096) : Nat.ble ((n + 1) * (s + 2) * (b + 1)) (capRoom s b) = true := by
 apply Nat.ble_eq_true_of_le
 refine Nat.le_trans ?_ (capRoom_ge s b)
 have e1 : (n + 1) * (s + 2) * (b + 1) = (n + 1) * ((b + 1) * (s + 2)) := by rw [Nat.mul_assoc,Nat.mul_comm (s + 2)]
 rw [e1]
 have : (n + 1) * ((b + 1) * (s + 2)) <= 4096 * 65536 := Nat.mul_le_mul (by omega) hb
 have : mostCells = 1073741824 := rfl
 omega
theorem app_nil {T e s kx ox c ex : Nat} {ie : TypeInfo} {zv : Value} (E : Elem P T e s ie zv) {cs nw : List AV} {ro : Bool} (hg : h.get kx = some (.cells cs ex ro)) (hc : cutE ox (s + 1) cs = some nw) (hl : nw.length = s + 1) (hs : allSc nw = true) :
  appE P T .nilslice (.slice kx ox 1 c) h = some (.eslice h.next 0 0 1,h.new (.cells nw (s + 1) false)) := by
 have hsm := small_ok E.small (show 1 < 4096 by omega)
 simp only [appE,appendK,unK_E,E.sl,th_some,E.info,E.zero,E.zsz,E.size,lenA,fN_eq,hsm,firstK,Nat.one_mul,hgetK_eq,hg,lcut_th,hc,llen_eq,Nat.zero_add,hl,Nat.beq_refl,lsc_eq,hs,growK,lapp_eq,List.nil_append,newK_E,p2]
theorem app_ej {T e s k n kx ox c ex : Nat} {ie : TypeInfo} {zv : Value} (E : Elem P T e s ie zv) {old junk : List AV} (hk : h.get k = some (.cells (old ++ junk) (s + 1) false)) (ho : old.length = n * (s + 1)) (hn : n < 4095) {cs nw : List AV} {ro : Bool} (hg : h.get kx = some (.cells cs ex ro)) (hc : cutE ox (s + 1) cs = some nw) (hl : nw.length = s + 1) (hs : allSc nw = true) :
  appE P T (.eslice k 0 0 n) (.slice kx ox 1 c) h = some (.eslice h.next 0 0 (n + 1),(h.put k none).new (.cells (old ++ nw) (s + 1) false)) := by
 have hsm := small_ok E.small (show n + 1 < 4096 by omega)
 have hco : cutE 0 (n * (s + 1)) (old ++ junk) = some old := by
  rw [cutE_of (by rw [List.length_append]; omega),List.drop_zero,List.take_append_of_le_length (by omega),List.take_of_length_le (by omega)]
 simp only [appE,appendK,unK_E,E.sl,th_some,E.info,E.zero,E.zsz,E.size,lenA,fN_eq,hsm,firstK,Nat.one_mul,hgetK_eq,hg,hk,lcut_th,hc,hco,llen_eq,Nat.zero_add,hl,ho,Nat.zero_mul,Nat.beq_refl,Bool.and_self,lsc_eq,hs,growK,lapp_eq,dropK_E,newK_E,p2]
 rfl
theorem app_es {T e s k n kx ox c ex : Nat} {ie : TypeInfo} {zv : Value} (E : Elem P T e s ie zv) {old : List AV} (hk : h.get k = some (.cells old (s + 1) false)) (ho : old.length = n * (s + 1)) (hn : n < 4095) {cs nw : List AV} {ro : Bool} (hg : h.get kx = some (.cells cs ex ro)) (hc : cutE ox (s + 1) cs = some nw) (hl : nw.length = s + 1) (hs : allSc nw = true) :
  appE P T (.eslice k 0 0 n) (.slice kx ox 1 c) h = some (.eslice h.next 0 0 (n + 1),(h.put k none).new (.cells (old ++ nw) (s + 1) false)) :=
 app_ej (junk := []) E (by rw [List.append_nil]; exact hk) ho hn hg hc hl hs
def bsE (P : Program) (T : TypeId) (len : Nat) (l : List (Nat × AV)) (h : Heap) : Option (AV × Heap) := buildSliceK P T len l fun b mk => h.newK b fun k h => (mk k).fK fun v => some (v,h)
theorem cls_bs (T len : Nat) (l : Array (Nat × Operand)) : cls P ⟨dd, .buildSlice T len l,t,p,a,g⟩ = .a := rfl
theorem opE_bs (T len : Nat) (l : List (Nat × Operand)) : opE P call ρ ⟨dd, .buildSlice T len l.toArray,t,p,a,g⟩ h = th (okvs ((l.map (·.2)).map ρ)) fun vs => bsE P T len ((l.map (·.1)).zip vs) h := by
 unfold opE opK
 rw [cls_bs]
 simp only [allocK,fArgs_E]
 rfl
theorem G.gen {r : Option (AV × Heap)} {P : AV -> Heap -> Prop} (h : ∀ Q,P = Q -> G r Q) : G r P := h P rfl
def TH := PLift.up (And.intro @get_put_same (And.intro @get_put_ne (And.intro @get_new_same (And.intro @get_new_ne (And.intro @next_put (And.intro @next_new (And.intro @put_put (And.intro @upd_at (And.intro @sel_true @sel_false)))))))))
end Go.Aw
