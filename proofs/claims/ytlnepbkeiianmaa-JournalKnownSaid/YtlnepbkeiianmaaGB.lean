/- Of this program, for all inputs: contracts. No condition but those in the theorems. -/
import Derived.Test.YtlnepbkeiianmaaGA
import Derived.Test.YtlnepbkeiianmaaPC
import Derived.Test.YtlnepbkeiianmaaRA
import Derived.Test.YtlnepbkeiianmaaXA
import Derived.Test.YtlnepbkeiianmaaPB
namespace Go.Aw
open Go Go.Ai
set_option linter.unusedSimpArgs false
set_option linter.unusedVariables false
variable {P : Program} {h : Heap}
theorem app_es2 {T e s k n kx ox c m ex : Nat} {ie : TypeInfo} {zv : Value} (E : Elem P T e s ie zv) {old junk : List AV} (hk : h.get k = some (.cells (old ++ junk) (s + 1) false)) (ho : old.length = n * (s + 1)) (hsm : Nat.ble ((n + (m + 1) + 1) * (s + 2) * (ie.bytes + 1)) (capRoom s ie.bytes) = true) {cs nw : List AV} {ro : Bool} (hg : h.get kx = some (.cells cs ex ro)) (hc : cutE ox ((m + 1) * (s + 1)) cs = some nw) (hl : nw.length = (m + 1) * (s + 1)) (hs : allSc nw = true) :
  appE P T (.eslice k 0 0 n) (.slice kx ox (m + 1) c) h = some (.eslice h.next 0 0 (n + (m + 1)),(h.put k none).new (.cells (old ++ nw) (s + 1) false)) := by
 have hco : cutE 0 (n * (s + 1)) (old ++ junk) = some old := by
  rw [cutE_of (by rw [List.length_append,ho]; omega),List.drop_zero,<- ho,List.take_left]
 have e0 : (m + 1) * (s + 1) = ((m + 1) * s + m) + 1 := by rw [Nat.mul_add]; omega
 simp only [appE,appendK,unK_E,E.sl,th_some,E.info,E.zero,E.zsz,E.size,lenA,fN_eq,hsm,firstK]
 rw [e0] at hc hl ⊢
 simp only [hgetK_eq,hg,hk,lcut_th,hc,hco,llen_eq,Nat.zero_add,Nat.zero_mul,hl,Nat.beq_refl,lsc_eq,hs,th_some,Bool.and_self,hdropK_eq,growK,lapp_eq,newK_E,p2,dropK_E]
 rfl
theorem app_ns2 {T e s kx ox c m ex : Nat} {ie : TypeInfo} {zv : Value} (E : Elem P T e s ie zv) (hsm : Nat.ble ((m + 1 + 1) * (s + 2) * (ie.bytes + 1)) (capRoom s ie.bytes) = true) {cs nw : List AV} {ro : Bool} (hg : h.get kx = some (.cells cs ex ro)) (hc : cutE ox ((m + 1) * (s + 1)) cs = some nw) (hl : nw.length = (m + 1) * (s + 1)) (hs : allSc nw = true) :
  appE P T .nilslice (.slice kx ox (m + 1) c) h = some (.eslice h.next 0 0 (m + 1),h.new (.cells nw (s + 1) false)) := by
 have e0 : (m + 1) * (s + 1) = ((m + 1) * s + m) + 1 := by rw [Nat.mul_add]; omega
 simp only [appE,appendK,unK_E,E.sl,th_some,E.info,E.zero,E.zsz,E.size,lenA,fN_eq,Nat.zero_add,hsm,firstK]
 rw [e0] at hc hl ⊢
 simp only [hgetK_eq,hg,lcut_th,hc,llen_eq,Nat.zero_add,Nat.zero_mul,hl,Nat.beq_refl,lsc_eq,hs,th_some,Bool.and_self,hdropK_eq,growK,lapp_eq,newK_E,p2,dropK_E,List.nil_append]
theorem copy_es (T : TypeId) (d : AV) (k o i n c : Nat) : copyE P h T d (.eslice k o i n) = copyE P h T d (.slice k o n c) := by
 simp only [copyE,copyK,lenA,firstK]
theorem appE_es (T : TypeId) (s : AV) (k o i n c : Nat) : appE P T s (.eslice k o i n) h = appE P T s (.slice k o n c) h := by
 simp only [appE,appendK,lenA,firstK]
def Own (s n0 : Nat) (h : Heap) (v : AV) (cs : List AV) (n : Nat) : Prop := (n = 0 /\ v = .nilslice /\ cs = []) \/ ∃ K,v = .eslice K 0 0 n /\ n0 <= K /\ K < h.next /\ h.get K = some (.cells cs s false) /\ cs.length = n * s /\ 0 < n
def blkE : AV -> Option Nat
 | .eslice k _ _ _ => some k
 | _ => none
theorem Own.ok {s n0 n : Nat} {v : AV} {cs : List AV} (x : Own s n0 h v cs n) : okv v = some v := by
 rcases x with ⟨_,rfl,_⟩ | ⟨K,rfl,_⟩ <;> rfl
theorem Own.same {s n0 n : Nat} {v : AV} {cs : List AV} (x : Own s n0 h v cs n) : AV.same v v = true := by
 rcases x with ⟨_,rfl,_⟩ | ⟨K,rfl,_⟩
 ·rfl
 ·exact same_eslice ..
theorem Own.ge {s n0 n : Nat} {v : AV} {cs : List AV} (x : Own s n0 h v cs n) {j : Nat} (hj : blkE v = some j) : n0 <= j /\ j < h.next := by
 rcases x with ⟨_,rfl,_⟩ | ⟨K,rfl,h1,h2,_⟩
 ·cases hj
 ·cases hj; exact ⟨h1,h2⟩
theorem Own.len {T e s n0 n : Nat} {v : AV} {cs : List AV} (hT : P.underlying T = some (.slice e)) (x : Own s n0 h v cs n) : lenE P T v = some (.int .i64 (n : Int)) := by
 rcases x with ⟨rfl,rfl,_⟩ | ⟨K,rfl,_⟩
 ·exact len_nilslice hT
 ·exact len_eslice hT ..
theorem Own.keep {s n0 n : Nat} {v : AV} {cs : List AV} (x : Own s n0 h v cs n) {h' : Heap} (hn : h.next <= h'.next) (hg : ∀ j,blkE v = some j -> h'.get j = h.get j) : Own s n0 h' v cs n := by
 rcases x with x | ⟨K,rfl,h1,h2,h3,h4⟩
 ·exact .inl x
 ·exact .inr ⟨K,rfl,h1,Nat.lt_of_lt_of_le h2 hn,(hg K rfl).trans h3,h4⟩
theorem Own.app {T e s n0 n k o c m ex : Nat} {ie : TypeInfo} {zv : Value} (E : Elem P T e s ie zv) {v : AV} {cs : List AV} (x : Own (s + 1) n0 h v cs n) (h0 : n0 <= h.next) (hsm : Nat.ble ((n + (m + 1) + 1) * (s + 2) * (ie.bytes + 1)) (capRoom s ie.bytes) = true) {ks nw : List AV} {ro : Bool} (hg : h.get k = some (.cells ks ex ro)) (hc : cutE o ((m + 1) * (s + 1)) ks = some nw) (hl : nw.length = (m + 1) * (s + 1)) (hs : allSc nw = true) :
  ∃ h',appE P T v (.slice k o (m + 1) c) h = some (.eslice h.next 0 0 (n + (m + 1)),h') /\ Own (s + 1) n0 h' (.eslice h.next 0 0 (n + (m + 1))) (cs ++ nw) (n + (m + 1)) /\ h'.next = h.next + 1 /\ ∀ j,j < h.next -> blkE v ≠ some j -> h'.get j = h.get j := by
 rcases x with ⟨rfl,rfl,rfl⟩ | ⟨K,rfl,h1,h2,h3,h4,h5⟩
 ·refine ⟨_,by rw [app_ns2 E (by rw [Nat.zero_add] at hsm; exact hsm) hg hc hl hs,Nat.zero_add], .inr ⟨_,by simp,h0, ?_, ?_, ?_,by omega⟩, ?_,fun j hj _ => ?_⟩
  ·rw [next_new]; omega
  ·rw [get_new_same]; rfl
  ·simp [hl]
  ·rw [next_new]
  ·rw [get_new_ne]; omega
 ·have h3' : h.get K = some (.cells (cs ++ []) (s + 1) false) := by rw [List.append_nil]; exact h3
  refine ⟨_,app_es2 E h3' h4 hsm hg hc hl hs, .inr ⟨_,rfl,h0, ?_, ?_, ?_,by omega⟩, ?_,fun j hj hb => ?_⟩
  ·rw [next_new,next_put]; omega
  ·have : h.next = (h.put K none).next := by rw [next_put]
   rw [this,get_new_same]
  ·rw [List.length_append,h4,hl,<- Nat.add_mul]
  ·rw [next_new,next_put]
  ·have hjK : j ≠ K := fun e => hb (by rw [e]; rfl)
   rw [get_new_ne (by rw [next_put]; omega),get_put_ne hjK]
theorem Own.app2 {T e s n0 n k o i m ex : Nat} {ie : TypeInfo} {zv : Value} (E : Elem P T e s ie zv) {v : AV} {cs : List AV} (x : Own (s + 1) n0 h v cs n) (h0 : n0 <= h.next) (hsm : Nat.ble ((n + (m + 1) + 1) * (s + 2) * (ie.bytes + 1)) (capRoom s ie.bytes) = true) {ks nw : List AV} {ro : Bool} (hg : h.get k = some (.cells ks ex ro)) (hc : cutE o ((m + 1) * (s + 1)) ks = some nw) (hl : nw.length = (m + 1) * (s + 1)) (hs : allSc nw = true) :
  ∃ h',appE P T v (.eslice k o i (m + 1)) h = some (.eslice h.next 0 0 (n + (m + 1)),h') /\ Own (s + 1) n0 h' (.eslice h.next 0 0 (n + (m + 1))) (cs ++ nw) (n + (m + 1)) /\ h'.next = h.next + 1 /\ ∀ j,j < h.next -> blkE v ≠ some j -> h'.get j = h.get j := by
 rw [appE_es (c := m + 1)]
 exact x.app E h0 hsm hg hc hl hs
end Go.Aw
namespace Go.Proofs.Ytlnepbkeiianmaa
open Go Go.Ai Go.Aw Go.Proofs
open Nat renaming reduceBEq -> uB,reduceEqDiff -> uE,reduceLT -> uL,reduceAdd -> uA,reduceMul -> uM,reduceSub -> uS,reduceAnd -> uN,reduceXor -> uX,reduceOr -> uO
open Int renaming reduceMod -> vR,reduceDiv -> vD,reduceLT -> vL,reduceLE -> vK,reduceEq -> vE,reduceAdd -> vA,reduceMul -> vM,reduceToNat -> vT,reduceSub -> vS
set_option linter.unusedSimpArgs false
set_option linter.unusedVariables false
set_option maxRecDepth 10000
theorem elS : Elem Try.prog 90 59 63 ((Try.prog.info? 59).getD default) ((((Try.prog.info? 59).getD default).zero).getD default) := ⟨Try.underlying90,by kernel_rfl,by kernel_rfl,by kernel_rfl,by kernel_rfl,by decide +kernel⟩
theorem elI : Elem Try.prog 34 3 0 ((Try.prog.info? 3).getD default) ((((Try.prog.info? 3).getD default).zero).getD default) := ⟨Try.underlying34,by kernel_rfl,by kernel_rfl,by kernel_rfl,by kernel_rfl,by decide +kernel⟩
theorem apS (call : CallK) (ρ : Operand -> AV) (dd : Option Tmp) (t : TypeId) (p : String) (a : Array Edge) (g : Option (Nat × Bool)) (h : Heap) (s x : Operand) : opE Try.prog call ρ ⟨dd, .call ⟨.builtin .append,#[s,x],#[90,90]⟩,t,p,a,g⟩ h = th (okv (ρ s)) fun u => th (okv (ρ x)) fun v => appE Try.prog 90 u v h := opE_append Try.underlying90 s x
theorem apI (call : CallK) (ρ : Operand -> AV) (dd : Option Tmp) (t : TypeId) (p : String) (a : Array Edge) (g : Option (Nat × Bool)) (h : Heap) (s x : Operand) : opE Try.prog call ρ ⟨dd, .call ⟨.builtin .append,#[s,x],#[34,34]⟩,t,p,a,g⟩ h = th (okv (ρ s)) fun u => th (okv (ρ x)) fun v => appE Try.prog 34 u v h := opE_append Try.underlying34 s x
theorem apB (call : CallK) (ρ : Operand -> AV) (dd : Option Tmp) (t : TypeId) (p : String) (a : Array Edge) (g : Option (Nat × Bool)) (h : Heap) (s x : Operand) : opE Try.prog call ρ ⟨dd, .call ⟨.builtin .append,#[s,x],#[33,33]⟩,t,p,a,g⟩ h = th (okv (ρ s)) fun u => th (okv (ρ x)) fun v => appE Try.prog 33 u v h := opE_append Try.underlying33 s x
theorem smallB {n : Nat} (hn : n < 1000000) : Nat.ble ((n + 1) * (0 + 2) * (((Try.prog.info? 5).getD default).bytes + 1)) (capRoom 0 ((Try.prog.info? 5).getD default).bytes) = true := by
 have e : ((Try.prog.info? 5).getD default).bytes = 1 := by kernel_rfl
 rw [e]
 refine Nat.ble_eq_true_of_le ?_
 show _ <= 562949953420512
 omega
def ByR (h : Heap) (v : AV) (l : List Nat) : Prop := (l = [] /\ v = .nilslice) \/ (∃ k o cap cs ex ro,v = .slice k o l.length cap /\ l.length <= cap /\ k < h.next /\ h.get k = some (.cells cs ex ro) /\ cutE o l.length cs = some (B l)) \/ ∃ k o i cs ex ro,v = .eslice k o i l.length /\ k < h.next /\ h.get k = some (.cells cs ex ro) /\ cutE o l.length cs = some (B l)
def blkA : AV -> Option Nat
 | .eslice k _ _ _ => some k
 | .slice k _ _ _ => some k
 | _ => none
theorem ByR.ok {h : Heap} {v : AV} {l : List Nat} (x : ByR h v l) : okv v = some v /\ AV.same v v = true /\ lenE Try.prog 33 v = some (.int .i64 (l.length : Int)) := by
 rcases x with ⟨rfl,rfl⟩ | ⟨k,o,cap,cs,ex,ro,rfl,_⟩ | ⟨k,o,i,cs,ex,ro,rfl,_⟩
 ·exact ⟨rfl,rfl,len_nilslice Try.underlying33⟩
 ·exact ⟨rfl,same_slice ..,len_slice Try.underlying33 ..⟩
 ·exact ⟨rfl,same_eslice ..,len_eslice Try.underlying33 ..⟩
theorem ByR.keep {h h' : Heap} {v : AV} {l : List Nat} (x : ByR h v l) (hn : h.next <= h'.next) (hg : ∀ j,j < h.next -> blkA v = some j -> h'.get j = h.get j) : ByR h' v l := by
 rcases x with x | ⟨k,o,cap,cs,ex,ro,rfl,h1,h2,h3,h4⟩ | ⟨k,o,i,cs,ex,ro,rfl,h2,h3,h4⟩
 ·exact .inl x
 ·exact .inr (.inl ⟨k,o,cap,cs,ex,ro,rfl,h1,Nat.lt_of_lt_of_le h2 hn,(hg k h2 rfl).trans h3,h4⟩)
 ·exact .inr (.inr ⟨k,o,i,cs,ex,ro,rfl,Nat.lt_of_lt_of_le h2 hn,(hg k h2 rfl).trans h3,h4⟩)
theorem ByR.lt {h : Heap} {v : AV} {l : List Nat} (x : ByR h v l) {j : Nat} (hj : blkA v = some j) : j < h.next := by
 rcases x with ⟨_,rfl⟩ | ⟨k,o,cap,cs,ex,ro,rfl,h1,h2,_⟩ | ⟨k,o,i,cs,ex,ro,rfl,h2,_⟩
 ·cases hj
 ·cases hj; exact h2
 ·cases hj; exact h2
theorem cut_drop {o n q : Nat} {cs : List AV} {l : List Nat} (h : cutE o n cs = some (B l)) (hl : l.length = n) (hq : q <= n) : cutE (o + q) (n - q) cs = some (B (l.drop q)) := by
 have hle := cutE_len h
 rw [cutE_of hle] at h
 rw [cutE_of (by omega)]
 have h2 := Option.some.inj h
 have e : B (l.drop q) = (B l).drop q := by simp [B]
 rw [e,<- h2,List.drop_take,List.drop_drop]
end Go.Proofs.Ytlnepbkeiianmaa
namespace Go.Aw
open Go Go.Ai
set_option linter.unusedSimpArgs false
set_option linter.unusedVariables false
variable {P : Program} {h : Heap}
theorem sl_s_loN {t e n : Nat} (hu : P.underlying t = some (.slice e)) (hz : szE P e = some n) (k o len c : Nat) {q : IntKind} (x : Nat) (hx : x <= len) (hc : x < c) : sliceE P t (.slice k o len c) (some (.int q (x : Int))) none none = some (.slice k (o + x * n) (len - x) (c - x)) := by
 simp only [sliceE,sliceK,unK_E,hu,th_some,bndK_E,bndE,asIE,szK_E,hz,fN_eq,idx_nat x (len + 1) (by omega)]
 have h2 : Nat.beq c x = false := by
  cases hb : Nat.beq c x with
  | false => rfl
  | true => have := Nat.eq_of_beq_eq_true hb; omega
 simp only [h2]
theorem sl_s_hiN {t e n : Nat} (hu : P.underlying t = some (.slice e)) (hz : szE P e = some n) (k o len c : Nat) {q : IntKind} (x : Nat) (hc : x <= c) : sliceE P t (.slice k o len c) none (some (.int q (x : Int))) none = some (.slice k o x c) := by
 simp only [sliceE,sliceK,unK_E,hu,th_some,bndK_E,bndE,asIE,szK_E,hz,fN_eq,idx_nat x (c + 1) (by omega)]
 cases h : Nat.beq c 0 <;> simp
end Go.Aw
namespace Go.Proofs.Ytlnepbkeiianmaa
open Go Go.Ai Go.Aw Go.Proofs
open Nat renaming reduceBEq -> uB,reduceEqDiff -> uE,reduceLT -> uL,reduceAdd -> uA,reduceMul -> uM,reduceSub -> uS,reduceAnd -> uN,reduceXor -> uX,reduceOr -> uO
open Int renaming reduceMod -> vR,reduceDiv -> vD,reduceLT -> vL,reduceLE -> vK,reduceEq -> vE,reduceAdd -> vA,reduceMul -> vM,reduceToNat -> vT,reduceSub -> vS
set_option linter.unusedSimpArgs false
set_option linter.unusedVariables false
set_option maxRecDepth 10000
theorem ByR.tail {h : Heap} {v : AV} {l : List Nat} (x : ByR h v l) (q : Nat) (hq : q < l.length) : ∃ u,sliceE Try.prog 33 v (some (.int .i64 (q : Int))) none none = some u /\ ByR h u (l.drop q) /\ (∃ k o n c,u = .slice k o n c \/ u = .eslice k o c n) /\ blkA u = blkA v := by
 have e : (l.drop q).length = l.length - q := by simp
 rcases x with ⟨rfl,rfl⟩ | ⟨k,o,cap,cs,ex,ro,rfl,h1,h2,h3,h4⟩ | ⟨k,o,i,cs,ex,ro,rfl,h2,h3,h4⟩
 ·simp at hq
 ·refine ⟨_,sl_s_loN Try.underlying33 sz5 k o l.length cap q (by omega) (by omega), .inr (.inl ⟨k,o + q * 1,cap - q,cs,ex,ro,by rw [e],by omega,h2,h3, ?_⟩),⟨_,_,_,_, .inl rfl⟩,rfl⟩
  rw [e,Nat.mul_one]; exact cut_drop h4 rfl (by omega)
 ·refine ⟨_,sl_es_lo Try.underlying33 sz5 k o i l.length q hq, .inr (.inr ⟨k,o + q * 1,i + q,cs,ex,ro,by rw [e],h2,h3, ?_⟩),⟨_,_,_,_, .inr rfl⟩,rfl⟩
  rw [e,Nat.mul_one]; exact cut_drop h4 rfl (by omega)
theorem cut_take {o n q : Nat} {cs : List AV} {l : List Nat} (h : cutE o n cs = some (B l)) (hl : l.length = n) (hq : q <= n) : cutE o q cs = some (B (l.take q)) := by
 have hle := cutE_len h
 rw [cutE_of hle] at h
 rw [cutE_of (by omega)]
 have h2 := Option.some.inj h
 have e : B (l.take q) = (B l).take q := by simp [B]
 rw [e,<- h2,List.take_take,Nat.min_eq_left hq]
def pad64 (r : List Nat) : List Nat := r.take 64 ++ List.replicate (64 - r.length) 0
theorem pad64_len (r : List Nat) : (pad64 r).length = 64 := by simp [pad64]; omega
theorem over_pre (a b : List AV) (ha : allSc a = true) (c : List AV) (hc : c.length = a.length) : overE 0 a (c ++ b) = some (a ++ b) := by
 have := over_mid (o := 0) (a := []) (b := c) (b' := a) (c := b) rfl (by omega) ha
 simpa using this
theorem ByR.copy {h : Heap} {u : AV} {l : List Nat} (x : ByR h u l) (h0 : 0 < l.length) (k : Nat) (hk : h.get k = some (.cells (B zz) 0 false)) : copyE Try.prog h 33 (.slice k 0 64 64) u = some (.int .i64 ((min l.length 64 : Nat) : Int),h.put k (some (.cells (B (pad64 l)) 0 false))) := by
 have key : ∀ k2 o c cs ex ro,h.get k2 = some (.cells cs ex ro) -> cutE o l.length cs = some (B l) -> copyE Try.prog h 33 (.slice k 0 64 64) (.slice k2 o l.length c) = some (.int .i64 ((min l.length 64 : Nat) : Int),h.put k (some (.cells (B (pad64 l)) 0 false))) := by
  intro k2 o c cs ex ro g hc
  have em : minS l.length 64 = min l.length 64 := by
   rcases Nat.le_total l.length 64 with y | y
   ·rw [minS_le y,Nat.min_eq_left y]
   ·rw [minS_ge y,Nat.min_eq_right y]
  have hc' := cut_take hc rfl (Nat.min_le_left l.length 64)
  have eT : l.take (min l.length 64) = l.take 64 := by
   rcases Nat.le_total l.length 64 with y | y
   ·rw [Nat.min_eq_left y,List.take_of_length_le (Nat.le_refl _),List.take_of_length_le y]
   ·rw [Nat.min_eq_right y]
  rw [copy_ss Try.underlying33 sz5 h (by omega) h0,em,g,hk]
  have eZ : B zz = B (zz.take (l.take 64).length) ++ B (List.replicate (64 - l.length) 0) := by
   have : zz = zz.take (l.take 64).length ++ List.replicate (64 - l.length) 0 := by
    have hz : zz = List.replicate 64 0 := rfl
    rw [hz,List.take_replicate,List.length_take,List.replicate_append_replicate]
    congr 1
    omega
   conv => lhs; rw [this]
   simp [B]
  have ov : overE 0 (B (l.take 64)) (B zz) = some (B (pad64 l)) := by
   rw [eZ,over_pre _ _ (allSc_B _) _ (by simp [B_len,zz_len])]
   simp [B,pad64]
  rw [eT] at hc'
  simp only [atB_cells,Nat.zero_add,Nat.mul_one,hc',th_some,layB_cells,ov]
 rcases x with ⟨rfl,rfl⟩ | ⟨k2,o,cap,cs,ex,ro,rfl,h1,h2,h3,h4⟩ | ⟨k2,o,i,cs,ex,ro,rfl,h2,h3,h4⟩
 ·simp at h0
 ·exact key _ _ _ _ _ _ h3 h4
 ·rw [copy_es (c := l.length)]
  exact key _ _ _ _ _ _ h3 h4
def secs (l : List Nat) (n : Nat) : List (List Nat) := (List.range n).map fun i => pad64 (l.drop (64 * i))
theorem secs_succ (l : List Nat) (n : Nat) : secs l (n + 1) = secs l n ++ [pad64 (l.drop (64 * n))] := by simp [secs,List.range_succ]
def flB (L : List (List Nat)) : List AV := L.flatMap B
theorem flB_app (a b : List (List Nat)) : flB (a ++ b) = flB a ++ flB b := by simp [flB]
def nsec (n : Nat) : Nat := (n + 63) / 64
theorem bsS (s : List Nat) (hs : s.length = 64) (h : Heap) : bsE Try.prog 90 1 [(0, .agg (B s))] h = some (.slice h.next 0 1 1,h.new (.cells (B s) 0 false)) := bs_one Try.underlying90 (s := 63) (by kernel_rfl) (z := ((zeroE Try.prog 59).getD .bad)) (by kernel_rfl) (by kernel_rfl) (by decide) (by simp [B_len,hs]) (allSc_B s) h
set_option maxHeartbeats 1000000 in
theorem cut_ok (d : Nat) (h : Heap) (v : AV) (l : List Nat) (x : ByR h v l) (hl : l.length <= 60000) : G (callD env (d + 1) 26 [v] h) fun v' h' => Own 64 h.next h' v' (flB (secs l (nsec l.length))) (nsec l.length) /\ Keeps h h' := by
 refine G.gen fun Q hX => ?_
 obtain ⟨xo,xs,xl⟩ := x.ok
 rw [callD_run (E := env) [] (by kernel_rfl) Try.func26 rfl (by rw [Try.ntmps26]; simp) (by kernel_rfl)]; simp (maxSteps := 2000000) (implicitDefEqProofs := false) (disch := first | omega | (simp only [SD.down,uA,uL] <;> omega) | fail) only [Try.ntmps26,Try.results26,env_P,env_L,xo,xs,TQ.down,resE,oneV, ↓reduceIte,reduceCtorEq,uB,uE,uL,uA,uM,uS,uN,uX,uO,vR,vD,vL,vK,vE,vA,vM,vT,vS]
 rw [run_loop]
 refine loop_ind (fun j σ hh => ∃ q : Nat,q + j = nsec l.length /\ σ 0 = v /\ σ 4 = .int .i64 ((64 * q : Nat) : Int) /\ Own 64 h.next hh (σ 3) (flB (secs l q)) q /\ Keeps h hh) ?_ ?_ (nsec l.length) _ _ _ (by unfold nsec; simp; omega) ?_
 ·rintro mm σ hh ⟨q,hq,s0,s4,ow,k⟩
  have hq2 : l.length <= 64 * q := by unfold nsec at hq; omega
  obtain rfl : q = nsec l.length := by omega
  simp (maxSteps := 2000000) (implicitDefEqProofs := false) (disch := first | omega | (simp only [SD.down,uA,uL] <;> omega) | fail) only [run_it,s0,s4,xo,xs,xl,ow.ok,env_P,env_L,TQ.down,resE,oneV, ↓reduceIte,reduceCtorEq,uB,uE,uL,uA,uM,uS,uN,uX,uO,vR,vD,vL,vK,vE,vA,vM,vT,vS]
  subst hX
  exact G.ok ⟨ow,k⟩
 ·rintro j mm σ hh ⟨q,hq,s0,s4,ow,k⟩ ih
  have hq2 : 64 * q < l.length := by unfold nsec at hq; omega
  have kn := k.1
  have xx := x.keep k.1 fun j hj _ => k.2 j hj
  obtain ⟨u,hu,xu,⟨k2,o2,n2,c2,hsh⟩,bu⟩ := xx.tail (64 * q) hq2
  obtain ⟨uo,us,ul⟩ := xu.ok
  have h0 : 0 < (l.drop (64 * q)).length := by simp; omega
  have pl := pad64_len (l.drop (64 * q))
  have xu' := xu.keep (h' := hh.new (Blk.cells (B zz) 0 false)) (by simp (maxSteps := 2000000) (implicitDefEqProofs := false) (disch := first | omega | (simp only [SD.down,uA,uL] <;> omega) | fail) only [TQ.down,resE,oneV, ↓reduceIte,reduceCtorEq,uB,uE,uL,uA,uM,uS,uN,uX,uO,vR,vD,vL,vK,vE,vA,vM,vT,vS] <;> omega) fun j hj _ => by simp (maxSteps := 2000000) (implicitDefEqProofs := false) (disch := first | omega | (simp only [SD.down,uA,uL] <;> omega) | fail) only [TQ.down,resE,oneV, ↓reduceIte,reduceCtorEq,uB,uE,uL,uA,uM,uS,uN,uX,uO,vR,vD,vL,vK,vE,vA,vM,vT,vS]
  have ec := xu'.copy h0 hh.next (by simp (maxSteps := 2000000) (implicitDefEqProofs := false) (disch := first | omega | (simp only [SD.down,uA,uL] <;> omega) | fail) only [TQ.down,resE,oneV, ↓reduceIte,reduceCtorEq,uB,uE,uL,uA,uM,uS,uN,uX,uO,vR,vD,vL,vK,vE,vA,vM,vT,vS])
  generalize hP : pad64 (l.drop (64 * q)) = p at *
  have ow2 : Own 64 h.next (((hh.new (Blk.cells (B zz) 0 false)).put hh.next (some (Blk.cells (B p) 0 false))).new (Blk.cells (B p) 0 false)) (σ 3) (flB (secs l q)) q := ow.keep (by simp (maxSteps := 2000000) (implicitDefEqProofs := false) (disch := first | omega | (simp only [SD.down,uA,uL] <;> omega) | fail) only [TQ.down,resE,oneV, ↓reduceIte,reduceCtorEq,uB,uE,uL,uA,uM,uS,uN,uX,uO,vR,vD,vL,vK,vE,vA,vM,vT,vS] <;> omega) fun j hj => by have := (ow.ge hj).2; simp (maxSteps := 2000000) (implicitDefEqProofs := false) (disch := first | omega | (simp only [SD.down,uA,uL] <;> omega) | fail) only [TQ.down,resE,oneV, ↓reduceIte,reduceCtorEq,uB,uE,uL,uA,uM,uS,uN,uX,uO,vR,vD,vL,vK,vE,vA,vM,vT,vS]
  have gp : (((hh.new (Blk.cells (B zz) 0 false)).put hh.next (some (Blk.cells (B p) 0 false))).new (Blk.cells (B p) 0 false)).get (hh.next + 1) = some (.cells (B p) 0 false) := by simp (maxSteps := 2000000) (implicitDefEqProofs := false) (disch := first | omega | (simp only [SD.down,uA,uL] <;> omega) | fail) only [TQ.down,resE,oneV, ↓reduceIte,reduceCtorEq,uB,uE,uL,uA,uM,uS,uN,uX,uO,vR,vD,vL,vK,vE,vA,vM,vT,vS]
  obtain ⟨h',ea,ow',n',fr⟩ := ow2.app (m := 0) (c := 1) elS (by simp (maxSteps := 2000000) (implicitDefEqProofs := false) (disch := first | omega | (simp only [SD.down,uA,uL] <;> omega) | fail) only [TQ.down,resE,oneV, ↓reduceIte,reduceCtorEq,uB,uE,uL,uA,uM,uS,uN,uX,uO,vR,vD,vL,vK,vE,vA,vM,vT,vS] <;> omega) (small_ok elS.small (by unfold nsec at hq; omega)) gp (cut_all (by rw [B_len,pl]; rfl)) (by rw [B_len,pl]) (allSc_B p)
  simp (maxSteps := 2000000) (implicitDefEqProofs := false) (disch := first | omega | (simp only [SD.down,uA,uL] <;> omega) | fail) only [run_it,s0,s4,xo,xs,xl,ow.ok,hu,uo,us,zz_fold,ec,pl,cutB_all,over_B,bsS,apS,cls_append,ea,env_P,env_L,TQ.down,resE,oneV, ↓reduceIte,reduceCtorEq,uB,uE,uL,uA,uM,uS,uN,uX,uO,vR,vD,vL,vK,vE,vA,vM,vT,vS]
  simp (maxSteps := 2000000) (implicitDefEqProofs := false) (disch := first | omega | (simp only [SD.down,uA,uL] <;> omega) | fail) only [TQ.down,resE,oneV, ↓reduceIte,reduceCtorEq,uB,uE,uL,uA,uM,uS,uN,uX,uO,vR,vD,vL,vK,vE,vA,vM,vT,vS] at n' fr
  refine ih _ _ ⟨q + 1,by omega,by simp (maxSteps := 2000000) (implicitDefEqProofs := false) (disch := first | omega | (simp only [SD.down,uA,uL] <;> omega) | fail) only [s0,TQ.down,resE,oneV, ↓reduceIte,reduceCtorEq,uB,uE,uL,uA,uM,uS,uN,uX,uO,vR,vD,vL,vK,vE,vA,vM,vT,vS],by simp (maxSteps := 2000000) (implicitDefEqProofs := false) (disch := first | omega | (simp only [SD.down,uA,uL] <;> omega) | fail) only [TQ.down,resE,oneV, ↓reduceIte,reduceCtorEq,uB,uE,uL,uA,uM,uS,uN,uX,uO,vR,vD,vL,vK,vE,vA,vM,vT,vS]; rfl,by simp (maxSteps := 2000000) (implicitDefEqProofs := false) (disch := first | omega | (simp only [SD.down,uA,uL] <;> omega) | fail) only [TQ.down,resE,oneV, ↓reduceIte,reduceCtorEq,uB,uE,uL,uA,uM,uS,uN,uX,uO,vR,vD,vL,vK,vE,vA,vM,vT,vS]; rw [secs_succ,flB_app,hP]; simpa [flB] using ow',⟨by omega,fun j hj => ?_⟩⟩
  rw [fr j (by omega) fun e => by have := (ow.ge e).1; omega]
  simp (maxSteps := 2000000) (implicitDefEqProofs := false) (disch := first | omega | (simp only [SD.down,uA,uL] <;> omega) | fail) only [TQ.down,resE,oneV, ↓reduceIte,reduceCtorEq,uB,uE,uL,uA,uM,uS,uN,uX,uO,vR,vD,vL,vK,vE,vA,vM,vT,vS]
  exact k.2 j hj
 ·exact ⟨0,by omega,by simp (maxSteps := 2000000) (implicitDefEqProofs := false) (disch := first | omega | (simp only [SD.down,uA,uL] <;> omega) | fail) only [TQ.down,resE,oneV, ↓reduceIte,reduceCtorEq,uB,uE,uL,uA,uM,uS,uN,uX,uO,vR,vD,vL,vK,vE,vA,vM,vT,vS],by simp (maxSteps := 2000000) (implicitDefEqProofs := false) (disch := first | omega | (simp only [SD.down,uA,uL] <;> omega) | fail) only [TQ.down,resE,oneV, ↓reduceIte,reduceCtorEq,uB,uE,uL,uA,uM,uS,uN,uX,uO,vR,vD,vL,vK,vE,vA,vM,vT,vS],by simp (maxSteps := 2000000) (implicitDefEqProofs := false) (disch := first | omega | (simp only [SD.down,uA,uL] <;> omega) | fail) only [TQ.down,resE,oneV, ↓reduceIte,reduceCtorEq,uB,uE,uL,uA,uM,uS,uN,uX,uO,vR,vD,vL,vK,vE,vA,vM,vT,vS]; exact .inl ⟨rfl,rfl,rfl⟩,Keeps.refl h⟩
def plC (β : Nat) (m r hf : Int) : List AV := [.ptr β 0, .int .i64 m, .int .i64 r, .int .i64 hf]
def jPos (m r hf : Int) (i : Nat) : Int := 8 + hf * (gHalf m r : Nat) + i
theorem gHalf_ge {m r : Int} (hg : gOk m r = true) : 2 <= gHalf m r := by unfold gHalf; rw [if_pos hg]; omega
theorem jPos_pl {m r hf : Int} (hg : gOk m r = true) (h0 : 0 <= hf) (h1 : hf <= 1) {i : Nat} (hi : i < gHalf m r) : gPl m r 2 (hf * (gHalf m r : Nat) + i) = (jPos m r hf i,0) := by
 have e2 : gFst m r 2 = 8 := rfl
 have e3 : gFst m r (2 + 1) = ((8 + 2 * gHalf m r : Nat) : Int) := rfl
 have el : gLst 2 = 0 := rfl
 have hf2 : hf = 0 \/ hf = 1 := by omega
 unfold gPl
 rw [if_pos ⟨hg,by omega,by omega,by rcases hf2 with rfl | rfl <;> rw [el] <;> omega,by rw [e2,e3,el]; rcases hf2 with rfl | rfl <;> omega⟩,e2,el]
 unfold jPos
 congr 1
 omega
theorem cut12 (a b c d : AV) : cutE 1 2 [a,b,c,d] = some [b,c] := by simp [cutE]
theorem at_ok (d : Nat) (h : Heap) (β : Nat) (m r hf : Int) (hg : gOk m r = true) (h0 : 0 <= hf) (h1 : hf <= 1) (i : Nat) (hi : i < gHalf m r) : G (callD env (d + 10) 52 [.agg (plC β m r hf), .int .i64 (i : Int)] h) fun v h' => v = .int .i64 (jPos m r hf i) /\ Keeps h h' := by
 refine G.gen fun Q hX => ?_
 have hH := gHalf_le m r
 have hf2 : hf = 0 \/ hf = 1 := by omega
 obtain ⟨X,eX,hX1⟩ : ∃ X : Nat,hf * ((gHalf m r : Nat) : Int) = (X : Int) /\ X <= 920 := by
  rcases hf2 with rfl | rfl
  ·exact ⟨0,by omega,by omega⟩
  ·exact ⟨gHalf m r,by omega,by omega⟩
 have eP := jPos_pl hg h0 h1 hi
 rw [eX] at eP
 unfold plC
 rw [callD_run (E := env) [(1, .fl [(1,0,1),(3,0,1)])] (by kernel_rfl) Try.func52 rfl (by rw [Try.ntmps52]; simp) (by kernel_rfl)]; simp (maxSteps := 2000000) (implicitDefEqProofs := false) (disch := first | omega | (simp only [SD.down,uA,uL] <;> omega) | fail) only [Try.ntmps52,Try.results52,env_P,env_L,cut12,TQ.down,resE,oneV, ↓reduceIte,reduceCtorEq,uB,uE,uL,uA,uM,uS,uN,uX,uO,vR,vD,vL,vK,vE,vA,vM,vT,vS]
 first | refine G.call (half_ok (d + 2) _ m r) ?_ | refine G.callC (half_ok (d + 2) _ m r) ?_ | refine G.callL (half_ok (d + 2) _ m r) ?_
 rintro v h2 ⟨rfl,k1⟩
 have n1 := k1.1
 simp (maxSteps := 2000000) (implicitDefEqProofs := false) (disch := first | omega | (simp only [SD.down,uA,uL] <;> omega) | fail) only [TQ.down,resE,oneV, ↓reduceIte,reduceCtorEq,uB,uE,uL,uA,uM,uS,uN,uX,uO,vR,vD,vL,vK,vE,vA,vM,vT,vS] at n1
 have g0 : h2.get h.next = some (.cells [.ptr β 0, .int .i64 m, .int .i64 r, .int .i64 hf] 0 false) := by rw [k1.2 _ (by simp (maxSteps := 2000000) (implicitDefEqProofs := false) (disch := first | omega | (simp only [SD.down,uA,uL] <;> omega) | fail) only [TQ.down,resE,oneV, ↓reduceIte,reduceCtorEq,uB,uE,uL,uA,uM,uS,uN,uX,uO,vR,vD,vL,vK,vE,vA,vM,vT,vS] <;> omega)]; simp (maxSteps := 2000000) (implicitDefEqProofs := false) (disch := first | omega | (simp only [SD.down,uA,uL] <;> omega) | fail) only [TQ.down,resE,oneV, ↓reduceIte,reduceCtorEq,uB,uE,uL,uA,uM,uS,uN,uX,uO,vR,vD,vL,vK,vE,vA,vM,vT,vS]
 simp (maxSteps := 2000000) (implicitDefEqProofs := false) (disch := first | omega | (simp only [SD.down,uA,uL] <;> omega) | fail) only [eX,g0,cut12,env_P,env_L,TQ.down,resE,oneV, ↓reduceIte,reduceCtorEq,uB,uE,uL,uA,uM,uS,uN,uX,uO,vR,vD,vL,vK,vE,vA,vM,vT,vS]
 first | refine G.call (place_ok d _ m r 2 ((X : Int) + i) hg (by omega) (by omega) (by unfold gLst; simp; omega) (by omega)) ?_ | refine G.callC (place_ok d _ m r 2 ((X : Int) + i) hg (by omega) (by omega) (by unfold gLst; simp; omega) (by omega)) ?_ | refine G.callL (place_ok d _ m r 2 ((X : Int) + i) hg (by omega) (by omega) (by unfold gLst; simp; omega) (by omega)) ?_
 rintro v h3 ⟨rfl,k2⟩
 have n2 := k2.1
 have g0' := k2.at (by omega) g0
 rw [eP]
 simp (maxSteps := 2000000) (implicitDefEqProofs := false) (disch := first | omega | (simp only [SD.down,uA,uL] <;> omega) | fail) only [g0',g0,cut12,sgA,env_P,env_L,TQ.down,resE,oneV, ↓reduceIte,reduceCtorEq,uB,uE,uL,uA,uM,uS,uN,uX,uO,vR,vD,vL,vK,vE,vA,vM,vT,vS]
 subst hX
 exact G.ok ⟨rfl,(k1.pre (by simp (maxSteps := 2000000) (implicitDefEqProofs := false) (disch := first | omega | (simp only [SD.down,uA,uL] <;> omega) | fail) only [TQ.down,resE,oneV, ↓reduceIte,reduceCtorEq,uB,uE,uL,uA,uM,uS,uN,uX,uO,vR,vD,vL,vK,vE,vA,vM,vT,vS] <;> omega) (fun j hj => by simp (maxSteps := 2000000) (implicitDefEqProofs := false) (disch := first | omega | (simp only [SD.down,uA,uL] <;> omega) | fail) only [TQ.down,resE,oneV, ↓reduceIte,reduceCtorEq,uB,uE,uL,uA,uM,uS,uN,uX,uO,vR,vD,vL,vK,vE,vA,vM,vT,vS])).trans k2⟩
theorem sg88 (β : Nat) (m r hf : Int) : AV.same (.agg [.ptr β 0, .int .i64 m, .int .i64 r, .int .i64 hf]) (.agg [.ptr β 0, .int .i64 m, .int .i64 r, .int .i64 hf]) = true := by simp [AV.same,scsSame,scSame,ieq_eq]
def jOk (n : Nat) (m r hf : Int) : Bool := decide (gOk m r = true /\ m = (n : Int) /\ 0 <= hf /\ hf <= 1)
theorem check_ok (d : Nat) (h : Heap) (c : Col) (kb β cp : Nat) (ps : List Nat) (b : BS) (I : BusI h c kb β cp ps b) (w : b.wf) (m r hf : Int) : G (callD env (d + 4) 24 [.agg (plC β m r hf)] h) fun v h' => v = .int .i64 (cond (jOk b.ms.length m r hf) 0 2) /\ Keeps h h' := by
 refine G.gen fun Q hX => ?_
 have bm : ∀ (H : Heap),Keeps h H -> ∀ d,callD env (d + 3) 48 [.ptr β 0] H = some (.int .i64 (b.ms.length : Int),H) := fun H k d => bus_members d H c kb β cp ps b (I.keeps w.msl k fun _ _ => rfl) w
 have ck := fun (d : Nat) (h : Heap) => chk_ok d h m r
 have m0 := w.ms0
 unfold gA at ck
 unfold plC
 have bm1 := bm (h.new (Blk.cells [.ptr β 0, .int .i64 m, .int .i64 r, .int .i64 hf] 0 false)) ((Keeps.refl h).post (by simp (maxSteps := 2000000) (implicitDefEqProofs := false) (disch := first | omega | (simp only [SD.down,uA,uL] <;> omega) | fail) only [TQ.down,resE,oneV, ↓reduceIte,reduceCtorEq,uB,uE,uL,uA,uM,uS,uN,uX,uO,vR,vD,vL,vK,vE,vA,vM,vT,vS] <;> omega) (fun j hj => by simp (maxSteps := 2000000) (implicitDefEqProofs := false) (disch := first | omega | (simp only [SD.down,uA,uL] <;> omega) | fail) only [TQ.down,resE,oneV, ↓reduceIte,reduceCtorEq,uB,uE,uL,uA,uM,uS,uN,uX,uO,vR,vD,vL,vK,vE,vA,vM,vT,vS])) d
 have bm2 := bm ((h.new (Blk.cells [.ptr β 0, .int .i64 m, .int .i64 r, .int .i64 hf] 0 false)).new (Blk.cells [.int .i64 m, .int .i64 r] 0 false)) ((Keeps.refl h).post (by simp (maxSteps := 2000000) (implicitDefEqProofs := false) (disch := first | omega | (simp only [SD.down,uA,uL] <;> omega) | fail) only [TQ.down,resE,oneV, ↓reduceIte,reduceCtorEq,uB,uE,uL,uA,uM,uS,uN,uX,uO,vR,vD,vL,vK,vE,vA,vM,vT,vS] <;> omega) (fun j hj => by simp (maxSteps := 2000000) (implicitDefEqProofs := false) (disch := first | omega | (simp only [SD.down,uA,uL] <;> omega) | fail) only [TQ.down,resE,oneV, ↓reduceIte,reduceCtorEq,uB,uE,uL,uA,uM,uS,uN,uX,uO,vR,vD,vL,vK,vE,vA,vM,vT,vS])) d
 cases hj : jOk b.ms.length m r hf with
 | true =>
  obtain ⟨hg,rfl,h0,h1⟩ := of_decide_eq_true hj
  rw [hg] at ck
  rw [callD_run (E := env) [(3, .fl [(7,1,2)])] (by kernel_rfl) Try.func24 rfl (by rw [Try.ntmps24]; simp) (by kernel_rfl)]; simp (maxSteps := 2000000) (implicitDefEqProofs := false) (disch := first | omega | (simp only [SD.down,uA,uL] <;> omega) | fail) only [Try.ntmps24,Try.results24,env_P,env_L,cut12,bm1,ck,bm2,cond_true,TQ.down,resE,oneV, ↓reduceIte,reduceCtorEq,uB,uE,uL,uA,uM,uS,uN,uX,uO,vR,vD,vL,vK,vE,vA,vM,vT,vS]
  subst hX
  exact G.ok ⟨by rw [hj]; rfl,(Keeps.refl h).post (by simp (maxSteps := 2000000) (implicitDefEqProofs := false) (disch := first | omega | (simp only [SD.down,uA,uL] <;> omega) | fail) only [TQ.down,resE,oneV, ↓reduceIte,reduceCtorEq,uB,uE,uL,uA,uM,uS,uN,uX,uO,vR,vD,vL,vK,vE,vA,vM,vT,vS] <;> omega) (fun j hj => by simp (maxSteps := 2000000) (implicitDefEqProofs := false) (disch := first | omega | (simp only [SD.down,uA,uL] <;> omega) | fail) only [TQ.down,resE,oneV, ↓reduceIte,reduceCtorEq,uB,uE,uL,uA,uM,uS,uN,uX,uO,vR,vD,vL,vK,vE,vA,vM,vT,vS])⟩
 | false =>
  have hn := of_decide_eq_false hj
  cases hg : gOk m r with
  | false =>
   rw [hg] at ck
   rw [callD_run (E := env) [(3, .fl [(7,1,2)])] (by kernel_rfl) Try.func24 rfl (by rw [Try.ntmps24]; simp) (by kernel_rfl)]; simp (maxSteps := 2000000) (implicitDefEqProofs := false) (disch := first | omega | (simp only [SD.down,uA,uL] <;> omega) | fail) only [Try.ntmps24,Try.results24,env_P,env_L,cut12,bm1,ck,bm2,cond_false,TQ.down,resE,oneV, ↓reduceIte,reduceCtorEq,uB,uE,uL,uA,uM,uS,uN,uX,uO,vR,vD,vL,vK,vE,vA,vM,vT,vS]
   subst hX
   exact G.ok ⟨by rw [hj]; rfl,(Keeps.refl h).post (by simp (maxSteps := 2000000) (implicitDefEqProofs := false) (disch := first | omega | (simp only [SD.down,uA,uL] <;> omega) | fail) only [TQ.down,resE,oneV, ↓reduceIte,reduceCtorEq,uB,uE,uL,uA,uM,uS,uN,uX,uO,vR,vD,vL,vK,vE,vA,vM,vT,vS] <;> omega) (fun j hj => by simp (maxSteps := 2000000) (implicitDefEqProofs := false) (disch := first | omega | (simp only [SD.down,uA,uL] <;> omega) | fail) only [TQ.down,resE,oneV, ↓reduceIte,reduceCtorEq,uB,uE,uL,uA,uM,uS,uN,uX,uO,vR,vD,vL,vK,vE,vA,vM,vT,vS])⟩
  | true =>
   rw [hg] at ck
   by_cases hm : m = (b.ms.length : Int)
   ·subst hm
    by_cases h0 : hf < 0
    ·rw [callD_run (E := env) [(3, .fl [(7,1,2)])] (by kernel_rfl) Try.func24 rfl (by rw [Try.ntmps24]; simp) (by kernel_rfl)]; simp (maxSteps := 2000000) (implicitDefEqProofs := false) (disch := first | omega | (simp only [SD.down,uA,uL] <;> omega) | fail) only [Try.ntmps24,Try.results24,env_P,env_L,cut12,bm1,ck,bm2,cond_true,TQ.down,resE,oneV, ↓reduceIte,reduceCtorEq,uB,uE,uL,uA,uM,uS,uN,uX,uO,vR,vD,vL,vK,vE,vA,vM,vT,vS]
     subst hX
     exact G.ok ⟨by rw [hj]; rfl,(Keeps.refl h).post (by simp (maxSteps := 2000000) (implicitDefEqProofs := false) (disch := first | omega | (simp only [SD.down,uA,uL] <;> omega) | fail) only [TQ.down,resE,oneV, ↓reduceIte,reduceCtorEq,uB,uE,uL,uA,uM,uS,uN,uX,uO,vR,vD,vL,vK,vE,vA,vM,vT,vS] <;> omega) (fun j hj => by simp (maxSteps := 2000000) (implicitDefEqProofs := false) (disch := first | omega | (simp only [SD.down,uA,uL] <;> omega) | fail) only [TQ.down,resE,oneV, ↓reduceIte,reduceCtorEq,uB,uE,uL,uA,uM,uS,uN,uX,uO,vR,vD,vL,vK,vE,vA,vM,vT,vS])⟩
    ·have h1 : 1 < hf := by
      by_cases x : 1 < hf
      ·exact x
      ·exact absurd ⟨hg,rfl,by omega,by omega⟩ hn
     rw [callD_run (E := env) [(3, .fl [(7,1,2)])] (by kernel_rfl) Try.func24 rfl (by rw [Try.ntmps24]; simp) (by kernel_rfl)]; simp (maxSteps := 2000000) (implicitDefEqProofs := false) (disch := first | omega | (simp only [SD.down,uA,uL] <;> omega) | fail) only [Try.ntmps24,Try.results24,env_P,env_L,cut12,bm1,ck,bm2,cond_true,TQ.down,resE,oneV, ↓reduceIte,reduceCtorEq,uB,uE,uL,uA,uM,uS,uN,uX,uO,vR,vD,vL,vK,vE,vA,vM,vT,vS]
     subst hX
     exact G.ok ⟨by rw [hj]; rfl,(Keeps.refl h).post (by simp (maxSteps := 2000000) (implicitDefEqProofs := false) (disch := first | omega | (simp only [SD.down,uA,uL] <;> omega) | fail) only [TQ.down,resE,oneV, ↓reduceIte,reduceCtorEq,uB,uE,uL,uA,uM,uS,uN,uX,uO,vR,vD,vL,vK,vE,vA,vM,vT,vS] <;> omega) (fun j hj => by simp (maxSteps := 2000000) (implicitDefEqProofs := false) (disch := first | omega | (simp only [SD.down,uA,uL] <;> omega) | fail) only [TQ.down,resE,oneV, ↓reduceIte,reduceCtorEq,uB,uE,uL,uA,uM,uS,uN,uX,uO,vR,vD,vL,vK,vE,vA,vM,vT,vS])⟩
   ·rw [callD_run (E := env) [(3, .fl [(7,1,2)])] (by kernel_rfl) Try.func24 rfl (by rw [Try.ntmps24]; simp) (by kernel_rfl)]; simp (maxSteps := 2000000) (implicitDefEqProofs := false) (disch := first | omega | (simp only [SD.down,uA,uL] <;> omega) | fail) only [Try.ntmps24,Try.results24,env_P,env_L,cut12,bm1,ck,bm2,cond_true,TQ.down,resE,oneV, ↓reduceIte,reduceCtorEq,uB,uE,uL,uA,uM,uS,uN,uX,uO,vR,vD,vL,vK,vE,vA,vM,vT,vS]
    subst hX
    exact G.ok ⟨by rw [hj]; rfl,(Keeps.refl h).post (by simp (maxSteps := 2000000) (implicitDefEqProofs := false) (disch := first | omega | (simp only [SD.down,uA,uL] <;> omega) | fail) only [TQ.down,resE,oneV, ↓reduceIte,reduceCtorEq,uB,uE,uL,uA,uM,uS,uN,uX,uO,vR,vD,vL,vK,vE,vA,vM,vT,vS] <;> omega) (fun j hj => by simp (maxSteps := 2000000) (implicitDefEqProofs := false) (disch := first | omega | (simp only [SD.down,uA,uL] <;> omega) | fail) only [TQ.down,resE,oneV, ↓reduceIte,reduceCtorEq,uB,uE,uL,uA,uM,uS,uN,uX,uO,vR,vD,vL,vK,vE,vA,vM,vT,vS])⟩
structure BOk (b : BS) : Prop where
 w : b.wf
 lg : b.lgB b.log.length
theorem ioR_log (b : BS) (t : Ent) (act : BS -> Int × List Nat × BS) : (b.ioR t act).2.log = b.log ++ [(b.ioR t act).1] := by
 unfold BS.ioR
 rfl
theorem lgB_mono {b : BS} {n k : Nat} (h : b.lgB n) (hk : n <= k) : b.lgB k := fun S hS => Nat.le_trans (h S hS) hk
theorem ioR_lgB {b : BS} {n : Nat} (hb : b.lgB n) (t : Ent) (act : BS -> Int × List Nat × BS) (h : b.ahead.lgB n -> (act b.ahead).2.2.lgB (n + 1)) : (b.ioR t act).2.lgB (n + 1) := by
 have ha : b.ahead.lgB n := aheadL_lgB _ _ _ hb
 unfold BS.ioR
 simp only
 split
 ·exact lgB_mono (n := n) ha (by omega)
 ·exact h ha
theorem atAct_lgB {b : BS} {n : Nat} (t : Ent) (am : MS -> Int × List Nat × MS) (hb : b.lgB n) (ham : ∀ S,(am S).2.2.lg.length <= S.lg.length + 1) : (atAct t am b).2.2.lgB (n + 1) := by
 unfold atAct
 split
 ·exact lgB_mono hb (by omega)
 ·split
  ·rename_i S hS
   intro T hT
   rcases List.mem_or_eq_of_mem_set hT with q | rfl
   ·exact Nat.le_trans (hb T q) (by omega)
   ·have := ham S
    have := hb S (List.mem_of_getElem? hS)
    omega
  ·exact lgB_mono hb (by omega)
theorem BOk.write {b : BS} (B : BOk b) (hl : b.log.length < 3989) (m i : Int) (s : List Nat) (hs : s.length = 64) : BOk (b.write m i s).2 /\ (b.write m i s).2.log.length = b.log.length + 1 := by
 have e := ioR_log b ⟨2,m,i,s,0⟩ (atAct ⟨2,m,i,s,0⟩ (amWrite ⟨2,m,i,s,0⟩))
 have e2 : (b.write m i s).2.log.length = b.log.length + 1 := by show (b.ioR _ _).2.log.length = _; rw [e]; simp
 refine ⟨⟨BS.write_wf B.w m i s hs hl B.lg (by omega), ?_⟩,e2⟩
 rw [e2]
 refine ioR_lgB B.lg _ _ fun ha => atAct_lgB _ _ ha fun S => ?_
 show (S.write i s).1.lg.length <= _
 unfold MS.write
 split <;> simp
theorem BOk.flush {b : BS} (B : BOk b) (hl : b.log.length < 3989) (m : Int) : BOk (b.flush m).2 /\ (b.flush m).2.log.length = b.log.length + 1 := by
 have e := ioR_log b ⟨3,m,0,zz,0⟩ (atAct ⟨3,m,0,zz,0⟩ (amFlush ⟨3,m,0,zz,0⟩))
 have e2 : (b.flush m).2.log.length = b.log.length + 1 := by show (b.ioR _ _).2.log.length = _; rw [e]; simp
 refine ⟨⟨BS.flush_wf B.w m hl, ?_⟩,e2⟩
 rw [e2]
 refine ioR_lgB B.lg _ _ fun ha => atAct_lgB _ _ ha fun S => ?_
 show S.flush.1.lg.length <= _
 unfold MS.flush MS.settle
 split <;> simp
theorem BOk.read {b : BS} (B : BOk b) (hl : b.log.length < 3989) (m i : Int) : BOk (b.read m i).2 /\ (b.read m i).2.log.length = b.log.length + 1 := by
 have e := ioR_log b ⟨1,m,i,zz,0⟩ (atAct ⟨1,m,i,zz,0⟩ (amRead ⟨1,m,i,zz,0⟩))
 have e2 : (b.read m i).2.log.length = b.log.length + 1 := by show (b.ioR _ _).2.log.length = _; rw [e]; simp
 refine ⟨⟨BS.read_wf B.w m i hl, ?_⟩,e2⟩
 rw [e2]
 refine ioR_lgB B.lg _ _ fun ha => atAct_lgB _ _ ha fun S => ?_
 show S.lg.length <= _
 omega
end Go.Proofs.Ytlnepbkeiianmaa
