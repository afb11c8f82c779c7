/- Of this program, for all inputs: contracts. No condition but those in the theorems. -/
import Derived.Test.YtfjcfjfgamajkaaPA
import Derived.Test.YtfjcfjfgamajkaaPB
namespace Go.Aw
open Go Go.Ai
set_option linter.unusedSimpArgs false
set_option linter.unusedVariables false
variable {P : Program} {h : Heap}
/-! parts of a slice that may have room -/
theorem idx_nat (x m : Nat) (h : x < m) : idxE (x : Int) m = some x := by unfold idxE; rw [if_pos ⟨by omega,by omega⟩]; simp
theorem sl_es_hi {t e n : Nat} (hu : P.underlying t = some (.slice e)) (hz : szE P e = some n) (k o i len : Nat) {q : IntKind} (x : Nat) (hx : x <= len) : sliceE P t (.eslice k o i len) none (some (.int q (x : Int))) none = some (.eslice k o i x) := by
 simp only [sliceE,sliceK,unK_E,hu,th_some,bndK_E,bndE,asIE,szK_E,hz,fN_eq,idx_nat x (len + 1) (by omega)]
theorem sl_es_lo {t e n : Nat} (hu : P.underlying t = some (.slice e)) (hz : szE P e = some n) (k o i len : Nat) {q : IntKind} (x : Nat) (hx : x < len) : sliceE P t (.eslice k o i len) (some (.int q (x : Int))) none none = some (.eslice k (o + x * n) (i + x) (len - x)) := by
 simp only [sliceE,sliceK,unK_E,hu,th_some,bndK_E,bndE,asIE,szK_E,hz,fN_eq,idx_nat x (len + 1) (by omega)]
 cases x with
 | zero => simp
 | succ y =>
  have h2 : Nat.blt (y + 1) len = true := Nat.blt_eq.mpr hx
  simp only [h2]
theorem sl_es_end {t e n : Nat} (hu : P.underlying t = some (.slice e)) (hz : szE P e = some n) (k o i len : Nat) {q : IntKind} : sliceE P t (.eslice k o i (len + 1)) (some (.int q ((len + 1 : Nat) : Int))) none none = some (.tslice k o i (len + 1) n) := by
 simp only [sliceE,sliceK,unK_E,hu,th_some,bndK_E,bndE,asIE,szK_E,hz,fN_eq,idx_nat (len + 1) (len + 1 + 1) (by omega)]
 have h2 : Nat.blt (len + 1) (len + 1) = false := by
  cases hc : Nat.blt (len + 1) (len + 1) with
  | false => rfl
  | true => have := Nat.blt_eq.mp hc; omega
 simp only [h2]
theorem sl_ts_hi {t e n : Nat} (hu : P.underlying t = some (.slice e)) (hz : szE P e = some n) (k o i m s : Nat) {q : IntKind} : sliceE P t (.tslice k o i m s) none (some (.int q 0)) none = some (.tslice k o i m s) := by
 simp only [sliceE,sliceK,unK_E,hu,th_some,bndK_E,bndE,asIE,szK_E,hz,fN_eq]
 rfl
theorem sl_ts_lo {t e n : Nat} (hu : P.underlying t = some (.slice e)) (hz : szE P e = some n) (k o i m s : Nat) {q : IntKind} : sliceE P t (.tslice k o i m s) (some (.int q 0)) none none = some (.tslice k o i m s) := by
 simp only [sliceE,sliceK,unK_E,hu,th_some,bndK_E,bndE,asIE,szK_E,hz,fN_eq]
 rfl
theorem sl_nil_hi {t e n : Nat} (hu : P.underlying t = some (.slice e)) (hz : szE P e = some n) {q : IntKind} : sliceE P t .nilslice none (some (.int q 0)) none = some .nilslice := by
 simp only [sliceE,sliceK,unK_E,hu,th_some,bndK_E,bndE,asIE,szK_E,hz,fN_eq]
 rfl
theorem sl_nil_lo {t e n : Nat} (hu : P.underlying t = some (.slice e)) (hz : szE P e = some n) {q : IntKind} : sliceE P t .nilslice (some (.int q 0)) none none = some .nilslice := by
 simp only [sliceE,sliceK,unK_E,hu,th_some,bndK_E,bndE,asIE,szK_E,hz,fN_eq]
 rfl
theorem sl_s_hi {t e n : Nat} (hu : P.underlying t = some (.slice e)) (hz : szE P e = some n) (k o c : Nat) {q : IntKind} : sliceE P t (.slice k o 0 c) none (some (.int q 0)) none = some (.slice k o 0 c) := by
 simp only [sliceE,sliceK,unK_E,hu,th_some,bndK_E,bndE,asIE,szK_E,hz,fN_eq,idx_nat 0 (c + 1) (by omega)]
 have h0 : idxE 0 (c + 1) = some 0 := idx_nat 0 (c + 1) (by omega)
 simp only [h0,th_some]
 cases h : Nat.beq c 0 with
 | true => rfl
 | false => simp
theorem sl_s_lo {t e n : Nat} (hu : P.underlying t = some (.slice e)) (hz : szE P e = some n) (k o c : Nat) {q : IntKind} : sliceE P t (.slice k o 0 c) (some (.int q 0)) none none = some (.slice k o 0 c) := by
 simp only [sliceE,sliceK,unK_E,hu,th_some,bndK_E,bndE,asIE,szK_E,hz,fN_eq]
 have h0 : idxE 0 (0 + 1) = some 0 := idx_nat 0 1 (by omega)
 simp only [h0,th_some]
 cases h : Nat.beq c 0 with
 | true => rfl
 | false => simp
theorem len_ts {t e : Nat} (hu : P.underlying t = some (.slice e)) (k o i m s : Nat) : lenE P t (.tslice k o i m s) = some (.int .i64 0) := by
 simp only [lenE,lenK,unK_E,hu,th_some,fN_eq]; rfl
end Go.Aw
namespace Go.Proofs.Ytfjcfjfgamajkaa
open Go Go.Ai Go.Aw Go.Proofs
open Nat renaming reduceBEq -> uB,reduceEqDiff -> uE,reduceLT -> uL,reduceAdd -> uA,reduceMul -> uM,reduceSub -> uS,reduceAnd -> uN,reduceXor -> uX,reduceOr -> uO
open Int renaming reduceMod -> vR,reduceDiv -> vD,reduceLT -> vL,reduceLE -> vK,reduceEq -> vE,reduceAdd -> vA,reduceMul -> vM,reduceToNat -> vT,reduceSub -> vS
set_option linter.unusedSimpArgs false
set_option linter.unusedVariables false
set_option maxRecDepth 10000
def PickS (h : Heap) (c : Col) (kk : Nat) (v : AV) (l : List Nat) : Prop :=
 (l = [] /\ (v = .nilslice \/ (∃ q o n,v = .slice q o 0 n) \/ (∃ k o i,v = .eslice k o i 0) \/ ∃ k o i m s,v = .tslice k o i m s)) \/
 ∃ (K o i : Nat) (cells : List AV) (ext : Nat),l ≠ [] /\ v = .eslice K o i l.length /\ K < h.next /\ c K = kk /\ h.get K = some (.cells cells ext false) /\ cutE o l.length cells = some (B l)
theorem PickS.ok {h : Heap} {c : Col} {kk : Nat} {v : AV} {l : List Nat} (x : PickS h c kk v l) : okv v = some v /\ isSc v = true /\ AV.same v v = true := by
 rcases x with ⟨_,rfl | ⟨q,o,n,rfl⟩ | ⟨k,o,i,rfl⟩ | ⟨k,o,i,m,s,rfl⟩⟩ | ⟨K,o,i,cs,ext,_,rfl,_⟩
 ·exact ⟨rfl,rfl,rfl⟩
 ·exact ⟨rfl,rfl,same_slice ..⟩
 ·exact ⟨rfl,rfl,same_eslice ..⟩
 ·exact ⟨rfl,rfl,by simp [AV.same,scSame]⟩
 ·exact ⟨rfl,rfl,same_eslice ..⟩
theorem PickS.len {h : Heap} {c : Col} {kk : Nat} {v : AV} {l : List Nat} (x : PickS h c kk v l) : lenE Try.prog 40 v = some (.int .i64 (l.length : Int)) := by
 rcases x with ⟨rfl,rfl | ⟨q,o,n,rfl⟩ | ⟨k,o,i,rfl⟩ | ⟨k,o,i,m,s,rfl⟩⟩ | ⟨K,o,i,cs,ext,_,rfl,_⟩
 ·exact lnn40
 ·exact lns40 ..
 ·exact lne40 ..
 ·exact len_ts Try.underlying40 ..
 ·exact lne40 ..
theorem PickS.keep {h h' : Heap} {c c' : Col} {kk : Nat} {v : AV} {l : List Nat} (x : PickS h c kk v l) (n : h.next <= h'.next) (g : ∀ j,j < h.next -> c j = kk -> h'.get j = h.get j \/ ∀ q e,h.get j ≠ some (.cells q e false)) (e : ∀ j,j < h.next -> c j = kk -> c' j = kk) : PickS h' c' kk v l := by
 rcases x with x | ⟨K,o,i,cs,ext,hl,rfl,h1,h2,h3,h4⟩
 ·exact .inl x
 ·refine .inr ⟨K,o,i,cs,ext,hl,rfl,Nat.lt_of_lt_of_le h1 n,e _ h1 h2, ?_,h4⟩
  rcases g K h1 h2 with q | q
  ·exact q.trans h3
  ·exact absurd h3 (q _ _)
theorem PickS.keeps {h h' : Heap} {c c' : Col} {kk : Nat} {v : AV} {l : List Nat} (x : PickS h c kk v l) (k : Keeps h h') (e : ∀ j,j < h.next -> c j = kk -> c' j = kk) : PickS h' c' kk v l := x.keep k.1 (fun j hj _ => .inl (k.2 j hj)) e
theorem cutE_len {o n : Nat} {l r : List AV} (h : cutE o n l = some r) : o + n <= l.length := by
 unfold cutE at h
 split at h
 ·assumption
 ·cases h
theorem PickS.take {h : Heap} {c : Col} {kk : Nat} {v : AV} {l : List Nat} (x : PickS h c kk v l) (n : Nat) (hn : n <= l.length) : ∃ v',sliceE Try.prog 40 v none (some (.int .i64 (n : Int))) none = some v' /\ PickS h c kk v' (l.take n) := by
 rcases x with ⟨rfl,x⟩ | ⟨K,o,i,cs,ext,hl,rfl,h1,h2,h3,h4⟩
 ·obtain rfl : n = 0 := by simpa using hn
  refine ⟨v, ?_, .inl ⟨rfl,x⟩⟩
  rcases x with rfl | ⟨q,o,n,rfl⟩ | ⟨k,o,i,rfl⟩ | ⟨k,o,i,m,s,rfl⟩
  ·exact sl_nil_hi Try.underlying40 sz5
  ·exact sl_s_hi Try.underlying40 sz5 ..
  ·exact sl_es_hi Try.underlying40 sz5 _ _ _ 0 0 (Nat.le_refl _)
  ·exact sl_ts_hi Try.underlying40 sz5 ..
 ·refine ⟨_,sl_es_hi Try.underlying40 sz5 K o i l.length n hn, ?_⟩
  by_cases h0 : n = 0
  ·subst h0; exact .inl ⟨rfl, .inr (.inr (.inl ⟨K,o,i,rfl⟩))⟩
  ·have hlen : (l.take n).length = n := by rw [List.length_take]; omega
   refine .inr ⟨K,o,i,cs,ext,fun e => ?_,by rw [hlen],h1,h2,h3, ?_⟩
   ·rw [e] at hlen; simp at hlen; omega
   ·have hle := cutE_len h4
    rw [cutE_of hle] at h4
    have h5 := Option.some.inj h4
    rw [hlen,cutE_of (by omega)]
    have : B (l.take n) = (B l).take n := by simp [B]
    rw [this,<- h5,List.take_take,Nat.min_eq_left hn]
theorem PickS.drop {h : Heap} {c : Col} {kk : Nat} {v : AV} {l : List Nat} (x : PickS h c kk v l) (n : Nat) (hn : n <= l.length) : ∃ v',sliceE Try.prog 40 v (some (.int .i64 (n : Int))) none none = some v' /\ PickS h c kk v' (l.drop n) := by
 rcases x with ⟨rfl,x⟩ | ⟨K,o,i,cs,ext,hl,rfl,h1,h2,h3,h4⟩
 ·obtain rfl : n = 0 := by simpa using hn
  rcases x with rfl | ⟨q,o,n,rfl⟩ | ⟨k,o,i,rfl⟩ | ⟨k,o,i,m,s,rfl⟩
  ·exact ⟨_,sl_nil_lo Try.underlying40 sz5, .inl ⟨rfl, .inl rfl⟩⟩
  ·exact ⟨_,sl_s_lo Try.underlying40 sz5 .., .inl ⟨rfl, .inr (.inl ⟨q,o,n,rfl⟩)⟩⟩
  ·refine ⟨.eslice k o i 0, ?_, .inl ⟨rfl, .inr (.inr (.inl ⟨k,o,i,rfl⟩))⟩⟩
   have := sl_es_hi (P := Try.prog) Try.underlying40 sz5 k o i 0 (q := .i64) 0 (Nat.le_refl _)
   simp only [sliceE,sliceK,unK_E,Try.underlying40,th_some,bndK_E,bndE,asIE,szK_E,sz5,fN_eq]
   have h0 : idxE 0 (0 + 1) = some 0 := idx_nat 0 1 (by omega)
   rfl
  ·exact ⟨_,sl_ts_lo Try.underlying40 sz5 .., .inl ⟨rfl, .inr (.inr (.inr ⟨k,o,i,m,s,rfl⟩))⟩⟩
 ·by_cases hlt : n < l.length
  ·refine ⟨_,sl_es_lo Try.underlying40 sz5 K o i l.length n hlt, ?_⟩
   have hlen : (l.drop n).length = l.length - n := List.length_drop ..
   refine .inr ⟨K,o + n * 1,i + n,cs,ext,fun e => ?_,by rw [hlen],h1,h2,h3, ?_⟩
   ·rw [e] at hlen; simp at hlen; omega
   ·have hle := cutE_len h4
    rw [cutE_of hle] at h4
    have h5 := Option.some.inj h4
    rw [hlen,cutE_of (by omega)]
    have : B (l.drop n) = (B l).drop n := by simp [B]
    rw [this,<- h5,Nat.mul_one,<- List.drop_drop,List.drop_take]
  ·obtain rfl : n = l.length := by omega
   obtain ⟨m,hm⟩ : ∃ m,l.length = m + 1 := ⟨l.length - 1,by have := List.length_pos_iff.2 hl; omega⟩
   rw [hm]
   exact ⟨_,sl_es_end Try.underlying40 sz5 K o i m, .inl ⟨by rw [<- hm]; exact List.drop_length, .inr (.inr (.inr ⟨_,_,_,_,_,rfl⟩))⟩⟩
theorem PickI.S {h : Heap} {c : Col} {k : Nat} {v : AV} {ex : List Nat} {l : List Nat} (x : PickI h c k v ex l) : PickS h c k v l := by
 rcases x with ⟨rfl,rfl | ⟨q,o,n,rfl⟩⟩ | ⟨K,rfl,h1,h2,h3,h4⟩
 ·exact .inl ⟨rfl, .inl rfl⟩
 ·exact .inl ⟨rfl, .inr (.inl ⟨q,o,n,rfl⟩)⟩
 ·by_cases h0 : l = []
  ·subst h0; exact .inl ⟨rfl, .inr (.inr (.inl ⟨K,0,0,rfl⟩))⟩
  ·exact .inr ⟨K,0,0,B l,1,h0,rfl,h1,h2,h4,cut_all (by simp [B_len])⟩
theorem crash_pick (d : Nat) (h : Heap) (c : Col) (kk p q : Nat) (pv : AV) (l : List Nat) (hp : h.get p = some (.cells [pv] 0 false)) (x : PickS h c kk pv l) : callD env (d + 4) 151 [.int .i64 (q : Int), .ptr p 0] h = some (.bool (decide (l.getD q 0 % 256 ≠ 0)),h) := by
 have hlen := x.len
 obtain ⟨hok,hsc,hsm⟩ := x.ok
 by_cases hq : q < l.length
 ·have hd : decide ((q : Int) < (l.length : Int)) = true := decide_eq_true (by omega)
  rcases x with ⟨rfl,_⟩ | ⟨K,o,i,cs,ext,hl,rfl,h1,h2,h3,h4⟩
  ·simp at hq
  have hcell : cs[o + q]? = some (b8 (l.getD q 0)) := by
   have hle := cutE_len h4
   rw [cutE_of hle] at h4
   have h5 := Option.some.inj h4
   have : ((cs.drop o).take l.length)[q]? = cs[o + q]? := by rw [List.getElem?_take_of_lt hq,List.getElem?_drop]
   rw [<- this,h5]
   simp [B,List.getElem?_map,List.getElem?_eq_getElem hq,List.getD_eq_getElem?_getD]
  generalize l.getD q 0 = z at hcell ⊢
  rw [callD_run (E := env) [] (by kernel_rfl) Try.func151 rfl (by rw [Try.ntmps151]; simp) (by kernel_rfl)]; simp (disch := first | omega | (simp only [SD.down,uA,uL] <;> omega) | fail) only [Try.ntmps151,Try.results151,env_P,env_L,hp,hok,hsc,hlen,hd,h3,hcell,TQ.down,resE,oneV, ↓reduceIte,reduceCtorEq,uB,uE,uL,uA,uM,uS,vL,vK,vE,vA,vS]
  congr 3
  simp
 ·have hd : decide ((q : Int) < (l.length : Int)) = false := decide_eq_false (by omega)
  have hz : l.getD q 0 = 0 := by rw [List.getD_eq_getElem?_getD,List.getElem?_eq_none (by omega)]; rfl
  rw [hz]
  rw [callD_run (E := env) [] (by kernel_rfl) Try.func151 rfl (by rw [Try.ntmps151]; simp) (by kernel_rfl)]; simp (disch := first | omega | (simp only [SD.down,uA,uL] <;> omega) | fail) only [Try.ntmps151,Try.results151,env_P,env_L,hp,hok,hsc,hlen,hd,TQ.down,resE,oneV, ↓reduceIte,reduceCtorEq,uB,uE,uL,uA,uM,uS,vL,vK,vE,vA,vS]
  rfl
theorem m_crash (d : Nat) (h : Heap) (c : Col) (k kk m : Nat) (S : MS) (I : MemI h c k m S) (w : S.wf) (hk : kk ≠ k) (pv : AV) (l : List Nat) (x : PickS h c kk pv l) :
  G (callD env (d + 6) 144 [.ptr m 0,pv] h) fun v h' => v = .int .i64 0 /\ MemI h' (pnt c h.next k) k m (S.crash l) /\ Fr (· = k) c h h' := by
 refine G.gen fun Q hX => ?_
 have I0 := I
 obtain ⟨a,b,lgv,mk,l1,l2,l3,c1,c2,c3,n1,n2,n3,hm,ha,hb,hlg,mks⟩ := I
 unfold memG at hm
 have e1 : decide (0 < (S.n : Int)) = true := decide_eq_true (by have := w.n0; omega)
 obtain ⟨hok,hsc,hsm⟩ := x.ok
 have hcl : pv.cells = [pv] := by
  rcases x with ⟨_,rfl | ⟨q,o,n,rfl⟩ | ⟨k,o,i,rfl⟩ | ⟨k,o,i,m,s,rfl⟩⟩ | ⟨K,o,i,cs,ext,_,rfl,_⟩ <;> rfl
 rw [callD_run (E := env) [] (by kernel_rfl) Try.func144 rfl (by rw [Try.ntmps144]; simp) (by kernel_rfl)]; simp (disch := first | omega | (simp only [SD.down,uA,uL] <;> omega) | fail) only [Try.ntmps144,Try.results144,env_P,env_L,hm,in59,Try.f59,e1,hok,hsc,hcl,TQ.down,resE,oneV, ↓reduceIte,reduceCtorEq,uB,uE,uL,uA,uM,uS,vL,vK,vE,vA,vS]
 have kp : Keeps h (h.new (Blk.cells [pv] 0 false)) := ⟨by simp (disch := omega) only [TH.down,uA,uB]; omega,fun j hj => by simp (disch := omega) only [TH.down,uA,uB]⟩
 have nx : (h.new (Blk.cells [pv] 0 false)).next = h.next + 1 := by simp (disch := omega) only [TH.down,uA,uB]
 have gp : (h.new (Blk.cells [pv] 0 false)).get h.next = some (.cells [pv] 0 false) := by simp (disch := omega) only [TH.down,uA,uB]
 generalize h.new (Blk.cells [pv] 0 false) = h2 at kp nx gp ⊢
 have ck : kk ≠ k := hk
 refine G.call (m_settle d h2 (pnt c h.next (k + 1)) k m S (I0.keeps kp (fun j hj hc => (pnt_lt hj).trans hc)) w 151 [.ptr h.next 0] (fun q => decide (l.getD q 0 % 256 ≠ 0)) (by simp) (fun H q fr => crash_pick d H (pnt c h.next (k + 1)) kk h.next q pv l ((fr.get _ (by omega) (by rw [pnt_ge (Nat.le_refl _)]; omega)).trans gp) ((x.keeps kp (fun j hj hc => (pnt_lt hj).trans hc)).keep fr.le (fun j hj hc => .inl (fr.get j hj (by rw [hc]; exact hk))) (fun _ _ q => q)))) ?_
 rintro v h3 ⟨rfl,J,fr⟩
 simp (disch := omega) only [TQ.down,resE,oneV, ↓reduceIte,reduceCtorEq,uB,uE,uL,uA,uM,vE]
 subst hX
 refine G.ok ⟨rfl,J.keep (Nat.le_refl _) (fun _ _ _ => rfl) (fun j hj hc => ?_),⟨Nat.le_trans kp.1 fr.le,fun j hj hc => (fr.get j (by omega) (by rw [pnt_lt hj]; exact hc)).trans (kp.2 j hj)⟩⟩
 by_cases h1 : j < h.next
 ·rw [pnt_lt (by omega),pnt_lt h1] at hc
  rw [pnt_lt h1]; exact hc
 ·exact pnt_ge (by omega)
theorem crashL_drop (S : MS) (r : List MS) (p : List Nat) : crashL (S :: r) p = S.crash (p.take (min S.lg.length p.length)) :: crashL r (p.drop (min S.lg.length p.length)) := by
 rw [crashL]
 rcases Nat.le_total S.lg.length p.length with h | h
 ·rw [Nat.min_eq_left h]
 ·rw [Nat.min_eq_right h,List.take_of_length_le h,List.drop_of_length_le h,List.take_of_length_le (Nat.le_refl _),List.drop_length]
theorem cls_min2 {P : Program} {dd : Option Tmp} {t : TypeId} {p : String} {a : Array Edge} {g : Option (Nat × Bool)} (xs : Array Operand) (ts : Array TypeId) : cls P ⟨dd, .call ⟨.builtin .min,xs,ts⟩,t,p,a,g⟩ = .p := rfl
theorem opE_min2 {P : Program} {call : CallK} {ρ : Operand -> AV} {h : Heap} {dd : Option Tmp} {t : TypeId} {p : String} {a : Array Edge} {g : Option (Nat × Bool)} (x y : Operand) (ts : Array TypeId) : opE P call ρ ⟨dd, .call ⟨.builtin .min,#[x,y],ts⟩,t,p,a,g⟩ h = th (okvs [ρ x,ρ y]) fun vs => th (minMaxK false vs some) fun v => some (v,h) := opE_min _ rfl
theorem min_i64 (x y : Nat) : minMaxK false [.int .i64 (x : Int), .int .i64 (y : Int)] some = some (.int .i64 ((min x y : Nat) : Int)) := by
 rcases Nat.le_total x y with h | h
 ·rw [Nat.min_eq_left h]
  simp only [minMaxK,if_true,Ai.ile_eq,decide_eq_true (show (x : Int) <= (y : Int) by omega)]
 ·rw [Nat.min_eq_right h]
  by_cases he : x = y
  ·subst he; simp only [minMaxK,if_true,Ai.ile_eq,decide_eq_true (show (x : Int) <= (x : Int) by omega)]
  ·simp only [minMaxK,if_true,Ai.ile_eq,decide_eq_false (show ¬ (x : Int) <= (y : Int) by omega)]
set_option maxHeartbeats 2000000 in
theorem bus_crash (d : Nat) (h : Heap) (c : Col) (kb β cp : Nat) (ps : List Nat) (b : BS) (kb10 : 10 <= kb) (I : BusI h c kb β cp ps b) (w : b.wf) (pv : AV) (l : List Nat) (x : PickS h c kb pv l) (hpb : ∀ q o i n,pv = .eslice q o i n -> q ≠ β) :
  G (callD env (d + 7) 119 [.ptr β 0,pv] h) fun v h' => v = .tup [] /\ ∃ C',BusI h' C' kb β cp ps { b with ms := crashL b.ms l,off := true } /\ h.next <= h'.next /\ (∀ j,j < h.next -> C' j = c j) /\ ∀ j,j < h.next -> (c j < kb + 2 \/ kb + 100 <= c j) -> j ≠ β -> h'.get j = h.get j := by
 refine G.gen fun Q hX => ?_
 have I0 := I
 obtain ⟨Ms,stv,lgv,l1,c1,l2,c2,n1,g1,g2,pl,mm,ce,st,lg⟩ := I
 have hml := w.msl
 obtain ⟨hok,hsc,hsm⟩ := x.ok
 rw [callD_run (E := env) [] (by kernel_rfl) Try.func119 rfl (by rw [Try.ntmps119]; simp) (by kernel_rfl)]; simp (disch := first | omega | (simp only [SD.down,uA,uL] <;> omega) | fail) only [Try.ntmps119,Try.results119,env_P,env_L,g1,hok,TQ.down,resE,oneV, ↓reduceIte,reduceCtorEq,uB,uE,uL,uA,uM,uS,vL,vK,vE,vA,vS]
 rw [run_loop]
 refine loop_ind (fun j σ hh => ∃ q C pre v r,q + j = b.ms.length /\ σ 0 = .ptr β 0 /\ σ 1 = v /\ σ 10 = .eslice Ms 0 0 b.ms.length /\ σ 11 = .int .i64 (b.ms.length : Int) /\ σ 12 = .int .i64 (q : Int) /\ pre.length = q /\ crashL b.ms l = pre ++ crashL (b.ms.drop q) r /\ BusI hh C kb β cp ps { b with ms := pre ++ b.ms.drop q } /\ PickS hh C kb v r /\ h.next <= hh.next /\ (∀ j,j < h.next -> C j = c j) /\ (∀ S ∈ pre,S.wf) /\ ∀ j,j < h.next -> (c j < kb + 2 \/ kb + 100 <= c j) -> hh.get j = h.get j) ?_ ?_ b.ms.length _ _ _ (by simp; omega) ?_
 ·rintro mm1 σ hh ⟨q,C,pre,v,r,hq,s0,s1,s10,s11,s12,hpl,hcr,J,xs,hn,hC,hw,hf⟩
  obtain rfl : q = b.ms.length := by omega
  have gβ := (hf β l1 (by omega)).trans g1
  simp (disch := first | omega | (simp only [SD.down,uA,uL] <;> omega) | fail) only [run_it,s0,s1,s10,s11,s12,gβ,env_P,env_L,TQ.down,resE,oneV, ↓reduceIte,reduceCtorEq,uB,uE,uL,uA,uM,uS,vL,vK,vE,vA,vS]
  subst hX
  rw [List.drop_length,List.append_nil] at J
  rw [List.drop_length,crashL,List.append_nil] at hcr
  have J2 : BusI hh C kb β cp ps { b with ms := crashL b.ms l } := by rw [hcr]; exact J
  obtain ⟨Ms3,stv3,lgv3,j1,j2,j3,j4,j5,j6,j7,j8,jm,jc,js,jl⟩ := J2
  have gβ2 := j6.symm.trans gβ
  simp only [crashL_len,Option.some.injEq,Blk.cells.injEq,List.cons.injEq,AV.eslice.injEq,and_true,true_and] at gβ2
  obtain ⟨rfl,rfl,rfl⟩ := gβ2
  have nk : ∀ j,j < hh.next -> j ≠ β -> (hh.put β (some (Blk.cells [AV.eslice Ms3 0 0 b.ms.length,AV.ptr cp 0,stv3,AV.bool true,lgv3] 0 false))).get j = hh.get j := fun j hj hb => by simp (disch := omega) only [TH.down,uA,uB]
  have nc : ∀ k,k ≠ kb -> ∀ j,j < hh.next -> C j = k -> j ≠ β := fun k hk j hj hc e => by subst e; omega
  refine G.ok ⟨rfl,C,⟨Ms3,stv3,lgv3,by simp (disch := omega) only [TH.down,uA,uB]; omega,j2,by simp (disch := omega) only [TH.down,uA,uB]; omega,j4,j5,by rw [crashL_len]; simp (disch := omega) only [TH.down,uA,uB],(nk _ j3 (Ne.symm j5)).trans j7,j8,fun i p S hp hS => (jm i p S hp hS).keep (Nat.le_refl _) (fun j hj hc => nk j hj (nc _ (by omega) j hj hc)) (fun _ _ q => q),jc.keep (Nat.le_refl _) (fun j hj hc => nk j hj (nc _ (by omega) j hj hc)) (fun _ _ q => q),js.keep (Nat.le_refl _) (fun j hj _ he _ => nk j hj (he _ (by simp))) (fun _ _ q => q),jl.keep (Nat.le_refl _) (fun j hj _ he => nk j hj (he _ (by simp))) (fun _ _ q => q)⟩,hn,hC,fun j hj hc hb => ?_⟩
  exact (nk j (by omega) hb).trans (hf j hj hc)
 ·rintro j mm1 σ hh ⟨q,C,pre,v,r,hq,s0,s1,s10,s11,s12,hpl,hcr,J,xs,hn,hC,hw,hf⟩ ih
  have hql : q < b.ms.length := by omega
  obtain ⟨S,hS⟩ : ∃ S,b.ms[q]? = some S := ⟨b.ms[q]'hql,List.getElem?_eq_getElem hql⟩
  obtain ⟨p,hp⟩ : ∃ p,ps[q]? = some p := ⟨ps[q]'(by omega),List.getElem?_eq_getElem (by omega)⟩
  have wS := w.ms S (List.mem_of_getElem? hS)
  have hdr : b.ms.drop q = S :: b.ms.drop (q + 1) := by
   obtain ⟨hlt,e⟩ := List.getElem?_eq_some_iff.1 hS
   rw [List.drop_eq_getElem_cons hlt,e]
  have hS2 : ({ b with ms := pre ++ b.ms.drop q } : BS).ms[q]? = some S := by
   show (pre ++ b.ms.drop q)[q]? = some S
   rw [List.getElem?_append_right (by omega),hpl,Nat.sub_self,hdr]; rfl
  have ml2 : ({ b with ms := pre ++ b.ms.drop q } : BS).ms.length <= 64 := by
   show (pre ++ b.ms.drop q).length <= 64
   rw [List.length_append,List.length_drop]; omega
  have gM := (hf Ms l2 (by omega)).trans g2
  have hpp := ptrs_get hp
  have Mm := J
  obtain ⟨_,_,_,_,_,_,_,_,_,_,_,jm,_,_,_⟩ := Mm
  have MSq := jm q p S hp hS2
  have u0 := m_unfl (d + 3) hh C (kb + 2 + q) p S MSq wS
  have xl := xs.len
  obtain ⟨xok,xsc,xsm⟩ := xs.ok
  have wl := wS.lgl
  obtain ⟨v1,e1,y1⟩ := xs.take (min S.lg.length r.length) (by omega)
  obtain ⟨v2,e2,y2⟩ := xs.drop (min S.lg.length r.length) (by omega)
  obtain ⟨y1ok,_,_⟩ := y1.ok
  obtain ⟨y2ok,_,_⟩ := y2.ok
  simp (disch := first | omega | (simp only [SD.down,uA,uL] <;> omega) | fail) only [run_it,s0,s1,s10,s11,s12,gM,hpp,u0,xl,xok,cls_min2,opE_min2,min_i64,e1,y1ok,env_P,env_L,TQ.down,resE,oneV, ↓reduceIte,reduceCtorEq,uB,uE,uL,uA,uM,uS,vL,vK,vE,vA,vS]
  refine G.call (m_crash d hh C (kb + 2 + q) kb p S MSq wS (by omega) v1 _ y1) ?_
  rintro vv h3 ⟨rfl,N,fr⟩
  simp (disch := first | omega | (simp only [SD.down,uA,uL] <;> omega) | fail) only [s0,s1,s10,s11,s12,e2,xok,y2ok,env_P,env_L,TQ.down,resE,oneV, ↓reduceIte,reduceCtorEq,uB,uE,uL,uA,uM,uS,vL,vK,vE,vA,vS]
  have ce0 : ∀ j,j < hh.next -> pnt C hh.next (kb + 2 + q) j = C j := fun j hj => pnt_lt hj
  have J3 := J.setM (i := q) ml2 kb10 hp hS2 (fr.mono fun n hn => .inr hn) N ce0
  have eset : (pre ++ b.ms.drop q).set q (S.crash (r.take (min S.lg.length r.length))) = (pre ++ [S.crash (r.take (min S.lg.length r.length))]) ++ b.ms.drop (q + 1) := by
   rw [List.set_append_right _ _ (by omega),hpl,Nat.sub_self,hdr]
   simp
  have hle := fr.le
  refine ih _ _ ⟨q + 1,pnt C hh.next (kb + 2 + q),pre ++ [S.crash (r.take (min S.lg.length r.length))],v2,r.drop (min S.lg.length r.length),by omega,by simp (disch := omega) only [s0,TH.down,uA,uB],by simp (disch := omega) only [TH.down,uA,uB],by simp (disch := omega) only [s10,TH.down,uA,uB],by simp (disch := omega) only [s11,TH.down,uA,uB],by simp (disch := omega) only [TH.down,uA,uB],by simp; omega, ?_, ?_,y2.keep fr.le (fun j hj hc => .inl (fr.get j hj (by omega))) (fun j hj hc => (ce0 j hj).trans hc),by omega,fun j hj => (ce0 j (by omega)).trans (hC j hj),fun T hT => ?_,fun j hj hc => (fr.get j (by omega) (by rw [hC j hj]; omega)).trans (hf j hj hc)⟩
  ·rw [hcr,hdr,crashL_drop]; simp
  ·have J4 : BusI h3 (pnt C hh.next (kb + 2 + q)) kb β cp ps { b with ms := (pre ++ b.ms.drop q).set q (S.crash (r.take (min S.lg.length r.length))) } := J3
   rw [eset] at J4
   exact J4
  ·rcases List.mem_append.1 hT with z | z
   ·exact hw T z
   ·simp at z; subst z; exact settle_wf wS _
 ·exact ⟨0,c,[],pv,l,by omega,by simp (disch := omega) only [TQ.down,resE,oneV, ↓reduceIte,reduceCtorEq,uB,uE,uL,uA,uM,vE],by simp (disch := omega) only [TQ.down,resE,oneV, ↓reduceIte,reduceCtorEq,uB,uE,uL,uA,uM,vE],by simp (disch := omega) only [TQ.down,resE,oneV, ↓reduceIte,reduceCtorEq,uB,uE,uL,uA,uM,vE],by simp (disch := omega) only [TQ.down,resE,oneV, ↓reduceIte,reduceCtorEq,uB,uE,uL,uA,uM,vE],by simp (disch := omega) only [TQ.down,resE,oneV, ↓reduceIte,reduceCtorEq,uB,uE,uL,uA,uM,vE],rfl,rfl,I0,x,Nat.le_refl _,fun _ _ => rfl,(fun _ h => by cases h),fun _ _ _ => rfl⟩
theorem step_crash (d : Nat) (b : BS) (kb β cp : Nat) (ps : List Nat) (kb10 : 10 <= kb) (hk : ∀ s ∈ b.steps,s.tm = b.log.length -> s.kind = 6 /\ s.data.length = 64) : StepOk (d + 1) b kb β cp ps := by
 intro H C bb s u Ms hsm htm wb hml I x
 obtain ⟨hk6,hsl⟩ := hk s hsm htm
 refine G.gen fun Q hX => ?_
 have eS : bb.step s = { bb with ms := crashL bb.ms s.picks,off := true } := if_pos hk6
 rw [eS] at hX
 have I0 := I
 obtain ⟨Ms2,stv,lgv,l1,c1,l2,c2,n1,g1,g2,pl,mm,ce,st,lg⟩ := I
 have husc := x.sc
 have spl := stpZ_len
 have a1 : (s.C u)[1]? = some (.int .i64 6) := by rw [<- hk6]; rfl
 have a69 : (s.C u)[69]? = some u := by
  show (B s.data ++ [u])[64]? = _
  rw [List.getElem?_append_right (by simp [B_len,hsl])]
  simp [B_len,hsl]
 obtain ⟨uok,_,usm⟩ := x.S.ok
 rw [callD_run (E := env) [(4, .fl [(3,0,1),(5,0,1),(7,0,1)])] (by kernel_rfl) Try.func99 rfl (by rw [Try.ntmps99]; simp) (by kernel_rfl)]; simp (disch := first | omega | (simp only [SD.down,uA,uL] <;> omega) | fail) only [Try.ntmps99,Try.results99,env_P,env_L,g1,a1,a69,uok,usm,spl,s.C_len u hsl,zz_fold,stpZ_fold,stp_0,stp_cut s u hsl,stp_ov s u hsl husc,TQ.down,resE,oneV, ↓reduceIte,reduceCtorEq,uB,uE,uL,uA,uM,uS,vL,vK,vE,vA,vS]
 have kp : Keeps H (H.new (Blk.cells (s.C u) 0 false)) := ⟨by simp (disch := omega) only [TH.down,uA,uB]; omega,fun j hj => by simp (disch := omega) only [TH.down,uA,uB]⟩
 have ce0 : ∀ j,j < H.next -> pnt C H.next 0 j = C j := fun j hj => pnt_lt hj
 have hne : ∀ q o i n,u = .eslice q o i n -> q ≠ β := fun q o i n e => by
  rcases x with ⟨_,rfl | ⟨_,_,_,rfl⟩⟩ | ⟨K,rfl,_,_,h3,_⟩
  ·cases e
  ·cases e
  ·cases e; exact h3 _ (by simp)
 refine G.call (bus_crash d _ (pnt C H.next 0) kb β cp ps bb kb10 (I0.keeps wb.msl kp ce0) wb u s.picks (x.S.keeps kp (fun j hj hc => (ce0 j hj).trans hc)) hne) ?_
 rintro v h3 ⟨rfl,C',J,r1,r2,r3⟩
 simp (disch := omega) only [TQ.down,resE,oneV, ↓reduceIte,reduceCtorEq,uB,uE,uL,uA,uM,vE]
 subst hX
 have hle := kp.1
 exact G.ok ⟨rfl,C',J,Nat.le_trans kp.1 r1,fun j hj => (r2 j (by omega)).trans (ce0 j hj),fun j hj hc hb => (r3 j (by omega) (by rw [ce0 j hj]; exact hc) hb).trans (kp.2 j hj)⟩
end Go.Proofs.Ytfjcfjfgamajkaa
