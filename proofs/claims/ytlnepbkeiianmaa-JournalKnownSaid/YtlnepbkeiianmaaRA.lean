/- Of this program, for all inputs: contracts. No condition but those in the theorems. -/
import Derived.Test.YtlnepbkeiianmaaPA
import Derived.Test.YtlnepbkeiianmaaPB
namespace Go.Aw
open Go Go.Ai
set_option linter.unusedSimpArgs false
set_option linter.unusedVariables false
variable {P : Program} {h : Heap}
/-! parts of a slice that may have room -/
theorem idx_nat (x m : Nat) (h : x < m) : idxE (x : Int) m = some x := by unfold idxE; rw [if_pos ⟨by omega,by omega⟩]; simp
theorem sl_es_hi {t e n : Nat} (hu : P.underlying t = some (.slice e)) (hz : szE P e = some n) (k o i len : Nat) {q : IntKind} (x : Nat) (hx : x <= len) : sliceE P t (.eslice k o i len) none (some (.int q (x : Int))) none = some (.eslice k o i x) := by
 simp only [sliceE,sliceK,unK_E,hu,th_some,bndK_E,bndE,asIE,szK_E,hz,fN_eq,idx_nat x (len + 1) (by omega)]
theorem sl_es_lo {t e n : Nat} (hu : P.underlying t = some (.slice e)) (hz : szE P e = some n) (k o i len : Nat) {q : IntKind} (x : Nat) (hx : x < len) : sliceE P t (.eslice k o i len) (some (.int q (x : Int))) none none = some (.eslice k (o + x * n) (i + x) (len - x)) := by
 simp only [sliceE,sliceK,unK_E,hu,th_some,bndK_E,bndE,asIE,szK_E,hz,fN_eq,idx_nat x (len + 1) (by omega)]
 cases x with
 | zero => simp
 | succ y =>
  have h2 : Nat.blt (y + 1) len = true := Nat.blt_eq.mpr hx
  simp only [h2]
theorem sl_es_end {t e n : Nat} (hu : P.underlying t = some (.slice e)) (hz : szE P e = some n) (k o i len : Nat) {q : IntKind} : sliceE P t (.eslice k o i (len + 1)) (some (.int q ((len + 1 : Nat) : Int))) none none = some (.tslice k o i (len + 1) n) := by
 simp only [sliceE,sliceK,unK_E,hu,th_some,bndK_E,bndE,asIE,szK_E,hz,fN_eq,idx_nat (len + 1) (len + 1 + 1) (by omega)]
 have h2 : Nat.blt (len + 1) (len + 1) = false := by
  cases hc : Nat.blt (len + 1) (len + 1) with
  | false => rfl
  | true => have := Nat.blt_eq.mp hc; omega
 simp only [h2]
theorem sl_ts_hi {t e n : Nat} (hu : P.underlying t = some (.slice e)) (hz : szE P e = some n) (k o i m s : Nat) {q : IntKind} : sliceE P t (.tslice k o i m s) none (some (.int q 0)) none = some (.tslice k o i m s) := by
 simp only [sliceE,sliceK,unK_E,hu,th_some,bndK_E,bndE,asIE,szK_E,hz,fN_eq]
 rfl
theorem sl_ts_lo {t e n : Nat} (hu : P.underlying t = some (.slice e)) (hz : szE P e = some n) (k o i m s : Nat) {q : IntKind} : sliceE P t (.tslice k o i m s) (some (.int q 0)) none none = some (.tslice k o i m s) := by
 simp only [sliceE,sliceK,unK_E,hu,th_some,bndK_E,bndE,asIE,szK_E,hz,fN_eq]
 rfl
theorem sl_nil_hi {t e n : Nat} (hu : P.underlying t = some (.slice e)) (hz : szE P e = some n) {q : IntKind} : sliceE P t .nilslice none (some (.int q 0)) none = some .nilslice := by
 simp only [sliceE,sliceK,unK_E,hu,th_some,bndK_E,bndE,asIE,szK_E,hz,fN_eq]
 rfl
theorem sl_nil_lo {t e n : Nat} (hu : P.underlying t = some (.slice e)) (hz : szE P e = some n) {q : IntKind} : sliceE P t .nilslice (some (.int q 0)) none none = some .nilslice := by
 simp only [sliceE,sliceK,unK_E,hu,th_some,bndK_E,bndE,asIE,szK_E,hz,fN_eq]
 rfl
theorem sl_s_hi {t e n : Nat} (hu : P.underlying t = some (.slice e)) (hz : szE P e = some n) (k o c : Nat) {q : IntKind} : sliceE P t (.slice k o 0 c) none (some (.int q 0)) none = some (.slice k o 0 c) := by
 simp only [sliceE,sliceK,unK_E,hu,th_some,bndK_E,bndE,asIE,szK_E,hz,fN_eq,idx_nat 0 (c + 1) (by omega)]
 have h0 : idxE 0 (c + 1) = some 0 := idx_nat 0 (c + 1) (by omega)
 simp only [h0,th_some]
 cases h : Nat.beq c 0 with
 | true => rfl
 | false => simp
theorem sl_s_lo {t e n : Nat} (hu : P.underlying t = some (.slice e)) (hz : szE P e = some n) (k o c : Nat) {q : IntKind} : sliceE P t (.slice k o 0 c) (some (.int q 0)) none none = some (.slice k o 0 c) := by
 simp only [sliceE,sliceK,unK_E,hu,th_some,bndK_E,bndE,asIE,szK_E,hz,fN_eq]
 have h0 : idxE 0 (0 + 1) = some 0 := idx_nat 0 1 (by omega)
 simp only [h0,th_some]
 cases h : Nat.beq c 0 with
 | true => rfl
 | false => simp
theorem len_ts {t e : Nat} (hu : P.underlying t = some (.slice e)) (k o i m s : Nat) : lenE P t (.tslice k o i m s) = some (.int .i64 0) := by
 simp only [lenE,lenK,unK_E,hu,th_some,fN_eq]; rfl
end Go.Aw
namespace Go.Proofs.Ytlnepbkeiianmaa
open Go Go.Ai Go.Aw Go.Proofs
open Nat renaming reduceBEq -> uB,reduceEqDiff -> uE,reduceLT -> uL,reduceAdd -> uA,reduceMul -> uM,reduceSub -> uS,reduceAnd -> uN,reduceXor -> uX,reduceOr -> uO
open Int renaming reduceMod -> vR,reduceDiv -> vD,reduceLT -> vL,reduceLE -> vK,reduceEq -> vE,reduceAdd -> vA,reduceMul -> vM,reduceToNat -> vT,reduceSub -> vS
set_option linter.unusedSimpArgs false
set_option linter.unusedVariables false
set_option maxRecDepth 10000
def PickS (h : Heap) (c : Col) (kk : Nat) (v : AV) (l : List Nat) : Prop :=
 (l = [] /\ (v = .nilslice \/ (∃ q o n,v = .slice q o 0 n) \/ (∃ k o i,v = .eslice k o i 0) \/ ∃ k o i m s,v = .tslice k o i m s)) \/
 ∃ (K o i : Nat) (cells : List AV) (ext : Nat),l ≠ [] /\ v = .eslice K o i l.length /\ K < h.next /\ c K = kk /\ h.get K = some (.cells cells ext false) /\ cutE o l.length cells = some (B l)
theorem PickS.ok {h : Heap} {c : Col} {kk : Nat} {v : AV} {l : List Nat} (x : PickS h c kk v l) : okv v = some v /\ isSc v = true /\ AV.same v v = true := by
 rcases x with ⟨_,rfl | ⟨q,o,n,rfl⟩ | ⟨k,o,i,rfl⟩ | ⟨k,o,i,m,s,rfl⟩⟩ | ⟨K,o,i,cs,ext,_,rfl,_⟩
 ·exact ⟨rfl,rfl,rfl⟩
 ·exact ⟨rfl,rfl,same_slice ..⟩
 ·exact ⟨rfl,rfl,same_eslice ..⟩
 ·exact ⟨rfl,rfl,by simp [AV.same,scSame]⟩
 ·exact ⟨rfl,rfl,same_eslice ..⟩
theorem PickS.len {h : Heap} {c : Col} {kk : Nat} {v : AV} {l : List Nat} (x : PickS h c kk v l) : lenE Try.prog 33 v = some (.int .i64 (l.length : Int)) := by
 rcases x with ⟨rfl,rfl | ⟨q,o,n,rfl⟩ | ⟨k,o,i,rfl⟩ | ⟨k,o,i,m,s,rfl⟩⟩ | ⟨K,o,i,cs,ext,_,rfl,_⟩
 ·exact lnn33
 ·exact lns33 ..
 ·exact lne33 ..
 ·exact len_ts Try.underlying33 ..
 ·exact lne33 ..
theorem PickS.keep {h h' : Heap} {c c' : Col} {kk : Nat} {v : AV} {l : List Nat} (x : PickS h c kk v l) (n : h.next <= h'.next) (g : ∀ j,j < h.next -> c j = kk -> h'.get j = h.get j \/ ∀ q e,h.get j ≠ some (.cells q e false)) (e : ∀ j,j < h.next -> c j = kk -> c' j = kk) : PickS h' c' kk v l := by
 rcases x with x | ⟨K,o,i,cs,ext,hl,rfl,h1,h2,h3,h4⟩
 ·exact .inl x
 ·refine .inr ⟨K,o,i,cs,ext,hl,rfl,Nat.lt_of_lt_of_le h1 n,e _ h1 h2, ?_,h4⟩
  rcases g K h1 h2 with q | q
  ·exact q.trans h3
  ·exact absurd h3 (q _ _)
theorem PickS.keeps {h h' : Heap} {c c' : Col} {kk : Nat} {v : AV} {l : List Nat} (x : PickS h c kk v l) (k : Keeps h h') (e : ∀ j,j < h.next -> c j = kk -> c' j = kk) : PickS h' c' kk v l := x.keep k.1 (fun j hj _ => .inl (k.2 j hj)) e
theorem cutE_len {o n : Nat} {l r : List AV} (h : cutE o n l = some r) : o + n <= l.length := by
 unfold cutE at h
 split at h
 ·assumption
 ·cases h
theorem PickS.take {h : Heap} {c : Col} {kk : Nat} {v : AV} {l : List Nat} (x : PickS h c kk v l) (n : Nat) (hn : n <= l.length) : ∃ v',sliceE Try.prog 33 v none (some (.int .i64 (n : Int))) none = some v' /\ PickS h c kk v' (l.take n) := by
 rcases x with ⟨rfl,x⟩ | ⟨K,o,i,cs,ext,hl,rfl,h1,h2,h3,h4⟩
 ·obtain rfl : n = 0 := by simpa using hn
  refine ⟨v, ?_, .inl ⟨rfl,x⟩⟩
  rcases x with rfl | ⟨q,o,n,rfl⟩ | ⟨k,o,i,rfl⟩ | ⟨k,o,i,m,s,rfl⟩
  ·exact sl_nil_hi Try.underlying33 sz5
  ·exact sl_s_hi Try.underlying33 sz5 ..
  ·exact sl_es_hi Try.underlying33 sz5 _ _ _ 0 0 (Nat.le_refl _)
  ·exact sl_ts_hi Try.underlying33 sz5 ..
 ·refine ⟨_,sl_es_hi Try.underlying33 sz5 K o i l.length n hn, ?_⟩
  by_cases h0 : n = 0
  ·subst h0; exact .inl ⟨rfl, .inr (.inr (.inl ⟨K,o,i,rfl⟩))⟩
  ·have hlen : (l.take n).length = n := by rw [List.length_take]; omega
   refine .inr ⟨K,o,i,cs,ext,fun e => ?_,by rw [hlen],h1,h2,h3, ?_⟩
   ·rw [e] at hlen; simp at hlen; omega
   ·have hle := cutE_len h4
    rw [cutE_of hle] at h4
    have h5 := Option.some.inj h4
    rw [hlen,cutE_of (by omega)]
    have : B (l.take n) = (B l).take n := by simp [B]
    rw [this,<- h5,List.take_take,Nat.min_eq_left hn]
theorem PickS.drop {h : Heap} {c : Col} {kk : Nat} {v : AV} {l : List Nat} (x : PickS h c kk v l) (n : Nat) (hn : n <= l.length) : ∃ v',sliceE Try.prog 33 v (some (.int .i64 (n : Int))) none none = some v' /\ PickS h c kk v' (l.drop n) := by
 rcases x with ⟨rfl,x⟩ | ⟨K,o,i,cs,ext,hl,rfl,h1,h2,h3,h4⟩
 ·obtain rfl : n = 0 := by simpa using hn
  rcases x with rfl | ⟨q,o,n,rfl⟩ | ⟨k,o,i,rfl⟩ | ⟨k,o,i,m,s,rfl⟩
  ·exact ⟨_,sl_nil_lo Try.underlying33 sz5, .inl ⟨rfl, .inl rfl⟩⟩
  ·exact ⟨_,sl_s_lo Try.underlying33 sz5 .., .inl ⟨rfl, .inr (.inl ⟨q,o,n,rfl⟩)⟩⟩
  ·refine ⟨.eslice k o i 0, ?_, .inl ⟨rfl, .inr (.inr (.inl ⟨k,o,i,rfl⟩))⟩⟩
   have := sl_es_hi (P := Try.prog) Try.underlying33 sz5 k o i 0 (q := .i64) 0 (Nat.le_refl _)
   simp only [sliceE,sliceK,unK_E,Try.underlying33,th_some,bndK_E,bndE,asIE,szK_E,sz5,fN_eq]
   have h0 : idxE 0 (0 + 1) = some 0 := idx_nat 0 1 (by omega)
   rfl
  ·exact ⟨_,sl_ts_lo Try.underlying33 sz5 .., .inl ⟨rfl, .inr (.inr (.inr ⟨k,o,i,m,s,rfl⟩))⟩⟩
 ·by_cases hlt : n < l.length
  ·refine ⟨_,sl_es_lo Try.underlying33 sz5 K o i l.length n hlt, ?_⟩
   have hlen : (l.drop n).length = l.length - n := List.length_drop ..
   refine .inr ⟨K,o + n * 1,i + n,cs,ext,fun e => ?_,by rw [hlen],h1,h2,h3, ?_⟩
   ·rw [e] at hlen; simp at hlen; omega
   ·have hle := cutE_len h4
    rw [cutE_of hle] at h4
    have h5 := Option.some.inj h4
    rw [hlen,cutE_of (by omega)]
    have : B (l.drop n) = (B l).drop n := by simp [B]
    rw [this,<- h5,Nat.mul_one,<- List.drop_drop,List.drop_take]
  ·obtain rfl : n = l.length := by omega
   obtain ⟨m,hm⟩ : ∃ m,l.length = m + 1 := ⟨l.length - 1,by have := List.length_pos_iff.2 hl; omega⟩
   rw [hm]
   exact ⟨_,sl_es_end Try.underlying33 sz5 K o i m, .inl ⟨by rw [<- hm]; exact List.drop_length, .inr (.inr (.inr ⟨_,_,_,_,_,rfl⟩))⟩⟩
theorem PickI.S {h : Heap} {c : Col} {k : Nat} {v : AV} {ex : List Nat} {l : List Nat} (x : PickI h c k v ex l) : PickS h c k v l := by
 rcases x with ⟨rfl,rfl | ⟨q,o,n,rfl⟩⟩ | ⟨K,rfl,h1,h2,h3,h4⟩
 ·exact .inl ⟨rfl, .inl rfl⟩
 ·exact .inl ⟨rfl, .inr (.inl ⟨q,o,n,rfl⟩)⟩
 ·by_cases h0 : l = []
  ·subst h0; exact .inl ⟨rfl, .inr (.inr (.inl ⟨K,0,0,rfl⟩))⟩
  ·exact .inr ⟨K,0,0,B l,1,h0,rfl,h1,h2,h4,cut_all (by simp [B_len])⟩
end Go.Proofs.Ytlnepbkeiianmaa
