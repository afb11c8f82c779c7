/- Operations that read values alone. No program. No condition but those in the theorems. -/
import Derived.Test.YtlnepbkeiianmaaAiM1
namespace Go.Ai
open Go
set_option linter.unusedSimpArgs false
variable {P : Program} {β : Type}
theorem fArgs_some {ρ : Ren} {e : Operand -> AV} {ev : Operand -> Value} (ho : ORel ρ e ev) {xs : List Operand} {K : List AV -> Option β} {r : β} (h : fArgs e xs K = some r) :
  ∃ vs,K vs = some r /\ denL ρ vs = some (xs.map ev) := by
 induction xs generalizing K with
 | nil => exact ⟨[],h,denL_nil ρ⟩
 | cons x xs ih =>
  obtain ⟨h1,h2⟩ := fK_some h
  obtain ⟨vs,h3,h4⟩ := ih h2
  exact ⟨_,h3,denL_cons.2 ⟨_,_,ho.den h1,h4,rfl⟩⟩
def BinOk (P : Program) (op : BinOp) (t : TypeId) (x y : Operand) (a b z : Value) : Prop :=
 ∀ w,(do eqGuard op t x y a b; binOp op t a b : Sem Value).run P w = .ok z w
theorem strEq {a b : List UInt8} : ((⟨a.toArray⟩ : ByteArray).toList == (⟨b.toArray⟩ : ByteArray).toList) = (a == b) := by simp [ByteArray.toList_eq]
theorem strLess_eq (a b : List UInt8) : strLess a b = Op.bytesLess a b := by
 induction a generalizing b with
 | nil => cases b <;> rfl
 | cons x a ih => cases b with
  | nil => rfl
  | cons y b => simp only [strLess,Op.bytesLess,ih]
theorem strOpK_sound {ρ : Ren} {op : BinOp} {x y : List UInt8} {K : AV -> Option β} {r : β} (h : strOpK op x y K = some r) : ∃ v z,K v = some r /\ v.den ρ = some z /\ ∀ w,(Op.stringOp op ⟨x.toArray⟩ ⟨y.toArray⟩).run P w = .ok z w := by
 unfold strOpK at h
 cases op <;> simp only [fB_eq,fL_eq,reduceCtorEq] at h
 case add =>
  split at h
  ·rename_i hl
   refine ⟨_,_,h,rfl,fun w => ?_⟩
   have hl := Nat.le_of_ble_eq_true hl
   have : ¬ (((x.length + y.length : Nat) : Int) > IntKind.i64.max) := by simp [mostCells] at hl ⊢; omega
   have hs : ((⟨x.toArray⟩ : ByteArray).size + (⟨y.toArray⟩ : ByteArray).size) = x.length + y.length := by simp [ByteArray.size]
   simp only [Op.stringOp,hs,this,if_false,Sem.run_pure]
   congr 2
  ·cases h
 all_goals
  refine ⟨_,_,h,rfl,fun w => ?_⟩
  simp [Op.stringOp,strLess_eq,ByteArray.toList_eq]
theorem den_map1 {ρ : Ren} {k : Nat} {f : Loc -> Value} {x : Value} (h : (ρ k).map f = some x) : ∃ l,ρ k = some l /\ x = f l := by
 simp only [Option.map_eq_some_iff] at h
 obtain ⟨l,h1,h2⟩ := h
 exact ⟨l,h1,h2.symm⟩
theorem den_ptr {ρ : Ren} {k o : Nat} {x : Value} (h : (AV.ptr k o).den ρ = some x) : ∃ l,ρ k = some l /\ x = .pointer (some ⟨l.blk,l.off + o,none⟩) := by
 simp only [AV.den] at h; exact den_map1 h
theorem den_slice {ρ : Ren} {k o n c : Nat} {x : Value} (h : (AV.slice k o n c).den ρ = some x) : ∃ l,ρ k = some l /\ x = .slice (some ⟨l.blk,l.off + o,none⟩) n c := by
 simp only [AV.den] at h; exact den_map1 h
theorem den_eslice {ρ : Ren} {k o i n : Nat} {x : Value} (h : (AV.eslice k o i n).den ρ = some x) : ∃ l,ρ k = some l /\ i + n <= l.cap /\ x = .slice (some ⟨l.blk,l.off + o,none⟩) n (l.cap - i) := by
 simp only [AV.den,Option.bind_eq_some_iff] at h
 obtain ⟨l,h1,h2⟩ := h
 split at h2
 ·exact ⟨l,h1,by assumption,by simpa using h2.symm⟩
 ·cases h2
theorem den_tslice {ρ : Ren} {k o i n s : Nat} {x : Value} (h : (AV.tslice k o i n s).den ρ = some x) : ∃ l,ρ k = some l /\ i + n <= l.cap /\ x = (if i + n = l.cap then .slice (some ⟨l.blk,l.off + o,none⟩) 0 0 else .slice (some ⟨l.blk,l.off + (o + n * s),none⟩) 0 (l.cap - (i + n))) := by
 simp only [AV.den,Option.bind_eq_some_iff] at h
 obtain ⟨l,h1,h2⟩ := h
 split at h2
 ·exact ⟨l,h1,by assumption,by simpa using h2.symm⟩
 ·cases h2
theorem den_tslice' {ρ : Ren} {k o i n s : Nat} {x : Value} (h : (AV.tslice k o i n s).den ρ = some x) : ∃ b a c,x = .slice (some ⟨b,a,none⟩) 0 c := by
 obtain ⟨l,_,_,rfl⟩ := den_tslice h
 split
 ·exact ⟨_,_,_,rfl⟩
 ·exact ⟨_,_,_,rfl⟩
theorem den_zslice {ρ : Ren} {a : Addr} {x : Value} (h : (AV.zslice a).den ρ = some x) : x = .slice (some a) 0 0 := by
 simp only [AV.den,Option.some.injEq] at h; exact h.symm
theorem den_mapv {ρ : Ren} {k : Nat} {x : Value} (h : (AV.map k).den ρ = some x) : ∃ l,ρ k = some l /\ x = .map (some l.blk) := by
 simp only [AV.den] at h; exact den_map1 h
theorem den_func {ρ : Ren} {f : Fn} {a c : List AV} {x : Value} (h : (AV.func f a c).den ρ = some x) : ∃ p q,denL ρ a = some p /\ denL ρ c = some q /\ x = .func f p.toArray q.toArray := by
 simp only [AV.den,Option.bind_eq_some_iff,Option.map_eq_some_iff] at h
 obtain ⟨p,h1,q,h2,h3⟩ := h
 exact ⟨p,q,h1,h2,h3.symm⟩
theorem den_iface {ρ : Ren} {t : TypeId} {v : AV} {x : Value} (h : (AV.iface t v).den ρ = some x) : ∃ y,v.den ρ = some y /\ x = .iface t y := by
 simp only [AV.den,Option.map_eq_some_iff] at h
 obtain ⟨y,h1,h2⟩ := h
 exact ⟨y,h1,h2.symm⟩
theorem den_agg {ρ : Ren} {cs : List AV} {x : Value} (h : (AV.agg cs).den ρ = some x) : ∃ l,denL ρ cs = some l /\ x = .agg l.toArray := by
 simp only [AV.den,Option.map_eq_some_iff] at h
 obtain ⟨y,h1,h2⟩ := h
 exact ⟨y,h1,h2.symm⟩
theorem den_tup {ρ : Ren} {cs : List AV} {x : Value} (h : (AV.tup cs).den ρ = some x) : ∃ l,denL ρ cs = some l /\ x = .tuple l.toArray := by
 simp only [AV.den,Option.map_eq_some_iff] at h
 obtain ⟨y,h1,h2⟩ := h
 exact ⟨y,h1,h2.symm⟩
theorem den_bool {ρ : Ren} {b : Bool} {x : Value} (h : (AV.bool b).den ρ = some x) : x = .bool b := by simpa [AV.den] using h.symm
theorem den_int {ρ : Ren} {k : IntKind} {n : Int} {x : Value} (h : (AV.int k n).den ρ = some x) : x = .int k n := by simpa [AV.den] using h.symm
theorem den_str {ρ : Ren} {s : List UInt8} {x : Value} (h : (AV.str s).den ρ = some x) : x = .string ⟨s.toArray⟩ := by simpa [AV.den] using h.symm
theorem den_nilptr {ρ : Ren} {x : Value} (h : (AV.nilptr).den ρ = some x) : x = .pointer none := by simpa [AV.den] using h.symm
theorem den_nilslice {ρ : Ren} {x : Value} (h : (AV.nilslice).den ρ = some x) : x = .slice none 0 0 := by simpa [AV.den] using h.symm
theorem den_nilmap {ρ : Ren} {x : Value} (h : (AV.nilmap).den ρ = some x) : x = .map none := by simpa [AV.den] using h.symm
theorem den_nilfunc {ρ : Ren} {x : Value} (h : (AV.nilfunc).den ρ = some x) : x = .nilFunc := by simpa [AV.den] using h.symm
theorem den_niliface {ρ : Ren} {x : Value} (h : (AV.niliface).den ρ = some x) : x = .nilIface := by simpa [AV.den] using h.symm
theorem eqUnf (t : TypeId) (a b : Value) : Op.equal t a b = Op.equalIn (9999 + 1) t a b := rfl
theorem eqlK_sound {ρ : Ren} {t : TypeId} {x y : AV} {K : Bool -> Option β} {r : β} (h : eqlK P t x y K = some r) {a b : Value} (ha : x.den ρ = some a) (hb : y.den ρ = some b) :
  ∃ c,K c = some r /\ ∀ w,(Op.equal t a b).run P w = .ok c w /\ ∀ (op : BinOp) (X Y : Operand),(eqGuard op t X Y a b).run P w = .ok () w := by
 unfold eqlK at h
 obtain ⟨d,hd,h⟩ := unK_some h
 split at h
 ·cases den_bool ha; cases den_bool hb
  rw [fB_eq] at h
  exact ⟨_,h,fun w => ⟨run_equalIn_bool w _ t _ _ hd,fun op X Y => by rw [eqGuard_at_bool]; rfl⟩⟩
 ·cases den_nilptr ha; cases den_nilptr hb
  exact ⟨_,h,fun w => ⟨by rw [eqUnf,Op.equalIn]; simp [run_underlying hd],fun op X Y => by rw [eqGuard_at_pointer]; rfl⟩⟩
 ·cases den_nilptr ha; obtain ⟨l,hl,rfl⟩ := den_ptr hb
  exact ⟨_,h,fun w => ⟨by rw [eqUnf,Op.equalIn]; simp [run_underlying hd],fun op X Y => by rw [eqGuard_at_pointer]; rfl⟩⟩
 ·cases den_nilptr hb; obtain ⟨l,hl,rfl⟩ := den_ptr ha
  exact ⟨_,h,fun w => ⟨by rw [eqUnf,Op.equalIn]; simp [run_underlying hd],fun op X Y => by rw [eqGuard_at_pointer]; rfl⟩⟩
 ·rename_i e a i b j _
  obtain ⟨l,hl,rfl⟩ := den_ptr ha
  obtain ⟨m,hm,rfl⟩ := den_ptr hb
  obtain ⟨it,hi,hq⟩ := szK_some h
  cases hz : it.size with
  | zero => simp [hz] at hq
  | succ n =>
   cases hab : Nat.beq a b with
   | false => simp [hz,hab] at hq
   | true =>
    simp only [hz,hab,fB_eq] at hq
    have hab := Nat.eq_of_beq_eq_true hab
    subst hab
    rw [hl] at hm; cases hm
    refine ⟨_,hq,fun w => ⟨?_,fun op X Y => by rw [eqGuard_at_pointer]; rfl⟩⟩
    rw [eqUnf,Op.equalIn]
    simp [run_underlying hd,runSize e hi,hz,sameAddr]
    rw [Bool.eq_iff_iff]
    simp
 ·cases den_nilslice ha; cases den_nilslice hb
  exact ⟨_,h,fun w => ⟨by rw [eqUnf,Op.equalIn]; simp [run_underlying hd],fun op X Y => by rw [eqGuard_at_slice]; rfl⟩⟩
 ·cases den_nilslice ha; obtain ⟨l,hl,rfl⟩ := den_slice hb
  exact ⟨_,h,fun w => ⟨by rw [eqUnf,Op.equalIn]; simp [run_underlying hd],fun op X Y => by rw [eqGuard_at_slice]; rfl⟩⟩
 ·cases den_nilslice hb; obtain ⟨l,hl,rfl⟩ := den_slice ha
  exact ⟨_,h,fun w => ⟨by rw [eqUnf,Op.equalIn]; simp [run_underlying hd],fun op X Y => by rw [eqGuard_at_slice]; rfl⟩⟩
 ·cases den_nilslice ha; obtain ⟨l,hl,_,rfl⟩ := den_eslice hb
  exact ⟨_,h,fun w => ⟨by rw [eqUnf,Op.equalIn]; simp [run_underlying hd],fun op X Y => by rw [eqGuard_at_slice]; rfl⟩⟩
 ·cases den_nilslice hb; obtain ⟨l,hl,_,rfl⟩ := den_eslice ha
  exact ⟨_,h,fun w => ⟨by rw [eqUnf,Op.equalIn]; simp [run_underlying hd],fun op X Y => by rw [eqGuard_at_slice]; rfl⟩⟩
 ·cases den_nilslice ha; cases den_zslice hb
  exact ⟨_,h,fun w => ⟨by rw [eqUnf,Op.equalIn]; simp [run_underlying hd],fun op X Y => by rw [eqGuard_at_slice]; rfl⟩⟩
 ·cases den_nilslice hb; cases den_zslice ha
  exact ⟨_,h,fun w => ⟨by rw [eqUnf,Op.equalIn]; simp [run_underlying hd],fun op X Y => by rw [eqGuard_at_slice]; rfl⟩⟩
 ·cases den_nilmap ha; cases den_nilmap hb
  exact ⟨_,h,fun w => ⟨by rw [eqUnf,Op.equalIn]; simp [run_underlying hd],fun op X Y => by rw [eqGuard_at_map]; rfl⟩⟩
 ·cases den_nilmap ha; obtain ⟨l,hl,rfl⟩ := den_mapv hb
  exact ⟨_,h,fun w => ⟨by rw [eqUnf,Op.equalIn]; simp [run_underlying hd],fun op X Y => by rw [eqGuard_at_map]; rfl⟩⟩
 ·cases den_nilmap hb; obtain ⟨l,hl,rfl⟩ := den_mapv ha
  exact ⟨_,h,fun w => ⟨by rw [eqUnf,Op.equalIn]; simp [run_underlying hd],fun op X Y => by rw [eqGuard_at_map]; rfl⟩⟩
 ·cases den_nilfunc ha; cases den_nilfunc hb
  exact ⟨_,h,fun w => ⟨by rw [eqUnf,Op.equalIn]; simp [run_underlying hd],fun op X Y => by rw [eqGuard_at_nilFunc]; rfl⟩⟩
 ·cases den_nilfunc ha; obtain ⟨p,q,_,_,rfl⟩ := den_func hb
  exact ⟨_,h,fun w => ⟨by rw [eqUnf,Op.equalIn]; simp [run_underlying hd],fun op X Y => by rw [eqGuard_at_nilFunc]; rfl⟩⟩
 ·cases den_nilfunc hb; obtain ⟨p,q,_,_,rfl⟩ := den_func ha
  exact ⟨_,h,fun w => ⟨by rw [eqUnf,Op.equalIn]; simp [run_underlying hd],fun op X Y => by rw [eqGuard_at_func]; rfl⟩⟩
 ·cases den_niliface ha; obtain ⟨p,_,rfl⟩ := den_iface hb
  exact ⟨_,h,fun w => ⟨by rw [eqUnf,Op.equalIn]; simp [run_underlying hd],fun op X Y => by rw [eqGuard_nil_iface]; rfl⟩⟩
 ·cases den_niliface hb; obtain ⟨p,_,rfl⟩ := den_iface ha
  exact ⟨_,h,fun w => ⟨by rw [eqUnf,Op.equalIn]; simp [run_underlying hd],fun op X Y => by rw [eqGuard_at_iface]; rfl⟩⟩
 ·obtain ⟨p,hp,rfl⟩ := den_agg ha
  obtain ⟨q,hq,rfl⟩ := den_agg hb
  split at h
  ·rename_i ks hag hg hks
   obtain ⟨c,h1,h2,h3,h4⟩ := scsEqK_some h hp hq
   refine ⟨c,h4,fun w => ⟨?_,fun op X Y => ?_⟩⟩
   ·have := plain_eq 9970 30 t ks hks p q c w h2 h3 h1
    have e : Op.equal t (.agg p.toArray) (.agg q.toArray) = Op.equalIn (9970 + 30) t (.agg p.toArray) (.agg q.toArray) := rfl
    rw [e]
    simpa only [mkV,hd,hag,if_true] using this
   ·cases op <;> simp [eqGuard,hg]
  ·cases h
 ·cases h
end Go.Ai
namespace Go.Ai
open Go
set_option linter.unusedSimpArgs false
variable {P : Program} {β : Type}
theorem binK_sound {ρ : Ren} {op : BinOp} {t : TypeId} {x y : AV} {K : AV -> Option β} {r : β} (h : binK P op t x y K = some r) {a b : Value} (ha : x.den ρ = some a) (hb : y.den ρ = some b) :
  ∃ v z,K v = some r /\ v.den ρ = some z /\ ∀ X Y,BinOk P op t X Y a b z := by
 unfold binK at h
 split at h
 ·rename_i k p k' q
  cases den_int ha; cases den_int hb
  split at h
  ·split at h
   ·rename_i n hn
    rw [fI_eq] at h
    exact ⟨_,_,h,rfl,fun X Y w => by rw [eqGuard_at_int]; simp [binOp_shl,shiftA_eq hn]⟩
   ·cases h
  ·split at h
   ·rename_i n hn
    rw [fI_eq] at h
    exact ⟨_,_,h,rfl,fun X Y w => by rw [eqGuard_at_int]; simp [binOp_shr,shiftA_eq hn]⟩
   ·cases h
  ·split at h
   ·rename_i hk
    subst hk
    obtain ⟨v,z,h1,h2,h3⟩ := intOpK_sound h t
    exact ⟨v,z,h1,h2 ρ,fun X Y w => by rw [eqGuard_at_int]; simp [h3]⟩
   ·cases h
 ·rename_i s u
  cases den_str ha; cases den_str hb
  obtain ⟨v,z,h1,h2,h3⟩ := strOpK_sound (ρ := ρ) (P := P) h
  refine ⟨v,z,h1,h2,fun X Y w => ?_⟩
  rw [eqGuard_at_string]
  have : binOp op t (.string ⟨s.toArray⟩) (.string ⟨u.toArray⟩) = Op.stringOp op ⟨s.toArray⟩ ⟨u.toArray⟩ := by cases op <;> rfl
  simp [this,h3]
 ·rename_i h1 h2
  have main : ∀ c,(∀ w,(Op.equal t a b).run P w = .ok c w) -> (∀ w,(binOp .eql t a b).run P w = .ok (.bool c) w) /\ (∀ w,(binOp .neq t a b).run P w = .ok (.bool (!c)) w) := by
   intro c hc
   have e1 : (∃ p q k k',a = .int k p /\ b = .int k' q) \/ (∃ s u,a = .string s /\ b = .string u) \/ (binOp .eql t a b = (do pure (.bool (<- Op.equal t a b))) /\ binOp .neq t a b = (do pure (.bool (!(<- Op.equal t a b))))) := by
    cases a <;> cases b <;> first
     | exact .inl ⟨_,_,_,_,rfl,rfl⟩
     | exact .inr (.inl ⟨_,_,rfl,rfl⟩)
     | exact .inr (.inr ⟨rfl,rfl⟩)
     | skip
    all_goals
     exfalso
     cases x <;> simp only [AV.den,Option.map_eq_some_iff,Option.bind_eq_some_iff,Option.some.injEq,reduceCtorEq] at ha
     all_goals (first
      | (obtain ⟨_,_,ha⟩ := ha; cases ha; done)
      | (obtain ⟨_,_,_,_,ha⟩ := ha; cases ha; done)
      | (obtain ⟨_,_,ha⟩ := ha; split at ha <;> first | (cases ha; done) | (injection ha with ha; split at ha <;> cases ha)))
   rcases e1 with ⟨p,q,k,k',rfl,rfl⟩ | ⟨s,u,rfl,rfl⟩ | ⟨e1,e2⟩
   ·exfalso
    cases x <;> simp only [AV.den,Option.map_eq_some_iff,Option.bind_eq_some_iff,Option.some.injEq,reduceCtorEq,and_false,exists_false,exists_const] at ha
    ·cases y <;> simp only [AV.den,Option.map_eq_some_iff,Option.bind_eq_some_iff,Option.some.injEq,reduceCtorEq,and_false,exists_false,exists_const] at hb
     ·exact h1 _ _ _ _ rfl rfl
     all_goals (obtain ⟨_,_,hb⟩ := hb; split at hb <;> first | (cases hb; done) | (injection hb with hb; split at hb <;> cases hb))
    all_goals (obtain ⟨_,_,ha⟩ := ha; split at ha <;> first | (cases ha; done) | (injection ha with ha; split at ha <;> cases ha))
   ·exfalso
    cases x <;> simp only [AV.den,Option.map_eq_some_iff,Option.bind_eq_some_iff,Option.some.injEq,reduceCtorEq,and_false,exists_false,exists_const] at ha
    ·cases y <;> simp only [AV.den,Option.map_eq_some_iff,Option.bind_eq_some_iff,Option.some.injEq,reduceCtorEq,and_false,exists_false,exists_const] at hb
     ·exact h2 _ _ rfl rfl
     all_goals (obtain ⟨_,_,hb⟩ := hb; split at hb <;> first | (cases hb; done) | (injection hb with hb; split at hb <;> cases hb))
    all_goals (obtain ⟨_,_,ha⟩ := ha; split at ha <;> first | (cases ha; done) | (injection ha with ha; split at ha <;> cases ha))
   ·exact ⟨fun w => by rw [e1]; simp [hc w],fun w => by rw [e2]; simp [hc w]⟩
  split at h
  ·obtain ⟨c,g1,g2⟩ := eqlK_sound h ha hb
   obtain ⟨m1,m2⟩ := main c (fun w => (g2 w).1)
   exact ⟨_,_,g1,rfl,fun X Y w => by simp [(g2 w).2,m1]⟩
  ·obtain ⟨c,g1,g2⟩ := eqlK_sound h ha hb
   obtain ⟨m1,m2⟩ := main c (fun w => (g2 w).1)
   refine ⟨.bool (!c), .bool (!c), ?_,rfl,fun X Y w => by simp [(g2 w).2,m2]⟩
   cases c <;> simpa using g1
  ·cases h
theorem unA_sound {ρ : Ren} {op : UnOp} {x : AV} {K : AV -> Option β} {r : β} (h : unA op x K = some r) {a : Value} (ha : x.den ρ = some a) :
  ∃ v z,K v = some r /\ v.den ρ = some z /\ Op.unary op a = pure z := by
 unfold unA at h
 split at h
 ·rename_i b
  cases den_bool ha
  refine ⟨.bool (!b), .bool (!b), ?_,rfl,rfl⟩
  cases b <;> simpa using h
 ·cases den_int ha
  rw [fI_eq,wrapA_eq] at h
  exact ⟨_,_,h,rfl,rfl⟩
 ·cases den_int ha
  split at h
  ·rename_i m hm
   rw [fI_eq] at h
   exact ⟨_,_,h,rfl,bitsA_eq hm⟩
  ·cases h
 ·cases h
theorem asI_some {v : AV} {K : Int -> Option β} {r : β} (h : asI v K = some r) : ∃ k n,v = .int k n /\ K n = some r := by
 unfold asI at h
 split at h
 ·exact ⟨_,_,rfl,h⟩
 ·cases h
theorem asN_some {v : AV} {K : Nat -> Option β} {r : β} (h : asN v K = some r) : ∃ k n,v = .int k (.ofNat n) /\ K n = some r := by
 unfold asN at h
 split at h
 ·exact ⟨_,_,rfl,h⟩
 ·cases h
theorem idxK_some {i : Int} {n : Nat} {K : Nat -> Option β} {r : β} (h : idxK i n K = some r) : ∃ m,i = .ofNat m /\ m < n /\ K m = some r := by
 unfold idxK at h
 split at h
 ·rename_i m
  split at h
  ·rename_i hm
   exact ⟨m,rfl,by simpa [Nat.blt_eq] using hm,h⟩
  ·cases h
 ·cases h
theorem indexAddrK_sound {ρ : Ren} {t : TypeId} {x ix : AV} {K : AV -> Option β} {r : β} (h : indexAddrK P t x ix K = some r) {a b : Value} (ha : x.den ρ = some a) (hb : ix.den ρ = some b) :
  ∃ v z,K v = some r /\ v.den ρ = some z /\ ∀ w,(Instr.indexAt t a b).run P w = .ok z w := by
 unfold indexAddrK at h
 replace h := asI_some h
 obtain ⟨k,n,rfl,h⟩ := h
 cases den_int hb
 replace h := unK_some h
 obtain ⟨d,hd,h⟩ := h
 split at h
 ·rename_i len elem kk off
  obtain ⟨l,hl,rfl⟩ := den_ptr ha
  replace h := idxK_some h
  obtain ⟨m,rfl,hm,h⟩ := h
  replace h := szK_some h
  obtain ⟨i,hi,h⟩ := h
  rw [fN_eq] at h
  refine ⟨_, .pointer (some ⟨l.blk,l.off + (off + m * i.size),none⟩),h,by simp [AV.den,hl],fun w => ?_⟩
  have h1 : (0 : Int) <= (m : Int) /\ (m : Int) < (len : Int) := by omega
  have h2 : ¬ len <= m := by omega
  simp [Instr.indexAt,asIntOf,run_underlying hd,Instr.sureAddr,h1,h2,hm,runSize elem hi,Addr.add_lit,Nat.add_assoc]
 ·rename_i elem kk off len cap
  obtain ⟨l,hl,rfl⟩ := den_slice ha
  replace h := idxK_some h
  obtain ⟨m,rfl,hm,h⟩ := h
  replace h := szK_some h
  obtain ⟨i,hi,h⟩ := h
  rw [fN_eq] at h
  refine ⟨_, .pointer (some ⟨l.blk,l.off + (off + m * i.size),none⟩),h,by simp [AV.den,hl],fun w => ?_⟩
  have h1 : (0 : Int) <= (m : Int) /\ (m : Int) < (len : Int) := by omega
  have h2 : ¬ len <= m := by omega
  simp [Instr.indexAt,asIntOf,run_underlying hd,Instr.sureAddr,h1,h2,hm,runSize elem hi,Addr.add_lit,Nat.add_assoc]
 ·rename_i elem kk off i0 len
  obtain ⟨l,hl,_,rfl⟩ := den_eslice ha
  replace h := idxK_some h
  obtain ⟨m,rfl,hm,h⟩ := h
  replace h := szK_some h
  obtain ⟨i,hi,h⟩ := h
  rw [fN_eq] at h
  refine ⟨_, .pointer (some ⟨l.blk,l.off + (off + m * i.size),none⟩),h,by simp [AV.den,hl],fun w => ?_⟩
  have h1 : (0 : Int) <= (m : Int) /\ (m : Int) < (len : Int) := by omega
  have h2 : ¬ len <= m := by omega
  simp [Instr.indexAt,asIntOf,run_underlying hd,Instr.sureAddr,h1,h2,hm,runSize elem hi,Addr.add_lit,Nat.add_assoc]
 ·cases h
theorem fieldAddrK_sound {ρ : Ren} {t : TypeId} {x : AV} {f : Nat} {K : AV -> Option β} {r : β} (h : fieldAddrK P t x f K = some r) {a : Value} (ha : x.den ρ = some a) :
  ∃ v z,K v = some r /\ v.den ρ = some z /\ ∀ w,(Instr.fieldAt t a f).run P w = .ok z w := by
 unfold fieldAddrK at h
 replace h := unK_some h
 obtain ⟨d,hd,h⟩ := h
 split at h
 ·rename_i fs k off
  obtain ⟨l,hl,rfl⟩ := den_ptr ha
  split at h
  ·rename_i fd hf
   replace h := szK_some h
   obtain ⟨i,hi,h⟩ := h
   split at h
   ·cases h
   ·rename_i hz
    rw [fN_eq] at h
    refine ⟨_, .pointer (some ⟨l.blk,l.off + (off + fd.offset),none⟩),h,by simp [AV.den,hl],fun w => ?_⟩
    have hf' : fs[f]? = some fd := by simpa using hf
    have hz' : ¬ i.size = 0 := fun e => hz e
    simp [Instr.fieldAt,run_underlying hd,hf',Instr.sureAddr,fieldPlace,runSize _ hi,hz',Addr.add_lit,Nat.add_assoc]
  ·cases h
 ·cases h
theorem partK_sound {ρ : Ren} {t : TypeId} {cs : List AV} {off : Nat} {K : AV -> Option β} {r : β} (h : partK P t cs off K = some r) {l : List Value} (hl : denL ρ cs = some l) :
  ∃ v z,K v = some r /\ v.den ρ = some z /\ ∀ w,(part t l.toArray off).run P w = .ok z w := by
 unfold partK at h
 replace h := unK_some h
 obtain ⟨d,hd,h⟩ := h
 cases ha : isAggD d with
 | true =>
  simp only [ha] at h
  replace h := szK_some h
  obtain ⟨i,hi,h⟩ := h
  replace h := lcut_some h
  obtain ⟨_,h⟩ := h
  refine ⟨_, .agg ((l.drop off).take i.size).toArray,h,by simp [AV.den,denL_take _ (denL_drop _ hl)],fun w => ?_⟩
  have hex : l.toArray.extract off (off + i.size) = ((l.drop off).take i.size).toArray := by
   apply Array.ext'
   simp [List.extract_eq_take_drop]
  simp only [part,Sem.run_bind,runAgg t hd,Result.andThen_ok,ha,if_true,runSize t hi,Sem.run_pure]
  rw [hex]
 | false =>
  simp only [ha] at h
  replace h := lget_some h
  obtain ⟨v,hv,h⟩ := h
  obtain ⟨y,g1,g2⟩ := denL_get hl hv
  refine ⟨v,y,h,g2,fun w => ?_⟩
  simp [part,runAgg t hd,ha,g1]
theorem fieldK_sound {ρ : Ren} {t : TypeId} {x : AV} {f : Nat} {K : AV -> Option β} {r : β} (h : fieldK P t x f K = some r) {a : Value} (ha : x.den ρ = some a) :
  ∃ v z,K v = some r /\ v.den ρ = some z /\ ∀ w,(Instr.field t a f).run P w = .ok z w := by
 unfold fieldK at h
 replace h := unK_some h
 obtain ⟨d,hd,h⟩ := h
 split at h
 ·rename_i fs cs
  obtain ⟨l,hl,rfl⟩ := den_agg ha
  split at h
  ·rename_i fd hf
   obtain ⟨v,z,h1,h2,h3⟩ := partK_sound h hl
   refine ⟨v,z,h1,h2,fun w => ?_⟩
   have hf' : fs[f]? = some fd := by simpa using hf
   simp [Instr.field,run_underlying hd,hf',asAgg,h3]
  ·cases h
 ·cases h
theorem indexK_sound {ρ : Ren} {t : TypeId} {x ix : AV} {K : AV -> Option β} {r : β} (h : indexK P t x ix K = some r) {a b : Value} (ha : x.den ρ = some a) (hb : ix.den ρ = some b) :
  ∃ v z,K v = some r /\ v.den ρ = some z /\ ∀ w,(Instr.index t a b).run P w = .ok z w := by
 unfold indexK at h
 replace h := asI_some h
 obtain ⟨k,n,rfl,h⟩ := h
 cases den_int hb
 replace h := unK_some h
 obtain ⟨d,hd,h⟩ := h
 split at h
 ·rename_i len elem cs
  obtain ⟨l,hl,rfl⟩ := den_agg ha
  replace h := idxK_some h
  obtain ⟨m,rfl,hm,h⟩ := h
  replace h := szK_some h
  obtain ⟨i,hi,h⟩ := h
  rw [fN_eq] at h
  obtain ⟨v,z,h1,h2,h3⟩ := partK_sound h hl
  refine ⟨v,z,h1,h2,fun w => ?_⟩
  have h1 : (0 : Int) <= (m : Int) /\ (m : Int) < (len : Int) := by omega
  have h2 : ¬ len <= m := by omega
  simp [Instr.index,asIntOf,run_underlying hd,h1,h2,hm,runSize elem hi,h3]
 ·rename_i s
  cases den_str ha
  split at h
  ·rename_i i
   split at h
   ·rename_i b hb
    rw [fN_eq] at h
    refine ⟨_, .int .u8 (b.toNat : Int),h,rfl,fun w => ?_⟩
    have hget : (⟨s.toArray⟩ : ByteArray)[i]? = some b := by
     obtain ⟨hlt,he⟩ := List.getElem?_eq_some_iff.1 hb
     rw [getElem?_pos _ i (by simpa [ByteArray.size] using hlt)]
     simp only [Option.some.injEq]
     rw [<- he]; rfl
    simp [Instr.index,asIntOf,run_underlying hd,hget]
   ·cases h
  ·cases h
 ·cases h
end Go.Ai
namespace Go.Ai
open Go
set_option linter.unusedSimpArgs false
variable {P : Program} {β : Type}
def OptRel (ρ : Ren) (v : Option AV) (x : Option Value) : Prop := (v = none /\ x = none) \/ ∃ a y,v = some a /\ x = some y /\ (a = .bad \/ a.den ρ = some y)
theorem ORel.opt {ρ : Ren} {e : Operand -> AV} {ev : Operand -> Value} (h : ORel ρ e ev) (o : Option Operand) : OptRel ρ (o.map e) (o.map ev) := by
 cases o with
 | none => exact .inl ⟨rfl,rfl⟩
 | some o => exact .inr ⟨_,_,rfl,rfl,h o⟩
theorem bndK_some {ρ : Ren} {v : Option AV} {x : Option Value} (hv : OptRel ρ v x) {d most : Nat} {K : Nat -> Option β} {r : β} (h : bndK v d most K = some r) :
  ∃ n,K n = some r /\ ((v = none /\ x = none /\ n = d) \/ ∃ k,v.isSome = true /\ x = some (.int k (n : Int)) /\ n <= most) := by
 unfold bndK at h
 rcases hv with ⟨rfl,rfl⟩ | ⟨a,y,rfl,rfl,hay⟩
 ·exact ⟨d,h, .inl ⟨rfl,rfl,rfl⟩⟩
 ·simp only at h
  obtain ⟨k,i,rfl,h⟩ := asI_some h
  rcases hay with hay | hay
  ·cases hay
  ·cases den_int hay
   obtain ⟨m,rfl,hm,h⟩ := idxK_some h
   exact ⟨m,h, .inr ⟨k,rfl,rfl,by omega⟩⟩
theorem run_sliceBound {k : IntKind} {n most : Nat} (h : n <= most) (c : BoundsCode) (w : World) : (Instr.sliceBound (.int k (n : Int)) most c).run P w = .ok n w := by
 have h1 : (0 : Int) <= (n : Int) /\ (n : Int) <= (most : Int) := by omega
 have h2 : ¬ most < n := by omega
 simp [Instr.sliceBound,asIntOf,h1,h2,h]
theorem run_bounds {mx hi lo : Option AV} {mx' hi' lo' : Option Value} {m h l len cap : Nat} (isS : Bool)
  (hm : (mx = none /\ mx' = none /\ m = cap) \/ ∃ k,mx.isSome = true /\ mx' = some (.int k (m : Int)) /\ m <= cap)
  (hh : (hi = none /\ hi' = none /\ h = len) \/ ∃ k,hi.isSome = true /\ hi' = some (.int k (h : Int)) /\ h <= m)
  (hl : (lo = none /\ lo' = none /\ l = 0) \/ ∃ k,lo.isSome = true /\ lo' = some (.int k (l : Int)) /\ l <= h)
  (hno : ¬ (mx.isSome = true /\ hi = none)) (w : World) : (Instr.sliceBounds isS len cap lo' hi' mx').run P w = .ok (l,h,m) w := by
 rcases hm with ⟨rfl,rfl,rfl⟩ | ⟨km,hm0,rfl,hm⟩ <;> rcases hh with ⟨rfl,rfl,rfl⟩ | ⟨kh,hh0,rfl,hh⟩ <;> rcases hl with ⟨rfl,rfl,rfl⟩ | ⟨kl,hl0,rfl,hl⟩ <;>
  first
   | (simp [Instr.sliceBounds,run_sliceBound, *]; done)
   | (exfalso; exact hno ⟨hm0,rfl⟩)
theorem extract_bytes (s : List UInt8) (l n : Nat) : ((⟨s.toArray⟩ : ByteArray).extract l n).data = ((s.drop l).take (n - l)).toArray := by
 rw [ByteArray.data_extract]
 apply Array.ext'
 simp [List.extract_eq_take_drop]
theorem sliceK_sound {ρ : Ren} {t : TypeId} {x : AV} {lo hi mx : Option AV} {lo' hi' mx' : Option Value} {K : AV -> Option β} {r : β} (h : sliceK P t x lo hi mx K = some r) {a : Value} (ha : x.den ρ = some a)
  (hlo : OptRel ρ lo lo') (hhi : OptRel ρ hi hi') (hmx : OptRel ρ mx mx') : ∃ v z,K v = some r /\ v.den ρ = some z /\ ∀ w,(Instr.sliceAt t a lo' hi' mx').run P w = .ok z w := by
 unfold sliceK at h
 replace h := unK_some h
 obtain ⟨d,hd,h⟩ := h
 split at h
 ·rename_i s
  cases den_str ha
  split at h
  ·cases h
  ·rcases hmx with ⟨_,rfl⟩ | ⟨_,_,hc,_⟩
   ·simp only [llen_eq,Nat.zero_add,fL_eq] at h
    replace h := bndK_some hhi h
    obtain ⟨n,h,hn⟩ := h
    replace h := bndK_some hlo h
    obtain ⟨l,h,hl⟩ := h
    refine ⟨_, .string ⟨((s.drop l).take (n - l)).toArray⟩,h,rfl,fun w => ?_⟩
    have hsz : (⟨s.toArray⟩ : ByteArray).size = s.length := by simp [ByteArray.size]
    have hb := run_bounds (P := P) (mx := none) (hi := hi) (lo := lo) (mx' := none) (m := s.length) false (.inl ⟨rfl,rfl,rfl⟩) hn hl (by simp) w
    have hex : (⟨s.toArray⟩ : ByteArray).extract l n = ⟨((s.drop l).take (n - l)).toArray⟩ := by
     apply ByteArray.ext
     exact extract_bytes s l n
    simp [Instr.sliceAt,Instr.slice,run_underlying hd,hsz,hb,hex]
   ·cases hc
 ·rename_i n elem k off
  obtain ⟨p,hp,rfl⟩ := den_ptr ha
  replace h := bndK_some hmx h
  obtain ⟨m,h,hm⟩ := h
  replace h := bndK_some hhi h
  obtain ⟨n',h,hn⟩ := h
  replace h := bndK_some hlo h
  obtain ⟨l,h,hl⟩ := h
  replace h := szK_some h
  obtain ⟨i,hi0,h⟩ := h
  split at h
  ·cases h
  ·rename_i hno
   simp only [fN_eq] at h
   refine ⟨_, .slice (some ⟨p.blk,p.off + (if m = l then off else off + l * i.size),none⟩) (n' - l) (m - l),h, ?_,fun w => ?_⟩
   ·simp only [AV.den,hp,Option.map_some]
    congr 4
    split
    ·rename_i e; rw [if_pos (Nat.eq_of_beq_eq_true e)]
    ·rename_i e; rw [if_neg (Nat.ne_of_beq_eq_false e)]
   ·have hb := run_bounds (P := P) (len := n) false hm hn hl (by
     intro ⟨c1,c2⟩
     obtain ⟨q,rfl⟩ := Option.isSome_iff_exists.1 c1
     exact hno _ rfl c2) w
    simp only [Instr.sliceAt,Sem.run_bind,run_underlying hd,Result.andThen_ok,Instr.sureAddr,Sem.run_pure,hb,runSize elem hi0]
    congr 3
    split <;> simp [Addr.add_lit,Nat.add_assoc]
 ·rename_i elem k off len cap
  obtain ⟨p,hp,rfl⟩ := den_slice ha
  replace h := bndK_some hmx h
  obtain ⟨m,h,hm⟩ := h
  replace h := bndK_some hhi h
  obtain ⟨n',h,hn⟩ := h
  replace h := bndK_some hlo h
  obtain ⟨l,h,hl⟩ := h
  replace h := szK_some h
  obtain ⟨i,hi0,h⟩ := h
  split at h
  ·cases h
  ·rename_i hno
   simp only [fN_eq] at h
   refine ⟨_, .slice (some ⟨p.blk,p.off + (if m = l then off else off + l * i.size),none⟩) (n' - l) (m - l),h, ?_,fun w => ?_⟩
   ·simp only [AV.den,hp,Option.map_some]
    congr 4
    split
    ·rename_i e; rw [if_pos (Nat.eq_of_beq_eq_true e)]
    ·rename_i e; rw [if_neg (Nat.ne_of_beq_eq_false e)]
   ·have hb := run_bounds (P := P) (len := len) true hm hn hl (by
     intro ⟨c1,c2⟩
     obtain ⟨q,rfl⟩ := Option.isSome_iff_exists.1 c1
     exact hno _ rfl c2) w
    simp only [Instr.sliceAt,Instr.slice,Sem.run_bind,run_underlying hd,Result.andThen_ok,Sem.run_pure,hb,runSize elem hi0]
    congr 3
    split <;> simp [Addr.add_lit,Nat.add_assoc]
 ·rename_i elem k off i0 len
  obtain ⟨p,hp,hcap,rfl⟩ := den_eslice ha
  split at h
  ·rename_i mv hv
   replace h := bndK_some hmx h
   obtain ⟨m,h,hm⟩ := h
   replace h := bndK_some hhi h
   obtain ⟨n',h,hn⟩ := h
   replace h := bndK_some hlo h
   obtain ⟨l,h,hl⟩ := h
   replace h := szK_some h
   obtain ⟨i,hi0,h⟩ := h
   simp only [fN_eq] at h
   refine ⟨_, .slice (some ⟨p.blk,p.off + (if m = l then off else off + l * i.size),none⟩) (n' - l) (m - l),h, ?_,fun w => ?_⟩
   ·simp only [AV.den,hp,Option.map_some]
    congr 4
    split
    ·rename_i e; rw [if_pos (Nat.eq_of_beq_eq_true e)]
    ·rename_i e; rw [if_neg (Nat.ne_of_beq_eq_false e)]
   ·have hm' : (some mv = none /\ mx' = none /\ m = p.cap - i0) \/ ∃ k,(some mv).isSome = true /\ mx' = some (.int k (m : Int)) /\ m <= p.cap - i0 := by
     rcases hm with ⟨c,_⟩ | ⟨k,c1,c2,c3⟩
     ·cases c
     ·exact .inr ⟨k,c1,c2,by omega⟩
    have hn' : (some hv = none /\ hi' = none /\ n' = len) \/ ∃ k,(some hv).isSome = true /\ hi' = some (.int k (n' : Int)) /\ n' <= m := by
     rcases hn with ⟨c,_⟩ | hn
     ·cases c
     ·exact .inr hn
    have hb := run_bounds (P := P) (len := len) true hm' hn' hl (by simp) w
    simp only [Instr.sliceAt,Instr.slice,Sem.run_bind,run_underlying hd,Result.andThen_ok,Sem.run_pure,hb,runSize elem hi0]
    congr 3
    split <;> simp [Addr.add_lit,Nat.add_assoc]
  ·cases h
  ·rcases hmx with ⟨_,rfl⟩ | ⟨_,_,hc,_⟩
   ·replace h := bndK_some hhi h
    obtain ⟨n',h,hn⟩ := h
    replace h := bndK_some hlo h
    obtain ⟨l,h,hl⟩ := h
    have hn' : (hi = none /\ hi' = none /\ n' = len) \/ ∃ k,hi.isSome = true /\ hi' = some (.int k (n' : Int)) /\ n' <= p.cap - i0 := by
     rcases hn with hn | ⟨k,c1,c2,c3⟩
     ·exact .inl hn
     ·exact .inr ⟨k,c1,c2,by omega⟩
    have hnl : n' <= len := by
     rcases hn with ⟨_,_,rfl⟩ | ⟨k,c1,c2,c3⟩ <;> omega
    have hb := fun w => run_bounds (P := P) (len := len) (mx := none) (mx' := none) (m := p.cap - i0) true (.inl ⟨rfl,rfl,rfl⟩) hn' hl (by simp) w
    replace h := szK_some h
    obtain ⟨i,hi0,h⟩ := h
    split at h
    ·refine ⟨_, .slice (some ⟨p.blk,p.off + off,none⟩) n' (p.cap - i0),h,by simp [AV.den,hp]; omega,fun w => ?_⟩
     simp only [Instr.sliceAt,Instr.slice,Sem.run_bind,run_underlying hd,Result.andThen_ok,Sem.run_pure,hb,runSize elem hi0]
     simp [Addr.add_lit]
    ·rename_i l
     split at h
     ·rename_i hlt
      have hlt : l + 1 < len := by simpa [Nat.blt_eq] using hlt
      simp only [fN_eq] at h
      have hln : l + 1 <= n' := by
       rcases hl with ⟨_,_,c⟩ | ⟨k,c1,c2,c3⟩
       ·omega
       ·exact c3
      refine ⟨_, .slice (some ⟨p.blk,p.off + (off + (l + 1) * i.size),none⟩) (n' - (l + 1)) (p.cap - (i0 + (l + 1))),h,by simp [AV.den,hp]; omega,fun w => ?_⟩
      simp only [Instr.sliceAt,Instr.slice,Sem.run_bind,run_underlying hd,Result.andThen_ok,Sem.run_pure,hb,runSize elem hi0]
      have e1 : ¬ (p.cap - i0 = l + 1) := by omega
      have e2 : p.cap - i0 - (l + 1) = p.cap - (i0 + (l + 1)) := by omega
      simp [e1,e2,Addr.add_lit,Nat.add_assoc]
     ·rename_i hlt
      have hlt : ¬ l + 1 < len := fun c => by rw [<- Nat.blt_eq,hlt] at c; cases c
      have hln : l + 1 <= n' := by
       rcases hl with ⟨_,_,c⟩ | ⟨k,c1,c2,c3⟩
       ·omega
       ·exact c3
      obtain rfl : n' = l + 1 := by omega
      obtain rfl : len = l + 1 := by omega
      refine ⟨_,(if i0 + (l + 1) = p.cap then .slice (some ⟨p.blk,p.off + off,none⟩) 0 0 else .slice (some ⟨p.blk,p.off + (off + (l + 1) * i.size),none⟩) 0 (p.cap - (i0 + (l + 1)))),h,by simp [AV.den,hp,hcap],fun w => ?_⟩
      simp only [Instr.sliceAt,Instr.slice,Sem.run_bind,run_underlying hd,Result.andThen_ok,Sem.run_pure,hb,runSize elem hi0]
      by_cases e1 : i0 + (l + 1) = p.cap
      ·have e2 : p.cap - i0 = l + 1 := by omega
       simp [e1,e2,Addr.add_lit]
      ·have e2 : ¬ (p.cap - i0 = l + 1) := by omega
       have e3 : p.cap - i0 - (l + 1) = p.cap - (i0 + (l + 1)) := by omega
       simp [e1,e2,e3,Addr.add_lit,Nat.add_assoc]
   ·cases hc
 ·rename_i elem k off i0 n size
  obtain ⟨b,ad,c,ea⟩ := den_tslice' ha
  split at h
  ·cases h
  ·rcases hmx with ⟨_,rfl⟩ | ⟨_,_,hc,_⟩
   ·replace h := bndK_some hhi h
    obtain ⟨n',h,hn⟩ := h
    replace h := bndK_some hlo h
    obtain ⟨l,h,hl⟩ := h
    replace h := szK_some h
    obtain ⟨i,hi0,h⟩ := h
    have en : n' = 0 := by rcases hn with ⟨_,_,c⟩ | ⟨k,c1,c2,c3⟩ <;> omega
    subst en
    have el : l = 0 := by rcases hl with ⟨_,_,c⟩ | ⟨k,c1,c2,c3⟩ <;> omega
    subst el
    have hn' : (hi = none /\ hi' = none /\ 0 = 0) \/ ∃ k,hi.isSome = true /\ hi' = some (.int k ((0 : Nat) : Int)) /\ 0 <= c := by
     rcases hn with ⟨c1,c2,_⟩ | ⟨k,c1,c2,c3⟩
     ·exact .inl ⟨c1,c2,rfl⟩
     ·exact .inr ⟨k,c1,c2,Nat.zero_le _⟩
    have hb := fun w => run_bounds (P := P) (len := 0) (mx := none) (mx' := none) (m := c) true (.inl ⟨rfl,rfl,rfl⟩) hn' hl (by simp) w
    refine ⟨_,a,h,ha,fun w => ?_⟩
    subst ea
    simp only [Instr.sliceAt,Instr.slice,Sem.run_bind,run_underlying hd,Result.andThen_ok,Sem.run_pure,hb,runSize elem hi0]
    by_cases e1 : c = 0 <;> simp [e1,Addr.add_lit]
   ·cases hc
 ·rename_i elem zad
  have ea := den_zslice ha
  split at h
  ·cases h
  ·rcases hmx with ⟨_,rfl⟩ | ⟨_,_,hc,_⟩
   ·replace h := bndK_some hhi h
    obtain ⟨n',h,hn⟩ := h
    replace h := bndK_some hlo h
    obtain ⟨l,h,hl⟩ := h
    replace h := szK_some h
    obtain ⟨i,hi0,h⟩ := h
    have en : n' = 0 := by rcases hn with ⟨_,_,c⟩ | ⟨k,c1,c2,c3⟩ <;> omega
    subst en
    have el : l = 0 := by rcases hl with ⟨_,_,c⟩ | ⟨k,c1,c2,c3⟩ <;> omega
    subst el
    have hn' : (hi = none /\ hi' = none /\ 0 = 0) \/ ∃ k,hi.isSome = true /\ hi' = some (.int k ((0 : Nat) : Int)) /\ 0 <= 0 := by
     rcases hn with ⟨c1,c2,_⟩ | ⟨k,c1,c2,c3⟩
     ·exact .inl ⟨c1,c2,rfl⟩
     ·exact .inr ⟨k,c1,c2,Nat.zero_le _⟩
    have hb := fun w => run_bounds (P := P) (len := 0) (mx := none) (mx' := none) (m := 0) true (.inl ⟨rfl,rfl,rfl⟩) hn' hl (by simp) w
    refine ⟨_,a,h,ha,fun w => ?_⟩
    subst ea
    simp only [Instr.sliceAt,Instr.slice,Sem.run_bind,run_underlying hd,Result.andThen_ok,Sem.run_pure,hb,runSize elem hi0]
    simp
   ·cases hc
 ·rename_i elem
  cases den_nilslice ha
  replace h := bndK_some hmx h
  obtain ⟨m,h,hm⟩ := h
  replace h := bndK_some hhi h
  obtain ⟨n',h,hn⟩ := h
  replace h := bndK_some hlo h
  obtain ⟨l,h,hl⟩ := h
  replace h := szK_some h
  obtain ⟨i,hi0,h⟩ := h
  split at h
  ·cases h
  ·rename_i hno
   have em : m = 0 := by rcases hm with ⟨_,_,c⟩ | ⟨k,c1,c2,c3⟩ <;> omega
   have en : n' = 0 := by rcases hn with ⟨_,_,c⟩ | ⟨k,c1,c2,c3⟩ <;> omega
   have el : l = 0 := by rcases hl with ⟨_,_,c⟩ | ⟨k,c1,c2,c3⟩ <;> omega
   subst em en el
   have hb := fun w => run_bounds (P := P) (len := 0) true hm hn hl (by
     intro ⟨c1,c2⟩
     obtain ⟨q,rfl⟩ := Option.isSome_iff_exists.1 c1
     exact hno _ rfl c2) w
   refine ⟨_, .slice none 0 0,h,rfl,fun w => ?_⟩
   simp only [Instr.sliceAt,Instr.slice,Sem.run_bind,run_underlying hd,Result.andThen_ok,Sem.run_pure,hb,runSize elem hi0]
   simp
 ·cases h
 ·cases h
end Go.Ai
namespace Go.Ai
open Go
set_option linter.unusedSimpArgs false
variable {P : Program} {β : Type}
theorem foldl_lay (off : Nat) : ∀ (vs : List Value) (k : Nat) (C : Array Value),off + k + vs.length <= C.size ->
  ((vs.zipIdx k).foldl (fun cs (c,j) => cs.setIfInBounds (off + j) c) C).toList = C.toList.take (off + k) ++ vs ++ C.toList.drop (off + k + vs.length)
 | [],k,C,_ => by simp
 | v :: vs,k,C,h => by
  simp only [List.length_cons] at h
  have ih := foldl_lay off vs (k + 1) (C.setIfInBounds (off + k) v) (by simp; omega)
  simp only [List.zipIdx_cons,List.foldl_cons,ih]
  have hk : off + k < C.toList.length := by simp; omega
  have e1 : (C.setIfInBounds (off + k) v).toList = C.toList.set (off + k) v := by simp
  rw [e1]
  have e2 : (C.toList.set (off + k) v).take (off + (k + 1)) = C.toList.take (off + k) ++ [v] := by
   rw [show off + (k + 1) = (off + k) + 1 by omega,List.take_add_one,List.take_set_of_le (Nat.le_refl _),List.getElem?_set_self hk]
   rfl
  have e3 : (C.toList.set (off + k) v).drop (off + (k + 1) + vs.length) = C.toList.drop (off + k + (v :: vs).length) := by
   rw [List.drop_set_of_lt (by omega)]
   congr 1; simp; omega
  rw [e2,e3]
  simp
theorem fill_lay {off : Nat} {v : Value} {C : Array Value} (h : off + v.cells.size <= C.size) :
  (v.cells.zipIdx.foldl (fun cs (c,j) => cs.setIfInBounds (off + j) c) C) = (C.toList.take off ++ v.cells.toList ++ C.toList.drop (off + v.cells.size)).toArray := by
 apply Array.ext'
 rw [<- Array.foldl_toList,Array.toList_zipIdx]
 have := foldl_lay off v.cells.toList 0 C (by simpa using h)
 simpa using this
theorem fillK_some {ρ : Ren} {place : Nat -> Option (Nat × Nat)} {is : List Nat} {vs : List AV} {xs : List Value} (hv : denL ρ vs = some xs) {cells : List AV} {X : List Value} (hX : denL ρ cells = some X)
  {K : List AV -> Option β} {r : β} (h : fillK place (is.zip vs) cells K = some r) : ∃ cells' X',K cells' = some r /\ denL ρ cells' = some X' /\ Instr.fill place X.toArray (is.zip xs) = some X'.toArray /\ (∀ v ∈ X',v.oneCell' = true \/ v ∈ X) := by
 induction is generalizing vs xs cells X with
 | nil => exact ⟨cells,X,by simpa [fillK] using h,hX,by simp [Instr.fill],fun v hv => .inr hv⟩
 | cons i is ih =>
  cases vs with
  | nil => rw [denL_nil] at hv; cases hv; exact ⟨cells,X,by simpa [fillK] using h,hX,by simp [Instr.fill],fun v hv => .inr hv⟩
  | cons v vs =>
   obtain ⟨x,xs',h1,h2,rfl⟩ := denL_cons.1 hv
   simp only [List.zip_cons_cons,fillK] at h
   split at h
   ·cases h
   ·rename_i off size hpl
    simp only [cellsK_eq,llen_eq,Nat.zero_add] at h
    split at h
    ·rename_i hn
     have hn := Nat.eq_of_beq_eq_true hn
     replace h := lput_some h
     obtain ⟨hle,hsc,h⟩ := h
     have hc := cells_den h1
     have hlc := denL_len hc
     have hlX := denL_len hX
     have hnew := denL_app (denL_app (denL_take off hX) hc) (denL_drop (off + v.cells.length) hX)
     obtain ⟨c',X',g1,g2,g3,g4⟩ := ih h2 hnew h
     have hxs : x.cells.size = size := by rw [<- hn,<- hlc]; simp
     have hxl : x.cells.toList.length = v.cells.length := hlc
     refine ⟨c',X',g1,g2, ?_, ?_⟩
     ·simp only [List.zip_cons_cons,Instr.fill,hpl]
      have c1 : ¬ ((x.cells.size ≠ size || decide (off + x.cells.size > X.toArray.size)) = true) := by
       simp at hxl ⊢; omega
      rw [if_neg c1,fill_lay (by simp at hxl ⊢; omega)]
      simp at hxl
      rw [hxl]
      simpa using g3
     ·intro y hy
      rcases g4 y hy with g | g
      ·exact .inl g
      ·simp only [List.mem_append] at g
       rcases g with (g | g) | g
       ·exact .inr (List.mem_of_mem_take g)
       ·left
        obtain ⟨j,hj,rfl⟩ := List.mem_iff_getElem.1 g
        obtain ⟨y,q1,q2⟩ := denL_get hc (List.getElem?_eq_getElem (show j < v.cells.length by omega))
        rw [List.getElem?_eq_getElem hj] at q1; cases q1
        exact isSc_cell (hsc _ (List.getElem_mem _)) q2
       ·exact .inr (List.mem_of_mem_drop g)
    ·cases h
theorem parts_vals (parts : Array (Nat × Operand)) (ev : Operand -> Value) : (parts.map fun (i,x) => (i,ev x)).toList = (parts.toList.map (·.1)).zip ((parts.toList.map (·.2)).map ev) := by
 rw [Array.toList_map]
 induction parts.toList with
 | nil => rfl
 | cons p ps ih => simp [ih]
theorem buildK_sound {ρ : Ren} {t : TypeId} {is : List Nat} {vs : List AV} {xs : List Value} (hv : denL ρ vs = some xs) {K : AV -> Option β} {r : β} (h : buildK P t (is.zip vs) K = some r)
  (parts : Array (Nat × Value)) (hp : parts.toList = is.zip xs) : ∃ v z,K v = some r /\ v.den ρ = some z /\ ∀ w,(Instr.build t parts).run P w = .ok z w := by
 unfold buildK at h
 replace h := zeroK_some h
 obtain ⟨i,zv,z,hi,hz,hd,h⟩ := h
 replace h := unK_some h
 obtain ⟨d,hu,h⟩ := h
 split at h
 ·rename_i fs
  split at h
  ·rename_i hall
   rw [cellsK_eq] at h
   obtain ⟨c,X,g1,g2,g3,_⟩ := fillK_some hv (cells_den (hd ρ)) h
   refine ⟨_, .agg X.toArray,g1,by simp [AV.den,g2],fun w => ?_⟩
   have hm : (fs.mapM (m := Sem) fun f => do pure (f.offset,<- sizeOf f.type)).run P w = .ok (fs.map fun f => (f.offset,P.cellsOf f.type)) w := by
    rw [Array.mapM_eq_mapM_toList]
    have hl : ∀ l : List Field,(∀ f ∈ l,(P.info? f.type).isSome = true) -> (l.mapM (m := Sem) fun f => do pure (f.offset,<- sizeOf f.type)).run P w = .ok (l.map fun f => (f.offset,P.cellsOf f.type)) w := by
     intro l
     induction l with
     | nil => intro _; rfl
     | cons f rest ih =>
      intro hf
      obtain ⟨ti,hti⟩ := Option.isSome_iff_exists.1 (hf f (by simp))
      have ih := ih (fun g hg => hf g (by simp [hg]))
      simp only [List.mapM_cons,Sem.run_bind,runSize f.type hti,Result.andThen_ok,Sem.run_pure,ih,List.map_cons]
      simp [Program.cellsOf,hti]
    rw [Sem.run_map,hl fs.toList (fun f hf => List.all_eq_true.1 hall f hf)]
    simp only [Result.andThen_ok]
    congr 1
    apply Array.ext'
    simp
   have hplace : fsPlace P fs.toList = ((fs.map fun (f : Field) => (f.offset,P.cellsOf f.type))[·]?) := by
    funext i
    unfold fsPlace
    rw [Array.getElem?_map,<- Array.getElem?_toList]
    cases hfi : fs.toList[i]? with
    | none => rfl
    | some f =>
     obtain ⟨ti,hti⟩ := Option.isSome_iff_exists.1 (List.all_eq_true.1 hall f (List.mem_of_getElem? hfi))
     simp [hti,Program.cellsOf]
   rw [hplace] at g3
   simp only [Instr.build,Sem.run_bind,runZero t hi hz,Result.andThen_ok,run_underlying hu,hm,hp]
   have e : zv.cells = (zv.cells.toList).toArray := by simp
   rw [e,g3]
   simp
  ·cases h
 ·rename_i n elem
  replace h := szK_some h
  obtain ⟨ie,hie,h⟩ := h
  rw [cellsK_eq] at h
  obtain ⟨c,X,g1,g2,g3,_⟩ := fillK_some hv (cells_den (hd ρ)) h
  refine ⟨_, .agg X.toArray,g1,by simp [AV.den,g2],fun w => ?_⟩
  simp only [Instr.build,Sem.run_bind,runZero t hi hz,Result.andThen_ok,run_underlying hu,runSize elem hie,hp]
  have e : zv.cells = (zv.cells.toList).toArray := by simp
  rw [e,g3]
  simp
 ·cases h
end Go.Ai
