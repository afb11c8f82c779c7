/- Operations, one by one. No program. No condition but those in the theorems. -/
import Derived.Test.YtlnepbkeiianmaaAiM2
import Derived.Laws.BytesString
namespace Go.Ai
open Go
set_option linter.unusedSimpArgs false
variable {P : Program} {β : Type}
theorem convPureK_sound {ρ : Ren} {s d : TypeId} {x : AV} {K : AV -> Option β} {r : β} (h : convPureK P s d x K = some r) {a : Value} (ha : x.den ρ = some a) :
  ∃ v z,K v = some r /\ v.den ρ = some z /\ ∀ w,(convert s d a).run P w = .ok z w := by
 unfold convPureK at h
 replace h := unK_some h
 obtain ⟨sd,hs,h⟩ := h
 replace h := unK_some h
 obtain ⟨dd,hd,h⟩ := h
 split at h
 ·cases h
 ·cases den_int ha
  rw [fI_eq,wrapA_eq] at h
  refine ⟨_,_,h,rfl,fun w => ?_⟩
  cases sd <;> simp [convert,run_underlying hs,run_underlying hd,Conv.intToInt]
 ·rename_i hno
  cases den_str ha
  refine ⟨_,_,h,rfl,fun w => ?_⟩
  cases sd <;> first
   | (simp [convert,run_underlying hs,run_underlying hd]; done)
   | (exact absurd rfl (hno _))
 ·cases h
theorem arrayAtK_sound {ρ : Ren} {t : TypeId} {x : AV} {K : AV -> Option β} {r : β} (h : arrayAtK P t x K = some r) {a : Value} (ha : x.den ρ = some a) :
  ∃ v z,K v = some r /\ v.den ρ = some z /\ ∀ w,(Instr.arrayAt t a).run P w = .ok z w := by
 unfold arrayAtK at h
 replace h := unK_some h
 obtain ⟨d,hd,h⟩ := h
 split at h
 ·rename_i kk off len cap
  obtain ⟨l,hl,rfl⟩ := den_slice ha
  split at h
  ·rename_i hle
   have hle := Nat.le_of_ble_eq_true hle
   exact ⟨_, .pointer (some ⟨l.blk,l.off + off,none⟩),h,by simp only [AV.den,hl,Option.map_some],fun w => by simp [Instr.arrayAt,run_underlying hd,Nat.not_lt.2 hle]⟩
  ·cases h
 ·rename_i kk off i0 len
  obtain ⟨l,hl,_,rfl⟩ := den_eslice ha
  split at h
  ·rename_i hle
   have hle := Nat.le_of_ble_eq_true hle
   exact ⟨_, .pointer (some ⟨l.blk,l.off + off,none⟩),h,by simp only [AV.den,hl,Option.map_some],fun w => by simp [Instr.arrayAt,run_underlying hd,Nat.not_lt.2 hle]⟩
  ·cases h
 ·cases h
theorem lenK_sound {ρ : Ren} {t : TypeId} {x : AV} {K : AV -> Option β} {r : β} (h : lenK P t x K = some r) {a : Value} (ha : x = .bad \/ x.den ρ = some a) (ts : Array TypeId) (ht : ts[0]? = some t) (ty : TypeId) (as : Array Value) (has : as[0]? = some a) :
  ∃ v z,K v = some r /\ v.den ρ = some z /\ ∀ w,(Builtin.len_ ts ty as).run P w = .ok z w := by
 unfold lenK at h
 replace h := unK_some h
 obtain ⟨d,hd,h⟩ := h
 split at h
 ·rcases ha with ha | ha
  ·cases ha
  ·rename_i s
   cases den_str ha
   simp only [llen_eq,fN_eq] at h
   have hsz : (⟨s.toArray⟩ : ByteArray).size = s.length := by simp [ByteArray.size]
   refine ⟨_, .int .i64 (s.length : Int),h,by simp [AV.den],fun w => ?_⟩
   simp [Builtin.len_,ht,has,run_underlying hd,goInt,hsz]
 ·simp only [fN_eq] at h
  exact ⟨_,_,h,rfl,fun w => by simp [Builtin.len_,ht,has,run_underlying hd,goInt]⟩
 ·replace h := unK_some h
  obtain ⟨e,he,h⟩ := h
  split at h
  ·simp only [fN_eq] at h
   exact ⟨_,_,h,rfl,fun w => by simp [Builtin.len_,ht,has,run_underlying hd,run_underlying he,goInt]⟩
  ·cases h
 ·rcases ha with ha | ha
  ·cases ha
  ·cases den_nilslice ha
   simp only [fN_eq] at h
   exact ⟨_,_,h,rfl,fun w => by simp [Builtin.len_,ht,has,run_underlying hd,goInt]⟩
 ·rcases ha with ha | ha
  ·cases ha
  ·obtain ⟨l,hl,rfl⟩ := den_slice ha
   simp only [fN_eq] at h
   exact ⟨_,_,h,rfl,fun w => by simp [Builtin.len_,ht,has,run_underlying hd,goInt]⟩
 ·rcases ha with ha | ha
  ·cases ha
  ·obtain ⟨l,hl,_,rfl⟩ := den_eslice ha
   simp only [fN_eq] at h
   exact ⟨_,_,h,rfl,fun w => by simp [Builtin.len_,ht,has,run_underlying hd,goInt]⟩
 ·rcases ha with ha | ha
  ·cases ha
  ·obtain ⟨_,_,_,rfl⟩ := den_tslice' ha
   simp only [fN_eq] at h
   exact ⟨_,_,h,rfl,fun w => by simp [Builtin.len_,ht,has,run_underlying hd,goInt]⟩
 ·rcases ha with ha | ha
  ·cases ha
  ·cases den_zslice ha
   simp only [fN_eq] at h
   exact ⟨_,_,h,rfl,fun w => by simp [Builtin.len_,ht,has,run_underlying hd,goInt]⟩
 ·cases h
theorem minMaxK_sound {ρ : Ren} {m : Bool} {vs : List AV} {K : AV -> Option β} {r : β} (h : minMaxK m vs K = some r) {xs : List Value} (hx : denL ρ vs = some xs) :
  ∃ v z,K v = some r /\ v.den ρ = some z /\ (m = false -> ∀ ts ty w,(Builtin.min_ ts ty xs.toArray).run P w = .ok z w) /\ (m = true -> ∀ ts ty w,(Builtin.max_ ts ty xs.toArray).run P w = .ok z w) := by
 unfold minMaxK at h
 split at h
 ·obtain ⟨x,xs,h1,h2,rfl⟩ := denL_cons.1 hx
  obtain ⟨y,ys,h3,h4,rfl⟩ := denL_cons.1 h2
  rw [denL_nil] at h4; cases h4
  cases den_int h1; cases den_int h3
  split at h
  ·rename_i k p k' q hk
   subst hk
   simp only [ile_eq] at h
   cases m <;> by_cases hle : p <= q <;> simp only [hle,decide_true,decide_false] at h
   ·exact ⟨_,_,h,rfl,fun _ ts ty w => by simp [Builtin.min_,Builtin.min2]; omega,by simp⟩
   ·exact ⟨_,_,h,rfl,fun _ ts ty w => by simp [Builtin.min_,Builtin.min2]; omega,by simp⟩
   ·exact ⟨_,_,h,rfl,by simp,fun _ ts ty w => by simp [Builtin.max_,Builtin.max2]; omega⟩
   ·exact ⟨_,_,h,rfl,by simp,fun _ ts ty w => by simp [Builtin.max_,Builtin.max2]; omega⟩
  ·cases h
 ·cases h
theorem pureK_sound {ρ : Ren} {e : Operand -> AV} {ev : Operand -> Value} (ho : ORel ρ e ev) {o : Oper} {K : AV -> Option β} {r : β} (h : pureK P e o K = some r) :
  ∃ v z,K v = some r /\ v.den ρ = some z /\ ∀ w,(execOp ev o).run P w = .ok (.value z) w := by
 unfold pureK at h
 split at h
 ·rename_i x hop
  obtain ⟨h1,h2⟩ := fK_some h
  exact ⟨_,_,h2,ho.den h1,fun w => by simp [execOp,hop]⟩
 ·rename_i x hop
  obtain ⟨h1,h2⟩ := fK_some h
  exact ⟨_,_,h2,ho.den h1,fun w => by simp [execOp,hop]⟩
 ·rename_i c a b hop
  split at h
  ·rename_i hc
   have hc := den_bool (ho.of hc (by simp))
   obtain ⟨h1,h2⟩ := fK_some h
   exact ⟨_,_,h2,ho.den h1,fun w => by simp [execOp,hop,hc,asBool]⟩
  ·rename_i hc
   have hc := den_bool (ho.of hc (by simp))
   obtain ⟨h1,h2⟩ := fK_some h
   exact ⟨_,_,h2,ho.den h1,fun w => by simp [execOp,hop,hc,asBool]⟩
  ·cases h
 ·rename_i t parts hop
  replace h := fArgs_some ho h
  obtain ⟨vs,h,hv⟩ := h
  obtain ⟨v,z,h1,h2,h3⟩ := buildK_sound hv h (parts.map fun (i,x) => (i,ev x)) (parts_vals parts ev)
  exact ⟨v,z,h1,h2,fun w => by simp only [execOp,hop,Sem.run_bind,h3,Result.andThen_ok]; rfl⟩
 ·rename_i x hop
  split at h
  ·rename_i hx
   obtain ⟨l,hl,hx'⟩ := den_ptr (ho.of hx (by simp))
   exact ⟨_,ev x,h,by rw [hx']; simp [AV.den,hl],fun w => by simp [execOp,hop,hx']⟩
  ·rename_i hx
   obtain ⟨p,q,h1,h2,hx'⟩ := den_func (ho.of hx (by simp))
   exact ⟨_,ev x,h,by rw [hx']; simp [AV.den,h1,h2],fun w => by simp [execOp,hop,hx']⟩
  ·cases h
 ·rename_i op t x y yt hop
  obtain ⟨hx,h⟩ := okK_some h
  obtain ⟨hy,h⟩ := okK_some h
  obtain ⟨v,z,h1,h2,h3⟩ := binK_sound h (ho.den hx) (ho.den hy)
  exact ⟨v,z,h1,h2,fun w => by
   have := h3 x y w
   simp only [Sem.run_bind] at this
   simp only [execOp,hop,Sem.run_bind,this,Result.andThen_ok]; rfl⟩
 ·rename_i op t x hop
  obtain ⟨hx,h⟩ := okK_some h
  obtain ⟨v,z,h1,h2,h3⟩ := unA_sound h (ho.den hx)
  exact ⟨v,z,h1,h2,fun w => by simp [execOp,hop,h3]⟩
 ·rename_i t x hop
  obtain ⟨hx,h⟩ := okK_some h
  obtain ⟨v,z,h1,h2,h3⟩ := arrayAtK_sound h (ho.den hx)
  exact ⟨v,z,h1,h2,fun w => by simp only [execOp,hop,Sem.run_bind,h3,Result.andThen_ok]; rfl⟩
 ·rename_i t x hop
  replace h := unK_some h
  obtain ⟨d,hd,h⟩ := h
  split at h
  ·cases h
  ·rename_i hno
   obtain ⟨hx,h⟩ := fK_some h
   refine ⟨_, .iface t (ev x),h,by simp [AV.den,ho.den hx],fun w => ?_⟩
   cases d <;> first
    | (exact absurd rfl (hno _))
    | (simp [execOp,hop,Instr.makeInterface,run_underlying hd])
 ·rename_i fn first cap hop
  replace h := fArgs_some ho h
  obtain ⟨vs,h,hv⟩ := h
  replace h := fArgs_some ho h
  obtain ⟨us,h,hu⟩ := h
  refine ⟨_, .func fn (first.map ev) (cap.map ev),h, ?_,fun w => by simp [execOp,hop,Instr.makeFunc]⟩
  simp only [AV.den,hv,hu,Option.bind_some,Option.map_some]
  congr 2
  ·apply Array.ext'; simp
  ·apply Array.ext'; simp
 ·rename_i t x lo hi mx hop
  obtain ⟨hx,h⟩ := okK_some h
  obtain ⟨v,z,h1,h2,h3⟩ := sliceK_sound h (ho.den hx) (ho.opt lo) (ho.opt hi) (ho.opt mx)
  exact ⟨v,z,h1,h2,fun w => by simp only [execOp,hop,Sem.run_bind,h3,Result.andThen_ok]; rfl⟩
 ·rename_i s x f hop
  obtain ⟨hx,h⟩ := okK_some h
  obtain ⟨v,z,h1,h2,h3⟩ := fieldAddrK_sound h (ho.den hx)
  exact ⟨v,z,h1,h2,fun w => by simp only [execOp,hop,Sem.run_bind,h3,Result.andThen_ok]; rfl⟩
 ·rename_i s x f hop
  obtain ⟨hx,h⟩ := okK_some h
  obtain ⟨v,z,h1,h2,h3⟩ := fieldK_sound h (ho.den hx)
  exact ⟨v,z,h1,h2,fun w => by simp only [execOp,hop,Sem.run_bind,h3,Result.andThen_ok]; rfl⟩
 ·rename_i t x i hop
  obtain ⟨hx,h⟩ := okK_some h
  obtain ⟨hi,h⟩ := okK_some h
  obtain ⟨v,z,h1,h2,h3⟩ := indexAddrK_sound h (ho.den hx) (ho.den hi)
  exact ⟨v,z,h1,h2,fun w => by simp only [execOp,hop,Sem.run_bind,h3,Result.andThen_ok]; rfl⟩
 ·rename_i t x i hop
  obtain ⟨hx,h⟩ := okK_some h
  obtain ⟨hi,h⟩ := okK_some h
  obtain ⟨v,z,h1,h2,h3⟩ := indexK_sound h (ho.den hx) (ho.den hi)
  exact ⟨v,z,h1,h2,fun w => by simp only [execOp,hop,Sem.run_bind,h3,Result.andThen_ok]; rfl⟩
 ·rename_i x i hop
  split at h
  ·rename_i vs hx
   obtain ⟨l,hl,hx'⟩ := den_tup (ho.of hx (by simp))
   replace h := lget_some h
   obtain ⟨v,hv,h⟩ := h
   obtain ⟨y,g1,g2⟩ := denL_get hl hv
   exact ⟨v,y,h,g2,fun w => by simp [execOp,hop,hx',Instr.extract,g1]⟩
  ·cases h
 ·rename_i x xt t ok hop
  replace h := unK_some h
  obtain ⟨d,hd,h⟩ := h
  split at h
  ·cases h
  ·rename_i d1 _ _ u v hno hx
   obtain ⟨y,hy,hx'⟩ := den_iface (ho.of hx (by simp))
   split at h
   ·rename_i hut
    subst hut
    refine ⟨_,if ok then .tuple #[y, .bool true] else y,h, ?_,fun w => ?_⟩
    ·cases ok <;> simp [AV.den,denL,hy]
    ·cases d1 <;> first
      | (exact absurd rfl (hno _))
      | (simp [execOp,hop,Instr.typeAssert,run_underlying hd,hx'])
   ·cases h
  ·cases h
 ·rename_i s d x hop
  obtain ⟨hx,h⟩ := okK_some h
  obtain ⟨v,z,h1,h2,h3⟩ := convPureK_sound h (ho.den hx)
  exact ⟨v,z,h1,h2,fun w => by simp only [execOp,hop,Sem.run_bind,h3,Result.andThen_ok]; rfl⟩
 ·rename_i c hop
  split at h
  ·rename_i hc
   split at h
   ·rename_i t x ht hx0
    obtain ⟨hx,h⟩ := okK_some h
    obtain ⟨v,z,h1,h2,h3⟩ := lenK_sound h (.inr (ho.den hx)) c.argTypes ht o.type (c.args.map ev) (by simp [hx0])
    exact ⟨v,z,h1,h2,fun w => by simp [execOp,hop,resolve,hc,invoke,builtin,h3]⟩
   ·cases h
  ·rename_i hc
   replace h := fArgs_some ho h
   obtain ⟨vs,h,hv⟩ := h
   obtain ⟨v,z,h1,h2,h3,h4⟩ := minMaxK_sound h hv
   refine ⟨v,z,h1,h2,fun w => ?_⟩
   have := h3 rfl c.argTypes o.type w
   have ea : (c.args.toList.map ev).toArray = c.args.map ev := by apply Array.ext'; simp
   rw [ea] at this
   have hr : (execOp ev o).run P w = ((Builtin.min_ c.argTypes o.type (c.args.map ev)).run P w).andThen fun a w' => .ok (.value a) w' := by
    simp [execOp,hop,resolve,hc,invoke,builtin]
   rw [hr]
   exact congrArg (fun q : Result Value => q.andThen fun a w' => Result.ok (Next.value a) w') this
  ·rename_i hc
   replace h := fArgs_some ho h
   obtain ⟨vs,h,hv⟩ := h
   obtain ⟨v,z,h1,h2,h3,h4⟩ := minMaxK_sound h hv
   refine ⟨v,z,h1,h2,fun w => ?_⟩
   have := h4 rfl c.argTypes o.type w
   have ea : (c.args.toList.map ev).toArray = c.args.map ev := by apply Array.ext'; simp
   rw [ea] at this
   have hr : (execOp ev o).run P w = ((Builtin.max_ c.argTypes o.type (c.args.map ev)).run P w).andThen fun a w' => .ok (.value a) w' := by
    simp [execOp,hop,resolve,hc,invoke,builtin]
   rw [hr]
   exact congrArg (fun q : Result Value => q.andThen fun a w' => Result.ok (Next.value a) w') this
  ·cases h
 ·cases h
end Go.Ai
namespace Go.Ai
open Go
set_option linter.unusedSimpArgs false
variable {P : Program} {β : Type}
/-! a slice's first cells -/
theorem firstK_sound {ρ : Ren} {h : Heap} {w : World} (hr : HRel ρ h w) {size n : Nat} {x : AV} {K : List AV -> Option β} {r : β} (e : firstK h size n x K = some r) {a : Value} (ha : x.den ρ = some a) :
  ∃ cs xs,K cs = some r /\ denL ρ cs = some xs /\ (∀ w',w'.heap = w.heap -> (Builtin.firstCells size n a).run P w' = .ok xs.toArray w') /\ ∀ k o l c,x = .slice k o l c -> xs.length = n * size := by
 have slc : ∀ {k off : Nat} {l : Loc},ρ k = some l -> (match n * size with
   | 0 => K []
   | m => h.getK k none fun b => match b with
    | .cells cs _ _ => lcut off m cs none K
    | .map _ _ => none) = some r -> ∃ cs xs,K cs = some r /\ denL ρ cs = some xs /\ (∀ w',w'.heap = w.heap -> (loadCells ⟨l.blk,l.off + off,none⟩ (n * size)).run P w' = .ok xs.toArray w') /\ xs.length = n * size := by
  intro k off l hl e
  split at e
  ·rename_i hz
   exact ⟨[],[],e,denL_nil ρ,fun w' _ => by rw [hz]; rfl,by simp [hz]⟩
  ·obtain ⟨b,hb,e⟩ := hget_some e
   obtain ⟨l',hl',hrel⟩ := hr.blk k b hb
   rw [hl] at hl'; cases hl'
   cases b with
   | map es ro => cases e
   | cells cs ext ro =>
    obtain ⟨hle,e⟩ := lcut_some e
    obtain ⟨xs,g1,gl,g2⟩ := runCells (P := P) hrel hle
    refine ⟨_,xs,e,g1,fun w' hw => ?_,gl⟩
    obtain ⟨ys,f1,_,f2⟩ := runCells (P := P) (hrel.mono (Ext.refl _) (by rw [hw])) hle
    rw [g1] at f1; cases f1
    exact f2
 unfold firstK at e
 simp only at e
 split at e
 ·cases den_nilslice ha
  exact ⟨[],[],e,denL_nil ρ,fun w' _ => rfl,fun _ _ _ _ c => by cases c⟩
 ·obtain ⟨l,hl,rfl⟩ := den_slice ha
  obtain ⟨cs,xs,f1,f2,f3,f4⟩ := slc hl e
  exact ⟨cs,xs,f1,f2,f3,fun _ _ _ _ _ => f4⟩
 ·obtain ⟨l,hl,_,rfl⟩ := den_eslice ha
  obtain ⟨cs,xs,f1,f2,f3,f4⟩ := slc hl e
  exact ⟨cs,xs,f1,f2,f3,fun _ _ _ _ _ => f4⟩
 ·rename_i s
  cases den_str ha
  rw [fL_eq] at e
  refine ⟨_,(s.take n).map fun b => .int .u8 (b.toNat : Int),e, ?_,fun w' _ => ?_,fun _ _ _ _ c => by cases c⟩
  ·generalize s.take n = l
   induction l with
   | nil => exact denL_nil ρ
   | cons c l ih => exact denL_cons.2 ⟨_,_,rfl,ih,rfl⟩
  ·have hex : ((⟨s.toArray⟩ : ByteArray).extract 0 n).data = (s.take n).toArray := by
    have := extract_bytes s 0 n
    simpa only [List.drop_zero,Nat.sub_zero] using this
   simp only [Builtin.firstCells,hex,Sem.run_pure]
   congr 1
   simp
 ·split at e
  ·cases den_zslice ha
   exact ⟨[],[],e,denL_nil ρ,fun w' _ => by simp only [Builtin.firstCells,Nat.zero_mul]; rfl,fun _ _ _ _ c => by cases c⟩
  ·cases e
 ·cases e
theorem lenA_sound {ρ : Ren} {x : AV} {n : Nat} (h : lenA x = some n) {a : Value} (ha : x.den ρ = some a) (w : World) : (Builtin.lenOf a).run P w = .ok n w := by
 unfold lenA at h
 split at h
 ·cases h; cases den_nilslice ha; rfl
 ·cases h; obtain ⟨l,hl,rfl⟩ := den_slice ha; rfl
 ·cases h; obtain ⟨l,hl,_,rfl⟩ := den_eslice ha; rfl
 ·cases h; obtain ⟨_,_,_,rfl⟩ := den_tslice' ha; rfl
 ·cases h; cases den_zslice ha; rfl
 ·cases h; cases den_str ha; simp [Builtin.lenOf,ByteArray.size]
 ·cases h
theorem intBytes_some {ρ : Ren} {cs : List AV} {s : List UInt8} (h : intBytes cs = some s) {xs : List Value} (hx : denL ρ cs = some xs) :
  ∃ ns : List Int,xs = ns.map (Value.int .u8) /\ s = ns.map fun n => UInt8.ofNat n.toNat := by
 induction cs generalizing s xs with
 | nil => simp [intBytes] at h; subst h; rw [denL_nil] at hx; cases hx; exact ⟨[],rfl,rfl⟩
 | cons c cs ih =>
  unfold intBytes at h
  split at h
  ·cases ‹_ :: _ = []›
  ·rename_i n r heq
   cases heq
   simp only [Option.map_eq_some_iff] at h
   obtain ⟨s',h1,rfl⟩ := h
   obtain ⟨y,ys,g1,g2,rfl⟩ := denL_cons.1 hx
   cases den_int g1
   obtain ⟨ns,rfl,rfl⟩ := ih h1 g2
   exact ⟨(n : Int) :: ns,rfl,rfl⟩
  ·cases h
theorem foldl_push (ns : List Int) : ∀ (s : ByteArray),(ns.foldl (fun r n => r.push (UInt8.ofNat n.toNat)) s) = ⟨s.data ++ (ns.map fun n => UInt8.ofNat n.toNat).toArray⟩ := by
 induction ns with
 | nil => intro s; simp
 | cons n ns ih =>
  intro s
  simp only [List.foldl_cons,ih,List.map_cons]
  apply ByteArray.ext
  simp [ByteArray.push,ByteArray.data_push]
theorem convStrK_sound {ρ : Ren} {h : Heap} {w : World} (hr : HRel ρ h w) {s d : TypeId} {x : AV} {K : AV -> Option β} {r : β} (e : convStrK P h s d x K = some r) {a : Value} (ha : x.den ρ = some a) :
  ∃ v z,K v = some r /\ v.den ρ = some z /\ (convert s d a).run P w = .ok z w := by
 unfold convStrK at e
 replace e := unK_some e
 obtain ⟨sd,hs,e⟩ := e
 replace e := unK_some e
 obtain ⟨dd,hd,e⟩ := e
 split at e
 ·rename_i el
  replace e := unK_some e
  obtain ⟨ed,he,e⟩ := e
  split at e
  ·rename_i n hn
   obtain ⟨cs,xs,e,g1,g2,_⟩ := firstK_sound (P := P) hr e ha
   replace g2 := g2 w rfl
   split at e
   ·rename_i bs hbs
    rw [fL_eq] at e
    obtain ⟨ns,rfl,rfl⟩ := intBytes_some hbs g1
    refine ⟨_,_,e,rfl, ?_⟩
    have fin : ∀ (p : Option Addr) (l c : Nat),a = .slice p l c -> (convert s d (.slice p l c)).run P w = .ok (.string ⟨(ns.map fun n => UInt8.ofNat n.toNat).toArray⟩) w := by
     intro p l c hp
     rw [run_convert_bytes_string w s d el p l c hs he hd]
     have hlen : n = l := by
      subst hp
      have := lenA_sound (P := P) (show lenA x = some n by cases x <;> simp_all [lenA,sliceLenA]) ha w
      simp [Builtin.lenOf] at this
      exact this.symm
     cases p with
     | none =>
      subst hp
      simp [Builtin.firstCells] at g2
      subst g2
      simp [Conv.bytesToString]
      rfl
     | some p =>
      subst hp
      simp only [Builtin.firstCells,Nat.mul_one,hlen] at g2
      rw [run_bytesToString w p l c ns g2,foldl_push]
      congr 3
      simp
    cases x <;> simp only [sliceLenA,reduceCtorEq] at hn
    ·obtain ⟨l,hl,rfl⟩ := den_slice ha; exact fin _ _ _ rfl
    ·obtain ⟨l,hl,_,rfl⟩ := den_eslice ha; exact fin _ _ _ rfl
    ·cases den_nilslice ha; exact fin _ _ _ rfl
   ·cases e
  ·cases e
 ·cases e
end Go.Ai
namespace Go.Ai
open Go
set_option linter.unusedSimpArgs false
variable {P : Program} {β : Type}
theorem den_inj_sc {ρ : Ren} {a b : AV} {x y : Value} {c : Bool} (h : scEq a b = some c) (ha : a.den ρ = some x) (hb : b.den ρ = some y) :
  ∀ d : TypeDesc,((∃ k,d = .int k) /\ (∃ k n,a = .int k n)) \/ (d = .string /\ ∃ s,a = .str s) \/ (d = .bool /\ ∃ s,a = .bool s) -> Instr.sameNow d x y = some c := by
 intro d hd
 unfold scEq at h
 split at h
 ·cases den_int ha; cases den_int hb
  rcases hd with ⟨⟨k,rfl⟩,_⟩ | ⟨rfl,s,hs⟩ | ⟨rfl,s,hs⟩
  ·simpa [Instr.sameNow,ieq_eq] using h
  ·cases hs
  ·cases hs
 ·cases den_bool ha; cases den_bool hb
  rcases hd with ⟨⟨k,rfl⟩,_,_,hs⟩ | ⟨rfl,s,hs⟩ | ⟨rfl,s,hs⟩
  ·cases hs
  ·cases hs
  ·simpa [Instr.sameNow] using h
 ·rename_i s u
  cases den_str ha; cases den_str hb
  rcases hd with ⟨⟨k,rfl⟩,_,_,hs⟩ | ⟨rfl,s',hs⟩ | ⟨rfl,s',hs⟩
  ·cases hs
  ·have e : ((⟨s.toArray⟩ : ByteArray) == ⟨u.toArray⟩) = (s == u) := by
    have := beq_toListBytes ⟨s.toArray⟩ ⟨u.toArray⟩
    rw [this]; exact strEq
   simpa [Instr.sameNow,e] using h
  ·cases hs
 ·cases h
def KeyOk (d : TypeDesc) (a : AV) : Prop := ((∃ k,d = .int k) /\ (∃ k n,a = .int k n)) \/ (d = .string /\ ∃ s,a = .str s) \/ (d = .bool /\ ∃ s,a = .bool s)
theorem keyK_some {t : TypeId} {a : AV} {K : Unit -> Option β} {r : β} (h : keyK P t a K = some r) : ∃ d,P.underlying t = some d /\ KeyOk d a /\ K () = some r := by
 unfold keyK at h
 replace h := unK_some h
 obtain ⟨d,hd,h⟩ := h
 refine ⟨d,hd, ?_⟩
 split at h
 ·exact ⟨.inl ⟨⟨_,rfl⟩,_,_,rfl⟩,h⟩
 ·exact ⟨.inr (.inl ⟨rfl,_,rfl⟩),h⟩
 ·exact ⟨.inr (.inr ⟨rfl,_,rfl⟩),h⟩
 ·cases h
theorem run_checkKey {t : TypeId} {d : TypeDesc} {a : AV} (hd : P.underlying t = some d) (hk : KeyOk d a) (e : Bool) (x : Value) (w : World) : (Instr.checkKey e 10000 t x).run P w = .ok () w := by
 rw [show (10000 : Nat) = 9999 + 1 from rfl,Instr.checkKey]
 rcases hk with ⟨⟨k,rfl⟩,_⟩ | ⟨rfl,_⟩ | ⟨rfl,_⟩ <;> simp [run_underlying hd]
theorem findK_sound {ρ : Ren} {es : List (AV × AV)} {a : AV} {K : Option AV -> Option β} {r : β} (h : findK es a K = some r) {L : List MapEntry} (hm : MRel ρ es L) {x : Value} (hx : a.den ρ = some x) {d : TypeDesc} (hk : KeyOk d a) (i : Nat) :
  ∃ res,K res = some r /\ ((res = none /\ Instr.findNow d x L i = some none) \/ ∃ v y j,res = some v /\ v.den ρ = some y /\ Instr.findNow d x L i = some (some (j,y))) := by
 induction es generalizing L i with
 | nil => cases L with
  | nil => exact ⟨none,h, .inl ⟨rfl,rfl⟩⟩
  | cons _ _ => exact hm.elim
 | cons p es ih =>
  obtain ⟨k,v⟩ := p
  cases L with
  | nil => exact hm.elim
  | cons e L =>
   obtain ⟨h1,h2,h3⟩ := hm
   simp only [findK] at h
   split at h
   ·rename_i hs
    exact ⟨some v,h, .inr ⟨v,e.val,i,rfl,h2,by simp [Instr.findNow,den_inj_sc hs hx h1 d hk]⟩⟩
   ·rename_i hs
    obtain ⟨res,g1,g2⟩ := ih h h3 (i + 1)
    refine ⟨res,g1, ?_⟩
    simp only [Instr.findNow,den_inj_sc hs hx h1 d hk]
    exact g2
   ·cases h
theorem lookupK_sound {ρ : Ren} {h : Heap} {w : World} (hr : HRel ρ h w) {t : TypeId} {x k : AV} {ok : Bool} {K : AV -> Option β} {r : β} (e : lookupK P h t x k ok K = some r) {a b : Value} (ha : x.den ρ = some a) (hb : k.den ρ = some b) :
  ∃ v z,K v = some r /\ v.den ρ = some z /\ (Instr.lookup t a b ok).run P w = .ok z w := by
 unfold lookupK at e
 replace e := unK_some e
 obtain ⟨d,hd,e⟩ := e
 split at e
 ·rename_i kt et
  replace e := keyK_some e
  obtain ⟨kd,hkd,hko,e⟩ := e
  have fin : ∀ (res : Option AV) (L : List MapEntry),lookFinK P et ok K res = some r ->
    ((res = none /\ Instr.findNow kd b L 0 = some none) \/ ∃ v y j,res = some v /\ v.den ρ = some y /\ Instr.findNow kd b L 0 = some (some (j,y))) ->
    ∃ v z,K v = some r /\ v.den ρ = some z /\ ((∃ j y,(Instr.findKey kt b L).run P w = .ok (some (j,y)) w /\ z = if ok then .tuple #[y, .bool true] else y) \/
     ∃ y,(Instr.findKey kt b L).run P w = .ok none w /\ (zeroValue et).run P w = .ok y w /\ z = if ok then .tuple #[y, .bool false] else y) := by
   intro res L hres hfind
   unfold lookFinK at hres
   rcases hfind with ⟨rfl,hf⟩ | ⟨v,y,j,rfl,hy,hf⟩
   ·simp only at hres
    replace hres := zeroK_some hres
    obtain ⟨i,zv,z,hi,hz,hden,hres⟩ := hres
    refine ⟨if ok then .tup [z, .bool false] else z,if ok then .tuple #[zv, .bool false] else zv, ?_, ?_, ?_⟩
    ·cases ok <;> simpa using hres
    ·cases ok <;> simp [AV.den,denL,hden]
    ·exact .inr ⟨zv,by simp [Instr.findKey,run_underlying hkd,hf],runZero et hi hz w,rfl⟩
   ·simp only at hres
    refine ⟨if ok then .tup [v, .bool true] else v,if ok then .tuple #[y, .bool true] else y, ?_, ?_, ?_⟩
    ·cases ok <;> simpa using hres
    ·cases ok <;> simp [AV.den,denL,hy]
    ·exact .inl ⟨j,y,by simp [Instr.findKey,run_underlying hkd,hf],rfl⟩
  split at e
  ·cases den_nilmap ha
   obtain ⟨v,z,h1,h2,h3⟩ := fin none [] e (.inl ⟨rfl,rfl⟩)
   refine ⟨v,z,h1,h2, ?_⟩
   rcases h3 with ⟨j,y,g1,rfl⟩ | ⟨y,g1,g2,rfl⟩ <;> simp [Instr.lookup,run_underlying hd,run_checkKey hkd hko, *]
  ·obtain ⟨l,hl,rfl⟩ := den_mapv ha
   obtain ⟨bk,hbk,e⟩ := hget_some e
   obtain ⟨l',hl',hrel⟩ := hr.blk _ bk hbk
   rw [hl] at hl'; cases hl'
   cases bk with
   | cells cs ext ro => cases e
   | map es ro =>
    obtain ⟨E,c,g1,g2⟩ := hrel
    obtain ⟨res,e1,e2⟩ := findK_sound e g2 hb hko 0
    obtain ⟨v,z,h1,h2,h3⟩ := fin res E.toList e1 e2
    refine ⟨v,z,h1,h2, ?_⟩
    have hg : (getObj l.blk).run P w = .ok (.map E c) w := by simp [getObj,Sem.run,g1]
    rcases h3 with ⟨j,y,q1,rfl⟩ | ⟨y,q1,q2,rfl⟩ <;> simp [Instr.lookup,run_underlying hd,hg,run_checkKey hkd hko, *]
  ·cases e
 ·cases e
theorem lenMapK_sound {ρ : Ren} {h : Heap} {w : World} (hr : HRel ρ h w) {t : TypeId} {x : AV} {K : AV -> Option β} {r : β} (e : lenMapK P h t x K = some r) {a : Value} (ha : x.den ρ = some a) (ts : Array TypeId) (ht : ts[0]? = some t) (ty : TypeId) (as : Array Value) (has : as[0]? = some a) :
  ∃ v z,K v = some r /\ v.den ρ = some z /\ (Builtin.len_ ts ty as).run P w = .ok z w := by
 unfold lenMapK at e
 replace e := unK_some e
 obtain ⟨d,hd,e⟩ := e
 split at e
 ·cases den_nilmap ha
  simp only [fN_eq] at e
  exact ⟨_,_,e,rfl,by simp [Builtin.len_,ht,has,run_underlying hd,goInt]⟩
 ·obtain ⟨l,hl,rfl⟩ := den_mapv ha
  obtain ⟨bk,hbk,e⟩ := hget_some e
  obtain ⟨l',hl',hrel⟩ := hr.blk _ bk hbk
  rw [hl] at hl'; cases hl'
  cases bk with
  | cells cs ext ro => cases e
  | map es ro =>
   obtain ⟨E,c,g1,g2⟩ := hrel
   simp only [llen_eq,fN_eq,Nat.zero_add] at e
   have hg : (getObj l.blk).run P w = .ok (.map E c) w := by simp [getObj,Sem.run,g1]
   refine ⟨_, .int .i64 (es.length : Int),e,rfl, ?_⟩
   have hlen : E.size = es.length := by rw [g2.len]; simp
   simp [Builtin.len_,ht,has,run_underlying hd,goInt,hg,hlen]
 ·cases e
theorem readK_sound {ρ : Ren} {e : Operand -> AV} {ev : Operand -> Value} (ho : ORel ρ e ev) {o : Oper} {h : Heap} {w : World} (hr : HRel ρ h w) {K : AV -> Option β} {r : β} (hk : readK P e o h K = some r) :
  ∃ v z,K v = some r /\ v.den ρ = some z /\ (execOp ev o).run P w = .ok (.value z) w := by
 unfold readK at hk
 split at hk
 ·rename_i t x hop
  obtain ⟨hx,hk⟩ := okK_some hk
  obtain ⟨v,z,h1,h2,h3,_⟩ := loadK_sound (P := P) hr hk (ho.den hx)
  exact ⟨v,z,h1,h2,by simp only [execOp,hop,Sem.run_bind,h3,Result.andThen_ok]; rfl⟩
 ·rename_i t x i ok hop
  obtain ⟨hx,hk⟩ := okK_some hk
  obtain ⟨hi,hk⟩ := okK_some hk
  obtain ⟨v,z,h1,h2,h3⟩ := lookupK_sound (P := P) hr hk (ho.den hx) (ho.den hi)
  exact ⟨v,z,h1,h2,by simp only [execOp,hop,Sem.run_bind,h3,Result.andThen_ok]; rfl⟩
 ·rename_i s d x hop
  obtain ⟨hx,hk⟩ := okK_some hk
  obtain ⟨v,z,h1,h2,h3⟩ := convStrK_sound (P := P) hr hk (ho.den hx)
  exact ⟨v,z,h1,h2,by simp only [execOp,hop,Sem.run_bind,h3,Result.andThen_ok]; rfl⟩
 ·rename_i c hop
  split at hk
  ·rename_i hc
   split at hk
   ·rename_i t x ht hx0
    obtain ⟨hx,hk⟩ := okK_some hk
    obtain ⟨v,z,h1,h2,h3⟩ := lenMapK_sound (P := P) hr hk (ho.den hx) c.argTypes ht o.type (c.args.map ev) (by simp [hx0])
    exact ⟨v,z,h1,h2,by simp [execOp,hop,resolve,hc,invoke,builtin,h3]⟩
   ·cases hk
  ·cases hk
 ·cases hk
/-! new blocks -/
def ObjRel (ρ : Ren) : Blk -> Obj -> Prop
 | .cells cs ext ro, .cells C _ fz => denL ρ cs = some C.toList /\ ext = 0 /\ ro = false /\ fz = (0,0)
 | .map es ro, .map E _ => MRel ρ es E.toList /\ ro = false
 | _,_ => False
theorem ObjRel.blk {ρ ρ' : Ren} {b : Blk} {o : Obj} (h : ObjRel ρ b o) (x : Ext ρ ρ') {w : World} {n cap : Nat} (hw : w.heap[n]? = some o) : BlkRel ρ' w ⟨n,0,cap⟩ b := by
 cases b with
 | cells cs ext ro => cases o with
  | cells C T fz =>
   obtain ⟨h1,rfl,rfl,rfl⟩ := h
   exact ⟨C,T,(0,0),C.toList,hw,denL_mono x _ _ h1,fun i x hi => by simpa using hi,fun _ => .inl rfl,fun c => absurd rfl c⟩
  | _ => exact h.elim
 | map es ro => cases o with
  | map E c => exact ⟨E,c,hw,h.1.mono x⟩
  | _ => exact h.elim
theorem ObjRel.rw {ρ : Ren} {b : Blk} {o : Obj} (h : ObjRel ρ b o) : b.rw := by
 cases b with
 | cells cs ext ro => cases o with
  | cells C T fz => exact h.2.2.1
  | _ => exact h.elim
 | map es ro => cases o with
  | map E c => exact h.2
  | _ => exact h.elim
def NewVal (mk : Nat -> AV) (X : Nat -> Value) : Prop := ∀ (ρ : Ren) (k n cap : Nat),ρ k = some ⟨n,0,cap⟩ -> mk k ≠ .bad /\ (mk k).den ρ = some (X n)
theorem repK_some {n : Nat} {l : List AV} {K : List AV -> Option β} {r : β} (h : repK n l K = some r) : K (repL n l) = some r := by
 induction n generalizing K with
 | zero => exact h
 | succ n ih => have := ih h; simpa [repL] using this
theorem repL_den {ρ : Ren} {l : List AV} {xs : List Value} (h : denL ρ l = some xs) (n : Nat) : denL ρ (repL n l) = some (repL n xs) := by
 induction n with
 | zero => exact denL_nil ρ
 | succ n ih => exact denL_app h ih
theorem repL_range (zero : Array Value) (m : Nat) (hz : zero.size = m) (n : Nat) : ((Array.range (n * m)).map fun i => zero[i % zero.size]!) = (repL n zero.toList).toArray := by
 apply Array.ext'
 simp only [Array.toList_map,Array.toList_range]
 induction n with
 | zero => simp [repL]
 | succ n ih =>
  have h1 : List.range ((n + 1) * m) = List.range m ++ (List.range (n * m)).map (m + ·) := by
   rw [Nat.succ_mul,Nat.add_comm,List.range_add]
  rw [h1,List.map_append,List.map_map]
  simp only [repL]
  congr 1
  ·apply List.ext_getElem
   ·simp [hz]
   ·intro i h1 h2
    simp at h1
    have : i % zero.size = i := Nat.mod_eq_of_lt (by omega)
    rw [List.getElem_map,List.getElem_range,this]
    simp [getElem!_pos,hz,h1]
  ·have e : ((fun i => zero[i % zero.size]!) ∘ fun x => m + x) = fun i => zero[i % zero.size]! := by
    funext i
    simp only [Function.comp]
    rw [<- hz,Nat.add_mod_left]
   rw [e,ih]
theorem allocK_sound {ρ : Ren} {e : Operand -> AV} {ev : Operand -> Value} (ho : ORel ρ e ev) {o : Oper} {K : Blk -> (Nat -> AV) -> Option β} {r : β} (h : allocK P e o K = some r) :
  ∃ b mk obj X,K b mk = some r /\ ObjRel ρ b obj /\ NewVal mk X /\ ∀ w,(execOp ev o).run P w = .ok (.value (X w.heap.size)) { w with heap := w.heap.push obj } := by
 unfold allocK at h
 split at h
 ·rename_i t hop
  replace h := zeroK_some h
  obtain ⟨i,zv,z,hi,hz,hd,h⟩ := h
  rw [cellsK_eq] at h
  refine ⟨_,_, .cells zv.cells t,fun n => .pointer (some ⟨n,0,none⟩),h,⟨cells_den (hd ρ),rfl,rfl,rfl⟩,fun ρ k n cap hk => ⟨by simp,by simp [AV.den,hk]⟩,fun w => ?_⟩
  simp [execOp,hop,Instr.alloc,runZero t hi hz,newVar,newRow]
 ·rename_i t x hop
  obtain ⟨hx,h⟩ := fK_some h
  rw [cellsK_eq] at h
  refine ⟨_,_, .cells (ev x).cells t,fun n => .pointer (some ⟨n,0,none⟩),h,⟨cells_den (ho.den hx),rfl,rfl,rfl⟩,fun ρ k n cap hk => ⟨by simp,by simp [AV.den,hk]⟩,fun w => ?_⟩
  simp [execOp,hop,Instr.box,newVar,newRow]
 ·rename_i t len parts hop
  replace h := fArgs_some ho h
  obtain ⟨vs,h,hv⟩ := h
  unfold buildSliceK at h
  replace h := unK_some h
  obtain ⟨d,hd,h⟩ := h
  split at h
  ·rename_i elem
   replace h := szK_some h
   obtain ⟨i,hi,h⟩ := h
   split at h
   ·cases h
   ·cases h
   ·rename_i hle hsz
    replace h := zeroK_some h
    obtain ⟨ie,zv,z,hi',hz,hden,h⟩ := h
    rw [hi] at hi'; cases hi'
    simp only [cellsK_eq,llen_eq,Nat.zero_add] at h
    split at h
    ·rename_i hzn
     have hzn := Nat.eq_of_beq_eq_true hzn
     replace h := repK_some h
     have hcz := cells_den (hden ρ)
     have hlz := denL_len hcz
     obtain ⟨c,X,g1,g2,g3,_⟩ := fillK_some hv (repL_den hcz len) h
     have hne : i.size ≠ 0 := fun c => hsz c
     have hsz' := Nat.le_of_ble_eq_true hle
     refine ⟨_,_, .cells X.toArray elem,fun n => .slice (some ⟨n,0,none⟩) len len,g1,⟨by simpa using g2,rfl,rfl,rfl⟩,fun ρ k n cap hk => ⟨by simp,by simp [AV.den,hk]⟩,fun w => ?_⟩
     have hsize : zv.cells.size = i.size := by rw [<- hzn,<- hlz]; simp
     have hbound : ¬ (len * i.size > 2 ^ 24) := by
      simp [buildCells] at hsz'; omega
     have hcells : ∀ (zr : Array Value),(len ≠ 0 -> zr = zv.cells) -> ((Array.range (len * i.size)).map fun q => zr[q % zr.size]!) = (repL len zv.cells.toList).toArray := by
      intro zr hzr
      by_cases hl0 : len = 0
      ·subst hl0; simp [repL]
      ·rw [hzr hl0]
       have := repL_range zv.cells i.size hsize len
       rwa [hsize] at this ⊢
     by_cases hl0 : len = 0
     ·have hz0 : len * i.size = 0 := by rw [hl0,Nat.zero_mul]
      have hc := hcells #[] (fun c => absurd hl0 c)
      have hb0 : ¬ ((0 : Nat) > 2 ^ 24) := by decide
      simp only [execOp,hop,Instr.buildSlice,Sem.run_bind,run_underlying hd,Result.andThen_ok,runSize elem hi,hb0,if_false,Sem.run_pure,parts_vals,hz0,if_true]
      rw [hz0] at hc
      rw [hc,g3]
      simp [newRow]
     ·have hz0 : ¬ len * i.size = 0 := Nat.mul_ne_zero hl0 hne
      have hc := hcells zv.cells (fun _ => rfl)
      simp only [execOp,hop,Instr.buildSlice,Sem.run_bind,run_underlying hd,Result.andThen_ok,runSize elem hi,hbound,if_false,Sem.run_pure,parts_vals,hz0,runZero elem hi hz]
      rw [hc,g3]
      simp [newRow]
    ·cases h
  ·cases h
 ·rename_i t l c hop
  obtain ⟨hl,h⟩ := okK_some h
  obtain ⟨hc,h⟩ := okK_some h
  unfold makeSliceK at h
  replace h := unK_some h
  obtain ⟨d,hd,h⟩ := h
  split at h
  ·rename_i elem
   replace h := asN_some h
   obtain ⟨kl,ln,hle,h⟩ := h
   replace h := asN_some h
   obtain ⟨kc,cp,hce,h⟩ := h
   have hev1 := den_int (ho.of hle (by simp))
   have hev2 := den_int (ho.of hce (by simp))
   replace h := szK_some h
   obtain ⟨i,hi,h⟩ := h
   split at h
   ·rename_i ie hie
    rw [hi] at hie; cases hie
    split at h
    ·rename_i sz _ _ hsz hb1 hb2
     have hb1 := Nat.le_of_ble_eq_true hb1
     have hb2 := Nat.le_of_ble_eq_true hb2
     replace h := zeroK_some h
     obtain ⟨ie,zv,z,hi',hz,hden,h⟩ := h
     rw [hi] at hi'; cases hi'
     simp only [cellsK_eq,llen_eq,Nat.zero_add] at h
     split at h
     ·rename_i hzn
      have hzn := Nat.eq_of_beq_eq_true hzn
      replace h := repK_some h
      have hcz := cells_den (hden ρ)
      have hlz := denL_len hcz
      have hsize : zv.cells.size = i.size := by rw [<- hzn,<- hlz]; simp
      refine ⟨_,_, .cells (repL cp zv.cells.toList).toArray elem,fun n => .slice (some ⟨n,0,none⟩) ln cp,h,⟨by simpa using repL_den hcz cp,rfl,rfl,rfl⟩,fun ρ k n cap hk => ⟨by simp,by simp [AV.den,hk]⟩,fun w => ?_⟩
      have hm : (cp + 1) * (i.bytes + 1) <= 1073741824 := by
       have h1 : (cp + 1) * (i.bytes + 1) <= (cp + 1) * (i.size + 1) * (i.bytes + 1) := by
        rw [Nat.mul_right_comm]
        exact Nat.le_mul_of_pos_right _ (Nat.succ_pos _)
       exact Nat.le_trans h1 hb1
      have hcp : cp < 1073741824 := by
       have : (cp + 1) * 1 <= (cp + 1) * (i.bytes + 1) := Nat.mul_le_mul_left _ (by omega)
       omega
      have hbc : i.bytes * cp <= 1073741824 := by
       have : i.bytes * cp <= (cp + 1) * (i.bytes + 1) := by rw [Nat.mul_comm]; exact Nat.mul_le_mul (by omega) (by omega)
       omega
      have hwl : IntKind.i64.wrap (ln : Int) = ln := wrap_top .i64 ln (by simp only [top]; omega)
      have hwc : IntKind.i64.wrap (cp : Int) = cp := wrap_top .i64 cp (by simp only [top]; omega)
      have hcells : ∀ (zr : Array Value),(cp ≠ 0 -> zr = zv.cells) -> ((Array.range (cp * i.size)).map fun q => zr[q % zr.size]!) = (repL cp zv.cells.toList).toArray := by
       intro zr hzr
       by_cases hl0 : cp = 0
       ·subst hl0; simp [repL]
       ·rw [hzr hl0]
        have := repL_range zv.cells i.size hsize cp
        rwa [hsize] at this ⊢
      have c1 : ¬ ((decide ((cp : Int) < 0) || decide ((i.bytes : Int) * (cp : Int) > 2 ^ 48) || decide ((ln : Int) < 0) || decide ((ln : Int) > (cp : Int))) = true) := by
       have : (i.bytes : Int) * (cp : Int) <= 1073741824 := by rw [<- Int.natCast_mul]; omega
       simp; omega
      have hop' : (execOp ev o).run P w = ((Instr.makeSlice t (.int kl (ln : Int)) (.int kc (cp : Int))).run P w).andThen fun a w' => .ok (.value a) w' := by
       simp only [execOp,hop,hev1,hev2,Sem.run_bind]
       rfl
      rw [hop']
      simp only [Instr.makeSlice,Sem.run_bind,run_underlying hd,Result.andThen_ok,asInt,asIntOf,Sem.run_pure,isInfo elem hi,hwl,hwc]
      rw [if_neg c1]
      simp only [Sem.run_bind,run_askRoom,Result.andThen_ok,runSize elem hi,Int.toNat_natCast]
      by_cases hl0 : cp = 0
      ·have hz0 : cp * i.size = 0 := by rw [hl0,Nat.zero_mul]
       have hc := hcells #[] (fun c => absurd hl0 c)
       rw [hz0] at hc
       simp only [Sem.run_bind,hz0,if_true,Sem.run_pure,Result.andThen_ok]
       rw [hc]
       simp [newRow]
      ·have hz0 : ¬ cp * i.size = 0 := Nat.mul_ne_zero hl0 (fun c => by simp [c] at hsz)
       have hc := hcells zv.cells (fun _ => rfl)
       simp only [hz0,if_false,Sem.run_bind,runZero elem hi hz,Sem.run_pure,Result.andThen_ok]
       rw [hc]
       simp [newRow]
     ·cases h
    ·cases h
   ·cases h
  ·cases h
 ·rename_i t hop
  replace h := unK_some h
  obtain ⟨d,hd,h⟩ := h
  split at h
  ·exact ⟨_,_, .map #[] 0,fun n => .map (some n),h,⟨trivial,rfl⟩,fun ρ k n cap hk => ⟨by simp,by simp [AV.den,hk]⟩,fun w => by simp [execOp,hop,Instr.makeMap]⟩
  ·cases h
 ·rename_i t x hop
  replace h := unK_some h
  obtain ⟨d,hd,h⟩ := h
  split at h
  ·rename_i hm
   obtain ⟨hx,h⟩ := okK_some h
   obtain ⟨k,n,hxe,h⟩ := asI_some h
   have hev := den_int (ho.of hxe (by simp))
   refine ⟨_,_, .map #[] 0,fun n => .map (some n),h,⟨trivial,rfl⟩,fun ρ k n cap hk => ⟨by simp,by simp [AV.den,hk]⟩,fun w => ?_⟩
   cases d <;> simp only [isMapD,Bool.false_eq_true] at hm
   simp [execOp,hop,Instr.makeMap,run_underlying hd,hev,asInt,asIntOf]
  ·cases h
 ·cases h
end Go.Ai
namespace Go.Ai
open Go
set_option linter.unusedSimpArgs false
variable {P : Program} {β : Type}
/-! a block given up,a block that goes on under another number -/
theorem Stp.drop {ρ : Ren} {h : Heap} {w : World} (r : HRel ρ h w) (k : Nat) : Stp ρ h w ρ (h.put k none) w := by
 have g : ∀ {j b},(h.put k none).get j = some b -> h.get j = some b := by
  intro j b e
  by_cases hj : j = k
  ·subst hj; rw [put_same] at e; cases e
  ·rwa [put_ne _ _ hj] at e
 refine ⟨Ext.refl _,⟨fun j b e => r.blk j b (g e),r.new,fun i j b c l m e1 e2 => r.inj i j b c l m (g e1) (g e2)⟩,rfl,rfl,rfl,Nat.le_refl _,fun _ _ _ => rfl, ?_,Nat.le_refl _,fun j c l e q _ => ⟨j,c,l,g e,q,rfl⟩,fun _ _ => rfl⟩
 rintro b ⟨j,c,l,e,q⟩ _
 exact ⟨j,c,l,g e,q⟩
theorem Stp.move {ρ : Ren} {h : Heap} {w w' : World} {k : Nat} {b b' : Blk} {l l' : Loc} (r : HRel ρ h w) (hk : h.get k = some b) (hl : ρ k = some l) (hrw : b.rw) (hll : l'.blk = l.blk)
  (hs : w'.heap.size = w.heap.size) (hold : ∀ j,j ≠ l.blk -> w'.heap[j]? = w.heap[j]?) (ht : w'.tape = w.tape) (hos : w'.os = w.os) (ho : w'.output = w.output)
  (hb : BlkRel (ρ.add h.next l') w' l' b') : Stp ρ h w (ρ.add h.next l') ((h.put k none).new b') w' := by
 have he : Ext ρ (ρ.add h.next l') := Ren.ext_add _ (r.new _ (Nat.le_refl _))
 have hkn : k ≠ h.next := fun e => by have := r.new k (by omega); rw [hl] at this; cases this
 have g : ∀ {j c},j ≠ h.next -> ((h.put k none).new b').get j = some c -> j ≠ k /\ h.get j = some c := by
  intro j c hj e
  have e' : (h.put k none).get j = some c := by rw [<- e]; exact (new_ne (h.put k none) b' hj).symm
  by_cases hjk : j = k
  ·subst hjk; rw [put_same] at e'; cases e'
  ·exact ⟨hjk,by rwa [put_ne _ _ hjk] at e'⟩
 have gs : ((h.put k none).new b').get h.next = some b' := new_same (h.put k none) b'
 refine ⟨he,⟨?_, ?_, ?_⟩,hos,ht,ho,by omega,fun c _ no => hold c (fun e => no ⟨k,b,l,hk,hrw,hl,e.symm⟩), ?_,by simp, ?_,fun j hj => Ren.add_ne _ _ (by omega)⟩
 ·intro j c e
  by_cases hj : j = h.next
  ·subst hj; rw [gs] at e; cases e
   exact ⟨_,Ren.add_same _ _ _,hb⟩
  ·obtain ⟨hjk,e⟩ := g hj e
   obtain ⟨m,h1,h2⟩ := r.blk j c e
   exact ⟨m,he _ _ h1,h2.mono he (hold _ (fun q => r.inj k j b c l m hk e hl h1 hrw (fun z => hjk z.symm) q.symm))⟩
 ·intro j hj
  simp only [new_next,put_next] at hj
  rw [Ren.add_ne _ _ (by omega)]
  exact r.new _ (by omega)
 ·intro i j c d m n g1 g2 e1 e2 hrw1 hne
  by_cases hi : i = h.next
  ·subst hi
   rw [Ren.add_same] at e1; cases e1
   obtain ⟨hjk,g2⟩ := g (fun z => hne z.symm) g2
   rw [Ren.add_ne _ _ (fun z => hne z.symm)] at e2
   rw [hll]
   exact r.inj k j b d l n hk g2 hl e2 hrw (fun z => hjk z.symm)
  ·obtain ⟨hik,g1⟩ := g hi g1
   rw [Ren.add_ne _ _ hi] at e1
   by_cases hj : j = h.next
   ·subst hj
    rw [Ren.add_same] at e2; cases e2
    rw [hll]
    exact fun z => r.inj k i b c l m hk g1 hl e1 hrw (fun z => hik z.symm) z.symm
   ·obtain ⟨hjk,g2⟩ := g hj g2
    rw [Ren.add_ne _ _ hj] at e2
    exact r.inj i j c d m n g1 g2 e1 e2 hrw1 hne
 ·rintro c ⟨j,d,m,e,hrw1,e1,rfl⟩ hlt
  by_cases hj : j = h.next
  ·subst hj
   rw [Ren.add_same] at e1; cases e1
   exact ⟨k,b,l,hk,hrw,hl,hll.symm⟩
  ·obtain ⟨_,e⟩ := g hj e
   rw [Ren.add_ne _ _ hj] at e1
   exact ⟨j,d,m,e,hrw1,e1,rfl⟩
 ·intro j d m e e1 hlt
  by_cases hj : j = h.next
  ·subst hj
   rw [Ren.add_same] at e1; cases e1
   exact ⟨k,b,l,hk,hl,hll.symm⟩
  ·obtain ⟨_,e⟩ := g hj e
   rw [Ren.add_ne _ _ hj] at e1
   exact ⟨j,d,m,e,e1,rfl⟩
/-! maps written -/
theorem updK_sound {ρ : Ren} {es : List (AV × AV)} {a v : AV} {K : List (AV × AV) -> Option β} {r : β} (h : updK es a v K = some r) {L : List MapEntry} (hm : MRel ρ es L) {x y : Value} (hx : a.den ρ = some x) (hy : v.den ρ = some y)
  {d : TypeDesc} (hk : KeyOk d a) (i : Nat) : ∃ es',K es' = some r /\ ((Instr.findNow d x L i = some none /\ ∀ c,MRel ρ es' (L ++ [⟨x,y,c⟩])) \/
   ∃ j z old,Instr.findNow d x L i = some (some (i + j,z)) /\ L[j]? = some old /\ Instr.sameNow d x old.key = some true /\ MRel ρ es' (L.modify j fun e => { e with key := x,val := y })) := by
 induction es generalizing L i K with
 | nil => cases L with
  | nil => exact ⟨_,h, .inl ⟨rfl,fun c => ⟨hx,hy,trivial⟩⟩⟩
  | cons _ _ => exact hm.elim
 | cons p es ih =>
  obtain ⟨k,u⟩ := p
  cases L with
  | nil => exact hm.elim
  | cons e L =>
   obtain ⟨h1,h2,h3⟩ := hm
   simp only [updK] at h
   split at h
   ·rename_i hs
    have hsn := den_inj_sc hs hx h1 d hk
    exact ⟨_,h, .inr ⟨0,e.val,e,by simp [Instr.findNow,hsn],rfl,hsn,⟨hx,hy,h3⟩⟩⟩
   ·rename_i hs
    have hsn := den_inj_sc hs hx h1 d hk
    obtain ⟨es',g1,g2⟩ := ih h h3 (i + 1)
    refine ⟨_,g1, ?_⟩
    rcases g2 with ⟨g2,g3⟩ | ⟨j,z,old,g2,g3,g4,g5⟩
    ·exact .inl ⟨by simpa [Instr.findNow,hsn] using g2,fun c => ⟨h1,h2,g3 c⟩⟩
    ·refine .inr ⟨j + 1,z,old, ?_,by simpa using g3,g4,⟨h1,h2,g5⟩⟩
     simp only [Instr.findNow,hsn]
     rw [g2]; congr 3; omega
   ·cases h
theorem sameBits_of {d : TypeDesc} {x y : Value} (h : Instr.sameNow d x y = some true) : Instr.sameBits 10000 y x = true := by
 unfold Instr.sameNow at h
 split at h
 ·rename_i k a k' b
  split at h
  ·rename_i e; subst e
   have e : a = b := by simpa using h
   subst e
   simp [Instr.sameBits]
  ·cases h
 ·rename_i a b
  have e : (a == b) = true := by simpa using h
  rw [beq_toListBytes] at e
  have e := eq_of_beq e
  simp [Instr.sameBits,beq_toListBytes,e]
 ·rename_i a b
  have e : a = b := by simpa using h
  subst e
  simp [Instr.sameBits]
 ·cases h
theorem mapUpdateK_sound {ρ : Ren} {h : Heap} {w : World} (hr : HRel ρ h w) {t : TypeId} {m k v : AV} {K : Heap -> Option β} {r : β} (e : mapUpdateK P h t m k v K = some r) {a x y : Value} (ha : m.den ρ = some a) (hx : k.den ρ = some x) (hy : v.den ρ = some y) :
  ∃ h' w',K h' = some r /\ Stp ρ h w ρ h' w' /\ (Instr.mapUpdate t a x y).run P w = .ok () w' := by
 unfold mapUpdateK at e
 replace e := unK_some e
 obtain ⟨d,hd,e⟩ := e
 split at e
 ·rename_i kt et rr
  obtain ⟨l,hl,rfl⟩ := den_mapv ha
  replace e := keyK_some e
  obtain ⟨kd,hkd,hko,e⟩ := e
  obtain ⟨b,hb,e⟩ := hget_some e
  obtain ⟨l',hl',hrel⟩ := hr.blk _ b hb
  rw [hl] at hl'; cases hl'
  split at e
  ·rename_i es
   obtain ⟨E,c,g1,g2⟩ := hrel
   obtain ⟨es',e1,e2⟩ := updK_sound e g2 hx hy hko 0
   rw [hputK_eq] at e1
   have hg : (getObj l.blk).run P w = .ok (.map E c) w := by simp [getObj,Sem.run,g1]
   have hset : ∀ o w,w.heap[l.blk]? = some (.map E c) -> (setObj l.blk o).run P w = .ok () { w with heap := w.heap.setIfInBounds l.blk o } := by
    intro o w hw; simp [setObj,Sem.run,hw]
   have fin : ∀ E' c',MRel ρ es' E'.toList -> Stp ρ h w ρ (h.put rr (some (.map es' false))) { w with heap := w.heap.setIfInBounds l.blk (.map E' c') } := by
    intro E' c' hm
    have hlt := (Array.getElem?_eq_some_iff.1 g1).1
    refine Stp.put hr hb hl rfl (by simp) (fun j hj => by simp [Array.getElem?_setIfInBounds,Ne.symm hj]) rfl rfl rfl ⟨E',c', ?_,hm⟩
    simp [Array.getElem?_setIfInBounds,hlt]
   rcases e2 with ⟨f1,f2⟩ | ⟨j,z,old,f1,f2,f3,f4⟩
   ·refine ⟨_,_,e1,fin (E.push ⟨x,y,c⟩) (c + 1) (by simpa using f2 c), ?_⟩
    simp [Instr.mapUpdate,run_underlying hd,hg,run_checkKey hkd hko,Instr.findKey,run_underlying hkd,f1,hset _ w g1]
   ·refine ⟨_,_,e1,fin (E.modify j fun e => { e with key := x,val := y }) c (by simpa using f4), ?_⟩
    have hold : E[j]? = some old := by simpa using f2
    rw [Nat.zero_add] at f1
    simp [Instr.mapUpdate,run_underlying hd,hg,run_checkKey hkd hko,Instr.findKey,run_underlying hkd,f1,hold,Instr.keyThatStays,sameBits_of f3,hset _ w g1]
  ·cases e
 ·cases e
theorem delK_sound {ρ : Ren} {es : List (AV × AV)} {a : AV} {K : List (AV × AV) -> Option β} {r : β} (h : delK es a K = some r) {L : List MapEntry} (hm : MRel ρ es L) {x : Value} (hx : a.den ρ = some x)
  {d : TypeDesc} (hk : KeyOk d a) (i : Nat) : ∃ es',K es' = some r /\ ((Instr.findNow d x L i = some none /\ MRel ρ es' L) \/ ∃ j z,Instr.findNow d x L i = some (some (i + j,z)) /\ MRel ρ es' (L.eraseIdx j)) := by
 induction es generalizing L i K with
 | nil => cases L with
  | nil => exact ⟨_,h, .inl ⟨rfl,trivial⟩⟩
  | cons _ _ => exact hm.elim
 | cons p es ih =>
  obtain ⟨k,u⟩ := p
  cases L with
  | nil => exact hm.elim
  | cons e L =>
   obtain ⟨h1,h2,h3⟩ := hm
   simp only [delK] at h
   split at h
   ·rename_i hs
    have hsn := den_inj_sc hs hx h1 d hk
    exact ⟨_,h, .inr ⟨0,e.val,by simp [Instr.findNow,hsn],h3⟩⟩
   ·rename_i hs
    have hsn := den_inj_sc hs hx h1 d hk
    obtain ⟨es',g1,g2⟩ := ih h h3 (i + 1)
    refine ⟨_,g1, ?_⟩
    rcases g2 with ⟨g2,g3⟩ | ⟨j,z,g2,g5⟩
    ·exact .inl ⟨by simpa [Instr.findNow,hsn] using g2,⟨h1,h2,g3⟩⟩
    ·refine .inr ⟨j + 1,z, ?_,⟨h1,h2,g5⟩⟩
     simp only [Instr.findNow,hsn]
     rw [g2]; congr 3; omega
   ·cases h
theorem deleteK_sound {ρ : Ren} {h : Heap} {w : World} (hr : HRel ρ h w) {t : TypeId} {m k : AV} {K : Heap -> Option β} {r : β} (e : deleteK P h t m k K = some r) {a x : Value} (ha : m.den ρ = some a) (hx : k.den ρ = some x)
  (ts : Array TypeId) (ht : ts[0]? = some t) (ty : TypeId) (as : Array Value) (h0 : as[0]? = some a) (h1 : as[1]? = some x) :
  ∃ h' w',K h' = some r /\ Stp ρ h w ρ h' w' /\ (Builtin.delete_ ts ty as).run P w = .ok undef w' := by
 unfold deleteK at e
 replace e := unK_some e
 obtain ⟨d,hd,e⟩ := e
 split at e
 ·rename_i kt et
  cases den_nilmap ha
  replace e := keyK_some e
  obtain ⟨kd,hkd,hko,e⟩ := e
  exact ⟨h,w,e,Stp.refl hr,by simp [Builtin.delete_,ht,h0,h1,run_underlying hd,run_checkKey hkd hko]; rfl⟩
 ·rename_i kt et rr
  obtain ⟨l,hl,rfl⟩ := den_mapv ha
  replace e := keyK_some e
  obtain ⟨kd,hkd,hko,e⟩ := e
  obtain ⟨b,hb,e⟩ := hget_some e
  obtain ⟨l',hl',hrel⟩ := hr.blk _ b hb
  rw [hl] at hl'; cases hl'
  split at e
  ·rename_i es
   obtain ⟨E,c,g1,g2⟩ := hrel
   obtain ⟨es',e1,e2⟩ := delK_sound e g2 hx hko 0
   rw [hputK_eq] at e1
   have hg : (getObj l.blk).run P w = .ok (.map E c) w := by simp [getObj,Sem.run,g1]
   have hset : ∀ o w,w.heap[l.blk]? = some (.map E c) -> (setObj l.blk o).run P w = .ok () { w with heap := w.heap.setIfInBounds l.blk o } := by
    intro o w hw; simp [setObj,Sem.run,hw]
   have fin : ∀ E' c',MRel ρ es' E'.toList -> Stp ρ h w ρ (h.put rr (some (.map es' false))) { w with heap := w.heap.setIfInBounds l.blk (.map E' c') } := by
    intro E' c' hm
    have hlt := (Array.getElem?_eq_some_iff.1 g1).1
    refine Stp.put hr hb hl rfl (by simp) (fun j hj => by simp [Array.getElem?_setIfInBounds,Ne.symm hj]) rfl rfl rfl ⟨E',c', ?_,hm⟩
    simp [Array.getElem?_setIfInBounds,hlt]
   rcases e2 with ⟨f1,f2⟩ | ⟨j,z,f1,f4⟩
   ·refine ⟨_,_,e1,fin E c f2, ?_⟩
    simp [Builtin.delete_,ht,h0,h1,run_underlying hd,hg,run_checkKey hkd hko,Instr.findKey,run_underlying hkd,f1,hset _ w g1]
    rfl
   ·refine ⟨_,_,e1,fin (E.eraseIdxIfInBounds j) c ?_, ?_⟩
    ·have : (E.eraseIdxIfInBounds j).toList = E.toList.eraseIdx j := by
      unfold Array.eraseIdxIfInBounds
      split
      ·simp
      ·rename_i hj
       rw [List.eraseIdx_of_length_le (by simp at hj ⊢; omega)]
     rw [this]; exact f4
    ·rw [Nat.zero_add] at f1
     simp [Builtin.delete_,ht,h0,h1,run_underlying hd,hg,run_checkKey hkd hko,Instr.findKey,run_underlying hkd,f1,hset _ w g1]
     rfl
  ·cases e
 ·cases e
end Go.Ai
namespace Go.Ai
open Go
set_option linter.unusedSimpArgs false
variable {P : Program} {β : Type}
theorem lsc_all {vs : List AV} (h : lsc vs = true) : ∀ v ∈ vs,isSc v = true := by
 induction vs with
 | nil => simp
 | cons v vs ih =>
  simp only [lsc] at h
  split at h
  ·rename_i hv
   intro u hu
   rcases List.mem_cons.1 hu with rfl | hu
   ·exact hv
   ·exact ih h u hu
  ·cases h
theorem one_all {ρ : Ren} {vs : List AV} {xs : List Value} (h : lsc vs = true) (hx : denL ρ vs = some xs) : ∀ x ∈ xs,x.oneCell' = true := by
 intro x hm
 obtain ⟨j,hj,rfl⟩ := List.mem_iff_getElem.1 hm
 have hlx := denL_len hx
 obtain ⟨y,g1,g2⟩ := denL_get hx (List.getElem?_eq_getElem (show j < vs.length by omega))
 rw [List.getElem?_eq_getElem hj] at g1; cases g1
 exact isSc_cell (lsc_all h _ (List.getElem_mem _)) g2
/-! append -/
theorem growBy_le (n : Nat) : ∀ (r c : Nat),Builtin.growBy n r c <= max c (n + (n + 768) / 4)
 | 0,c => by simp [Builtin.growBy]; omega
 | r + 1,c => by
  simp only [Builtin.growBy]
  split
  ·omega
  ·have := growBy_le n r (c + (c + 768) / 4)
   omega
theorem nextslicecap_le (need sCap : Nat) (h : sCap < need) : Builtin.nextslicecap need sCap <= 2 * need + 200 := by
 unfold Builtin.nextslicecap
 split
 ·omega
 ·split
  ·omega
  ·have := growBy_le need 4 sCap
   omega
def NoZeros (P : Program) (ts : Array TypeId) : Prop := ts[1]? = none \/ ∃ u d,ts[1]? = some u /\ P.underlying u = some d /\ ∀ k,d ≠ .int k
set_option maxHeartbeats 4000000 in
theorem append_in {t elem : TypeId} {ie : TypeInfo} (hd : P.underlying t = some (.slice elem)) (hi : P.info? elem = some ie) (ts : Array TypeId) (ht : ts[0]? = some t) (hz : NoZeros P ts)
  (ty : TypeId) (as : Array Value) (base : Option Addr) (sl sCap : Nat) (x : Value) (h0 : as[0]? = some (.slice base sl sCap)) (h1 : as[1]? = some x) {n : Nat} {w w' : World} (hn : (Builtin.lenOf x).run P w = .ok n w)
  (hle : sl + n <= sCap) {new : Array Value} (hnew : (Builtin.firstCells ie.size n x).run P w = .ok new w) (hst : (∀ a,base = some a -> (storeCells (a.add (sl * ie.size)) new.toList).run P w = .ok () w') /\ (base = none -> w' = w)) :
  (Builtin.append_ ts ty as).run P w = .ok (.slice base (sl + n) sCap) w' := by
 rcases hz with hz | ⟨u,d,hz,hu,hk⟩
 ·cases base with
  | none => cases hst.2 rfl; simp [Builtin.append_,ht,h0,h1,run_underlying hd,runSize elem hi,hz,hn,hle,hnew]
  | some a => simp [Builtin.append_,ht,h0,h1,run_underlying hd,runSize elem hi,hz,hn,hle,hnew,hst.1 a rfl]
 ·cases d <;> first
   | exact absurd rfl (hk _)
   | (cases base with
    | none => cases hst.2 rfl; simp [Builtin.append_,ht,h0,h1,run_underlying hd,runSize elem hi,hz,run_underlying hu,hn,hle,hnew]
    | some a => simp [Builtin.append_,ht,h0,h1,run_underlying hd,runSize elem hi,hz,run_underlying hu,hn,hle,hnew,hst.1 a rfl])
set_option maxHeartbeats 4000000 in
theorem append_grow {t elem : TypeId} {ie : TypeInfo} {zv : Value} (hd : P.underlying t = some (.slice elem)) (hi : P.info? elem = some ie) (hzv : ie.zero = some zv) (ts : Array TypeId) (ht : ts[0]? = some t) (hz : NoZeros P ts)
  (ty : TypeId) (as : Array Value) (base : Option Addr) (sl sCap : Nat) (x : Value) (h0 : as[0]? = some (.slice base sl sCap)) (h1 : as[1]? = some x) {n : Nat} {w : World} (hn : (Builtin.lenOf x).run P w = .ok n w)
  (hle : ¬ sl + n <= sCap) (hb1 : sl + n <= 140737488355328) (hb2 : (sl + n + 200) * ie.bytes <= 140737488355328) {newCap : Nat} (hc : newCap = (Question.appendCap (sl + n) sCap elem).cut (w.tape w.drawn (.appendCap (sl + n) sCap elem)))
  {old new : Array Value} (hold : (Builtin.firstCells ie.size sl (.slice base sl sCap)).run P w.drew = .ok old w.drew) (hnew : (Builtin.firstCells ie.size n x).run P w.drew = .ok new w.drew) :
  (Builtin.append_ ts ty as).run P w = .ok (.slice (some ⟨w.heap.size,0,none⟩) (sl + n) newCap) (w.drew.alloc (.cells (old ++ new ++ Builtin.zeroCells zv.cells (newCap - (sl + n))) elem)) := by
 have hcap : ¬ (Builtin.nextslicecap (sl + n) sCap * ie.bytes > 281474976710656) := by
  have h1 := nextslicecap_le (sl + n) sCap (by omega)
  have h2 : Builtin.nextslicecap (sl + n) sCap * ie.bytes <= (2 * (sl + n) + 200) * ie.bytes := Nat.mul_le_mul_right _ h1
  have h3 : (2 * (sl + n) + 200) * ie.bytes <= 2 * ((sl + n + 200) * ie.bytes) := by
   rw [<- Nat.mul_assoc]; exact Nat.mul_le_mul_right _ (by omega)
  omega
 have hmax : ¬ (9223372036854775807 < (sl : Int) + (n : Int)) := by omega
 have hf : (Question.appendCap (sl + n) sCap elem).forced = false := rfl
 rcases hz with hz | ⟨u,d,hz,hu,hk⟩
 ·subst hc
  simp [Builtin.append_,ht,h0,h1,run_underlying hd,runSize elem hi,isInfo elem hi,hz,hn,hle,hcap,hmax,hf,hold,hnew,runZero elem hi hzv,newRow]
 ·subst hc
  cases d <;> first
   | exact absurd rfl (hk _)
   | simp [Builtin.append_,ht,h0,h1,run_underlying hd,runSize elem hi,isInfo elem hi,hz,run_underlying hu,hn,hle,hcap,hmax,hf,hold,hnew,runZero elem hi hzv,newRow]
end Go.Ai
namespace Go.Ai
open Go
set_option linter.unusedSimpArgs false
variable {P : Program} {β : Type}
theorem HRel.drew {ρ : Ren} {h : Heap} {w : World} (r : HRel ρ h w) : HRel ρ h w.drew := r.draw _
theorem Stp.drew {ρ : Ren} {h : Heap} {w : World} (r : HRel ρ h w) : Stp ρ h w ρ h w.drew := Stp.draw _ r
theorem grow_step {ρ : Ren} {h : Heap} {w : World} (hr : HRel ρ h w) {size need newCap : Nat} {old new : List AV} {xo xn : List Value} (ho : denL ρ old = some xo) (hn : denL ρ new = some xn)
  (hl : xo.length + xn.length = need * size) (hc : need <= newCap) {zv : Value} (hz : zv.cells.size = size) (elem : TypeId) :
  Stp ρ h w (ρ.add h.next ⟨w.heap.size,0,newCap⟩) (h.new (.cells (old ++ new) size false)) (w.drew.alloc (.cells (xo.toArray ++ xn.toArray ++ Builtin.zeroCells zv.cells (newCap - need)) elem)) /\
  (AV.eslice h.next 0 0 need).den (ρ.add h.next ⟨w.heap.size,0,newCap⟩) = some (.slice (some ⟨w.heap.size,0,none⟩) need newCap) := by
 refine ⟨(Stp.drew hr).trans (Stp.new (w := w.drew) (w' := w.drew.alloc (.cells (xo.toArray ++ xn.toArray ++ Builtin.zeroCells zv.cells (newCap - need)) elem)) hr.drew rfl rfl rfl rfl newCap ?_), ?_⟩
 ·refine ⟨xo.toArray ++ xn.toArray ++ Builtin.zeroCells zv.cells (newCap - need),elem,(0,0),xo ++ xn,by show (w.heap.push _)[w.heap.size]? = _; simp,denL_mono (Ren.ext_add _ (hr.new _ (Nat.le_refl _))) _ _ (denL_app ho hn), ?_,fun _ => .inl rfl,fun _ => ?_⟩
  ·intro i x hi
   have hlt := (List.getElem?_eq_some_iff.1 hi).1
   simp only [Nat.zero_add]
   rw [Array.getElem?_append_left (by simpa using hlt)]
   simpa using hi
  ·have hzs : (Builtin.zeroCells zv.cells (newCap - need)).size = (newCap - need) * size := by simp [Builtin.zeroCells,hz]
   simp only [Array.size_append,hzs,List.size_toArray,hl,Nat.zero_add]
   rw [<- Nat.add_mul]; congr 1; omega
 ·simp [AV.den,Ren.add_same,hc]
theorem appendCap_le (need sCap : Nat) (elem : TypeId) (t : Nat) : need <= (Question.appendCap need sCap elem).cut t := by
 simp only [Question.cut]; omega
theorem capRoom_le {n size b : Nat} (h : (n + 1) * (size + 2) * (b + 1) <= mostCells) : n <= 140737488355328 /\ (n + 200) * b <= 140737488355328 := by
 have hbd : (n + 1) * (size + 2) * (b + 1) <= 1073741824 := h
 have h1 : n + 1 <= (n + 1) * (size + 2) := Nat.le_mul_of_pos_right _ (by omega)
 have h2 : (n + 1) * (b + 1) <= 1073741824 := Nat.le_trans (Nat.mul_le_mul_right _ h1) hbd
 have h3 : n + 1 <= (n + 1) * (b + 1) := Nat.le_mul_of_pos_right _ (by omega)
 have h4 : b + 1 <= (n + 1) * (b + 1) := Nat.le_mul_of_pos_left _ (by omega)
 have h5 : n * b <= (n + 1) * (b + 1) := Nat.mul_le_mul (by omega) (by omega)
 refine ⟨by omega, ?_⟩
 rw [Nat.add_mul]
 omega
theorem room_le {n size b : Nat} (h : (n + 1) * (size + 2) * (b + 1) <= capRoom size b) : n <= 140737488355328 /\ (n + 200) * b <= 140737488355328 := by
 unfold capRoom at h
 split at h
 ·omega
 ·exact capRoom_le h
theorem appendK_sound {ρ : Ren} {h : Heap} {w : World} (hr : HRel ρ h w) {t : TypeId} {s x : AV} {K : AV -> Heap -> Option β} {r : β} (e : appendK P h t s x K = some r) {a b : Value} (ha : s.den ρ = some a) (hb : x.den ρ = some b)
  (ts : Array TypeId) (ht : ts[0]? = some t) (hz : NoZeros P ts) (ty : TypeId) (as : Array Value) (h0 : as[0]? = some a) (h1 : as[1]? = some b) :
  ∃ v h' ρ' z w',K v h' = some r /\ Stp ρ h w ρ' h' w' /\ v.den ρ' = some z /\ (Builtin.append_ ts ty as).run P w = .ok z w' := by
 unfold appendK at e
 replace e := unK_some e
 obtain ⟨d,hd,e⟩ := e
 split at e
 ·rename_i elem
  split at e
  ·rename_i ie hi
   split at e
   ·rename_i zv hzv
    split at e
    ·rename_i size hzs hsz
     have hzs := Nat.eq_of_beq_eq_true hzs
     have hpos : 0 < ie.size := by omega
     obtain ⟨S,hS⟩ : ∃ S,S = size + 1 := ⟨_,rfl⟩
     rw [<- hS] at e
     have hSi : ie.size = S := by omega
     split at e
     ·rename_i n sl hn hs
      simp only [fN_eq] at e
      split at e
      ·rename_i hbd
       have hbd := Nat.le_of_ble_eq_true hbd
       have hlx := lenA_sound (P := P) hn hb w
       obtain ⟨hb1,hb2⟩ := room_le hbd
       replace e := firstK_sound (P := P) hr e hb
       obtain ⟨nw,xn,e,hnd,hnrun,_⟩ := e
       simp only [llen_eq,Nat.zero_add] at e
       split at e
       ·rename_i hnl hsc
        have hnl := Nat.eq_of_beq_eq_true hnl
        have hxl : xn.length = n * S := by rw [denL_len hnd,hnl]
        have hone := one_all hsc hnd
        have hzS : zv.cells.size = S := by omega
        have hSpos : 0 < S := by omega
        split at e
        ·-- a slice at the end of a block that may have room
         rename_i k off i0 len
         obtain ⟨l,hl,hcap,rfl⟩ := den_eslice ha
         have hsl : sl = len := by simpa [lenA] using hs.symm
         subst hsl
         replace e := hget_some e
         obtain ⟨bk,hbk,e⟩ := e
         split at e
         ·rename_i cs ext
          split at e
          ·rename_i hee
           simp only [Bool.and_eq_true] at hee
           have hext := Nat.eq_of_beq_eq_true hee.1
           have hoff := Nat.eq_of_beq_eq_true hee.2
           replace e := lcut_some e
           obtain ⟨hle,e⟩ := e
           ·skip
            simp only [hdropK_eq,growK,lapp_eq,hnewK_eq] at e
            obtain ⟨l',hl',hrel⟩ := hr.blk k _ hbk
            rw [hl] at hl'; cases hl'
            obtain ⟨xo,hod,hol,hold⟩ := runCells (P := P) hrel hle
            have hrel' := hrel
            obtain ⟨C,T,fz,ys,c1,c2,c3,c4,c5⟩ := hrel'
            have hly := denL_len c2
            have c5 := c5 (by omega)
            by_cases hin : sl + n <= l.cap - i0
            ·-- in place
             have hmul : (l.cap - i0) * S = l.cap * S - i0 * S := Nat.sub_mul _ _ _
             have hfit : (sl + n) * S <= (l.cap - i0) * S := Nat.mul_le_mul_right _ hin
             have hi0 : i0 * S <= l.cap * S := Nat.mul_le_mul_right _ (by omega)
             have hadd : (sl + n) * S = sl * S + n * S := Nat.add_mul _ _ _
             have hsz' : l.off + off + sl * S + xn.length <= C.size := by rw [c5,hext]; omega
             have hrun := run_storeCells_cells (P := P) l.blk (l.off + off + sl * S) xn 0 w
              (fun j hj => by simp only [World.cell?,c1,Nat.add_zero]; simp; omega)
              (fun j hj => by
               have c4 := c4 rfl
               simp only [World.frozen?,c1,Nat.add_zero]
               simp; omega) hone
             rw [Nat.add_zero] at hrun
             obtain ⟨C',g1,g2,g3,g4,g5⟩ := setCells_blk l.blk xn (l.off + off + sl * S) w C T fz c1 hsz'
             obtain ⟨e1,e2,e3⟩ := setCells_rest l.blk xn (l.off + off + sl * S) w
             have hx : Ext ρ (ρ.add h.next ⟨l.blk,l.off + off,l.cap - i0⟩) := Ren.ext_add _ (hr.new _ (Nat.le_refl _))
             refine ⟨_,_,ρ.add h.next ⟨l.blk,l.off + off,l.cap - i0⟩, .slice (some ⟨l.blk,l.off + off,none⟩) (sl + n) (l.cap - i0),_,e,
              Stp.move hr hbk hl rfl rfl (setCells_size _ _ _ _) (fun j hj => setCells_heap _ _ _ _ _ hj) e1 e2 e3 ?_,by simp [AV.den,Ren.add_same,hin], ?_⟩
             ·refine ⟨C',T,fz,xo ++ xn,g1,denL_mono hx _ _ (denL_app hod hnd), ?_, ?_, ?_⟩
              ·intro i x hi
               by_cases hlt : i < sl * S
               ·rw [List.getElem?_append_left (by omega)] at hi
                rw [g3 _ (by simp only; omega)]
                have hxo : xo = (ys.drop off).take (sl * S) := by
                 have := denL_take (sl * S) (denL_drop off c2)
                 rw [hod] at this; simpa using this
                rw [hxo,List.getElem?_take_of_lt hlt,List.getElem?_drop] at hi
                have := c3 _ _ hi
                simpa [Nat.add_assoc] using this
               ·rw [List.getElem?_append_right (by omega),hol] at hi
                have := g5 _ _ hi
                have e9 : l.off + off + sl * S + (i - sl * S) = l.off + off + i := by omega
                rw [e9] at this
                exact this
              ·intro _
               rw [g2]
               exact c4 rfl
              ·intro _
               rw [g2,c5,hext]
               simp only
               omega
             ·refine append_in hd hi ts ht hz ty as _ sl _ b h0 h1 hlx hin (hSi ▸ hnrun w rfl) ⟨fun p hp => ?_,fun c => by cases c⟩
              cases hp
              rw [addLit,hSi]
              simpa using hrun
            ·-- in a new block
             have hdrop := Stp.drop hr k
             have hlen : xo.length + xn.length = (sl + n) * S := by rw [hol,hxl,Nat.add_mul]
             obtain ⟨g1,g2⟩ := grow_step hdrop.rel (newCap := (Question.appendCap (sl + n) (l.cap - i0) elem).cut (w.tape w.drawn (.appendCap (sl + n) (l.cap - i0) elem))) hod hnd hlen (appendCap_le _ _ _ _) hzS elem
             refine ⟨_,_,_,_,_,e,hdrop.trans g1,g2, ?_⟩
             have hold' : (Builtin.firstCells S sl (.slice (some ⟨l.blk,l.off + off,none⟩) sl (l.cap - i0))).run P w.drew = .ok xo.toArray w.drew := by
              obtain ⟨xo',f1,_,f2⟩ := runCells (P := P) (hrel.mono (w' := w.drew) (Ext.refl _) rfl) hle
              rw [hod] at f1; cases f1
              exact f2
             exact append_grow hd hi hzv ts ht hz ty as _ sl _ b h0 h1 hlx hin hb1 hb2 rfl (hSi ▸ hold') (hSi ▸ hnrun w.drew rfl)
          ·cases e
         ·cases e
        ·-- a slice whose room is known
         rename_i k off len cap
         obtain ⟨l,hl,rfl⟩ := den_slice ha
         have hsl : sl = len := by simpa [lenA] using hs.symm
         subst hsl
         split at e
         ·rename_i hle
          have hle := Nat.le_of_ble_eq_true hle
          replace e := storeCK_sound (P := P) hr e hl hnd
          obtain ⟨h',w',e,g1,g2⟩ := e
          refine ⟨_,h',ρ, .slice (some ⟨l.blk,l.off + off,none⟩) (sl + n) cap,w',e,g1,by simp only [AV.den,hl,Option.map_some], ?_⟩
          refine append_in hd hi ts ht hz ty as _ sl _ b h0 h1 hlx hle (hSi ▸ hnrun w rfl) ⟨fun p hp => ?_,fun c => by cases c⟩
          cases hp
          rw [addLit,hSi]
          simpa [Nat.add_assoc] using g2
         ·rename_i hle
          have hle : ¬ sl + n <= cap := fun c => by rw [Nat.ble_eq_true_of_le c] at hle; cases hle
          replace e := firstK_sound (P := P) hr e ha
          obtain ⟨od,xo,e,hod,hold,hol⟩ := e
          simp only [growK,lapp_eq,hnewK_eq] at e
          have hlen : xo.length + xn.length = (sl + n) * S := by rw [hol _ _ _ _ rfl,hxl,Nat.add_mul]
          obtain ⟨g1,g2⟩ := grow_step hr (newCap := (Question.appendCap (sl + n) cap elem).cut (w.tape w.drawn (.appendCap (sl + n) cap elem))) hod hnd hlen (appendCap_le _ _ _ _) hzS elem
          exact ⟨_,_,_,_,_,e,g1,g2,append_grow hd hi hzv ts ht hz ty as _ sl _ b h0 h1 hlx hle hb1 hb2 rfl (hSi ▸ hold w.drew rfl) (hSi ▸ hnrun w.drew rfl)⟩
        ·cases den_nilslice ha
         have hsl : sl = 0 := by simpa [lenA] using hs.symm
         subst hsl
         split at e
         ·rename_i hn0
          have hn0 : n = 0 := by omega
          subst hn0
          refine ⟨_,h,ρ,_,w,e,Stp.refl hr,rfl, ?_⟩
          have := append_in hd hi ts ht hz ty as none 0 0 b h0 h1 hlx (by omega) (hSi ▸ hnrun w rfl) (w' := w) ⟨fun p hp => (by cases hp),fun _ => rfl⟩
          simpa using this
         ·rename_i m hm
          simp only [growK,lapp_eq,hnewK_eq] at e
          have hmn : m + 1 = 0 + n := by omega
          rw [hmn] at e
          obtain ⟨g1,g2⟩ := grow_step hr (old := []) (xo := []) (newCap := (Question.appendCap (0 + n) 0 elem).cut (w.tape w.drawn (.appendCap (0 + n) 0 elem))) (denL_nil ρ) hnd (by simp [hxl]) (appendCap_le _ _ _ _) hzS elem
          exact ⟨_,_,_,_,_,e,g1,g2,append_grow hd hi hzv ts ht hz ty as none 0 0 b h0 h1 hlx (by omega) hb1 hb2 rfl (by simp [Builtin.firstCells]) (hSi ▸ hnrun w.drew rfl)⟩
        ·cases e
       ·cases e
      ·cases e
     ·cases e
    ·cases e
   ·cases e
  ·cases e
 ·cases e
end Go.Ai
namespace Go.Ai
open Go
set_option linter.unusedSimpArgs false
variable {P : Program} {β : Type}
theorem copyK_sound {ρ : Ren} {h : Heap} {w : World} (hr : HRel ρ h w) {t : TypeId} {d x : AV} {K : AV -> Heap -> Option β} {r : β} (e : copyK P h t d x K = some r) {a b : Value} (ha : d.den ρ = some a) (hb : x.den ρ = some b)
  (ts : Array TypeId) (ht : ts[0]? = some t) (ty : TypeId) (as : Array Value) (h0 : as[0]? = some a) (h1 : as[1]? = some b) :
  ∃ v h' z w',K v h' = some r /\ Stp ρ h w ρ h' w' /\ (∀ ρ',v.den ρ' = some z) /\ (Builtin.copy_ ts ty as).run P w = .ok z w' := by
 unfold copyK at e
 replace e := unK_some e
 obtain ⟨dd,hd,e⟩ := e
 split at e
 ·rename_i elem
  replace e := szK_some e
  obtain ⟨i,hi,e⟩ := e
  split at e
  ·rename_i n m hn hm
   simp only [fN_eq] at e
   have hlx := lenA_sound (P := P) hn hb w
   rw [minN_eq] at e
   have hlm := lenA_sound (P := P) hm ha w
   replace e := firstK_sound (P := P) hr e hb
   obtain ⟨cs,xs,e,g1,g2,_⟩ := e
   have g2 := g2 w rfl
   split at e
   ·cases den_nilslice ha
    have : m = 0 := by simpa [lenA] using hm.symm
    subst this
    refine ⟨_,h,_,w,e,Stp.refl hr,fun ρ' => rfl, ?_⟩
    simp [Builtin.copy_,ht,h0,h1,run_underlying hd,hlx,runSize elem hi] at g2 ⊢
    simp [g2,goInt]
   ·rename_i k off len cap
    obtain ⟨l,hl,rfl⟩ := den_slice ha
    have : m = len := by simpa [lenA] using hm.symm
    subst this
    replace e := storeCK_sound (P := P) hr e hl g1
    obtain ⟨h',w',e,q1,q2⟩ := e
    refine ⟨_,h',_,w',e,q1,fun ρ' => rfl, ?_⟩
    simp [Builtin.copy_,ht,h0,h1,run_underlying hd,hlx,runSize elem hi,g2,q2,goInt,Nat.min_def] at g2 ⊢
   ·rename_i k off i0 len
    obtain ⟨l,hl,_,rfl⟩ := den_eslice ha
    have : m = len := by simpa [lenA] using hm.symm
    subst this
    replace e := storeCK_sound (P := P) hr e hl g1
    obtain ⟨h',w',e,q1,q2⟩ := e
    refine ⟨_,h',_,w',e,q1,fun ρ' => rfl, ?_⟩
    simp [Builtin.copy_,ht,h0,h1,run_underlying hd,hlx,runSize elem hi,g2,q2,goInt,Nat.min_def] at g2 ⊢
   ·cases e
  ·cases e
 ·cases e
theorem clearK_sound {ρ : Ren} {h : Heap} {w : World} (hr : HRel ρ h w) {t : TypeId} {x : AV} {K : Heap -> Option β} {r : β} (e : clearK P h t x K = some r) {a : Value} (ha : x.den ρ = some a)
  (ts : Array TypeId) (ht : ts[0]? = some t) (ty : TypeId) (as : Array Value) (h0 : as[0]? = some a) :
  ∃ h' w',K h' = some r /\ Stp ρ h w ρ h' w' /\ (Builtin.clear_ ts ty as).run P w = .ok (.tuple #[]) w' := by
 unfold clearK at e
 replace e := unK_some e
 obtain ⟨dd,hd,e⟩ := e
 have main : ∀ {k off n c : Nat} {l : Loc} {elem : TypeId},dd = .slice elem -> ρ k = some l -> a = .slice (some ⟨l.blk,l.off + off,none⟩) (n + 1) c -> (zeroK P elem fun z => z.cellsK fun cs => repK (n + 1) cs fun cs => storeCK h k off cs K) = some r ->
   ∃ h' w',K h' = some r /\ Stp ρ h w ρ h' w' /\ (Builtin.clear_ ts ty as).run P w = .ok (.tuple #[]) w' := by
  intro k off n c l elem hdd hl ea e'
  subst hdd
  subst ea
  clear e
  replace e' := zeroK_some e'
  obtain ⟨i,zv,z,hi,hz,hden,e'⟩ := e'
  rw [cellsK_eq] at e'
  replace e' := repK_some e'
  replace e' := storeCK_sound (P := P) hr e' hl (repL_den (cells_den (hden ρ)) (n + 1))
  obtain ⟨h',w',e',q1,q2⟩ := e'
  refine ⟨h',w',e',q1, ?_⟩
  have hzc : (Builtin.zeroCells zv.cells (n + 1)).toList = repL (n + 1) zv.cells.toList := by
   unfold Builtin.zeroCells
   rw [repL_range zv.cells zv.cells.size rfl (n + 1)]
  simp [Builtin.clear_,ht,h0,run_underlying hd,runZero elem hi hz,hzc,q2]
 split at e
 ·cases den_nilslice ha
  exact ⟨h,w,e,Stp.refl hr,by simp [Builtin.clear_,ht,h0,run_underlying hd]⟩
 ·obtain ⟨b,ad,c,rfl⟩ := den_tslice' ha
  exact ⟨h,w,e,Stp.refl hr,by simp [Builtin.clear_,ht,h0,run_underlying hd]⟩
 ·obtain ⟨l,hl,rfl⟩ := den_slice ha
  split at e
  ·exact ⟨h,w,e,Stp.refl hr,by simp [Builtin.clear_,ht,h0,run_underlying hd]⟩
  ·exact main rfl hl rfl e
 ·obtain ⟨l,hl,_,rfl⟩ := den_eslice ha
  split at e
  ·exact ⟨h,w,e,Stp.refl hr,by simp [Builtin.clear_,ht,h0,run_underlying hd]⟩
  ·exact main rfl hl rfl e
 ·cases e
theorem freeze_blk {w : World} {b : Nat} {C : Array Value} {T : TypeId} {fz : Nat × Nat} (h : w.heap[b]? = some (.cells C T fz)) (n : Nat) :
  (w.freeze ⟨b,n,none⟩ 1).heap[b]? = some (.cells C T (if fz.1 == fz.2 then (n,n + 1) else (min fz.1 n,max fz.2 (n + 1)))) := by
 obtain ⟨lo,hi⟩ := fz
 simp [World.freeze,Array.getElem?_modify,h]
theorem freeze_ne {w : World} {b j : Nat} (h : j ≠ b) (n : Nat) : (w.freeze ⟨b,n,none⟩ 1).heap[j]? = w.heap[j]? := by
 simp [World.freeze,Array.getElem?_modify,Ne.symm h]
theorem bytes_den (ρ : Ren) (s : List UInt8) : denL ρ (s.map fun b => AV.int .u8 (b.toNat : Int)) = some (s.map fun b => Value.int .u8 (b.toNat : Int)) := by
 induction s with
 | nil => exact denL_nil ρ
 | cons c s ih => exact denL_cons.2 ⟨_,_,rfl,ih,rfl⟩
theorem convBytesK_sound {ρ : Ren} {h : Heap} {w : World} (hr : HRel ρ h w) {s d : TypeId} {x : AV} {K : AV -> Heap -> Option β} {r : β} (e : convBytesK P h s d x K = some r) {a : Value} (ha : x.den ρ = some a) :
  ∃ v h' ρ' z w',K v h' = some r /\ Stp ρ h w ρ' h' w' /\ v.den ρ' = some z /\ (convert s d a).run P w = .ok z w' := by
 unfold convBytesK at e
 replace e := unK_some e
 obtain ⟨sd,hs,e⟩ := e
 replace e := unK_some e
 obtain ⟨dd,hd,e⟩ := e
 split at e
 ·rename_i se el k o l c
  obtain ⟨lc,hl,rfl⟩ := den_slice ha
  replace e := unK_some e
  obtain ⟨ed,he,e⟩ := e
  split at e
  ·rename_i hsd
   have hsd := Nat.eq_of_beq_eq_true hsd
   subst hsd
   rw [hs] at hd; cases hd
   replace e := hget_some e
   obtain ⟨b,hb,e⟩ := e
   split at e
   ·rename_i cs ext
    rw [hputK_eq] at e
    obtain ⟨l',hl',hrel⟩ := hr.blk _ _ hb
    rw [hl] at hl'; cases hl'
    obtain ⟨C,T,fz,ys,c1,c2,c3,c4,c5⟩ := hrel
    refine ⟨_,_,ρ, .slice (some ⟨lc.blk,lc.off + o,none⟩) l c,w.freeze ⟨lc.blk,C.size,none⟩ 1,e, ?_,by simp only [AV.den,hl,Option.map_some], ?_⟩
    ·refine Stp.put hr hb hl rfl (by simp [World.freeze]) (fun j hj => freeze_ne hj _) rfl rfl rfl ?_
     refine ⟨C,T,_,ys,freeze_blk c1 _,c2,c3,fun _ => ?_,c5⟩
     have c4 := c4 rfl
     split
     ·exact .inr (Nat.le_refl _)
     ·rename_i hne
      right
      simp only
      have : fz.1 ≠ fz.2 := by simpa using hne
      omega
    ·have hsh : w.shape? lc.blk = some (T,C.size) := by simp [World.shape?,c1]
     simp [convert,run_underlying hs,run_underlying he,markStringish,hsh]
   ·cases e
  ·cases e
 ·rename_i el u
  cases den_str ha
  replace e := unK_some e
  obtain ⟨ed,he,e⟩ := e
  split at e
  ·simp only [llen_eq,fL_eq,hnewK_eq,Nat.zero_add] at e
   have hf : (Question.appendCap u.length 0 el).forced = false := rfl
   obtain ⟨cap,hcap⟩ : ∃ cap,cap = (Question.appendCap u.length 0 el).cut (w.tape w.drawn (.appendCap u.length 0 el)) := ⟨_,rfl⟩
   have hle : u.length <= cap := by rw [hcap]; exact appendCap_le _ _ _ _
   obtain ⟨C,hC⟩ : ∃ C : Array Value,C = (u.map fun b => Value.int .u8 (b.toNat : Int)).toArray ++ Array.replicate (cap - u.length) (.int .u8 0) := ⟨_,rfl⟩
   have hCs : C.size = cap := by rw [hC]; simp; omega
   let w' : World := { w.drew with heap := w.heap.push (.cells C el (C.size,C.size + 1)) }
   refine ⟨_,_,ρ.add h.next ⟨w.heap.size,0,cap⟩, .slice (some ⟨w.heap.size,0,none⟩) u.length cap,w',e, ?_,by simp [AV.den,Ren.add_same,hle], ?_⟩
   ·refine (Stp.drew hr).trans (Stp.new (w := w.drew) (w' := w') hr.drew rfl rfl rfl rfl cap ?_)
    refine ⟨C,el,(C.size,C.size + 1),u.map fun b => Value.int .u8 (b.toNat : Int), ?_,bytes_den _ u, ?_,fun _ => .inr (Nat.le_refl _),fun _ => by simp [hCs]⟩
    ·show (w.heap.push _)[w.heap.size]? = _
     simp
    ·intro i x hi
     have hlt := (List.getElem?_eq_some_iff.1 hi).1
     rw [hC]
     simp only [Nat.zero_add]
     rw [Array.getElem?_append_left (by simpa using hlt)]
     simpa using hi
   ·have hsz : (⟨u.toArray⟩ : ByteArray).size = u.length := by simp [ByteArray.size]
    have hmap : (Array.map (fun b : UInt8 => Value.int .u8 (b.toNat : Int)) u.toArray) = (u.map fun b => Value.int .u8 (b.toNat : Int)).toArray := by simp
    have hconv : (convert s d (.string ⟨u.toArray⟩)).run P w = (Conv.stringToBytes el ⟨u.toArray⟩).run P w := by
     simp [convert,run_underlying hs,run_underlying hd,run_underlying he]
    have hw : (w.drew.alloc (.cells C el)).freeze ⟨w.heap.size,C.size,none⟩ 1 = w' := by
     have hm : ((w.heap.push (.cells C el)).modify w.heap.size fun
       | .cells c elem (lo,hi) => .cells c elem (if lo == hi then (C.size,C.size + 1) else (min lo C.size,max hi (C.size + 1)))
       | o => o) = w.heap.push (.cells C el (C.size,C.size + 1)) := by
      apply Array.ext_getElem?
      intro j
      rw [Array.getElem?_modify,Array.getElem?_push,Array.getElem?_push]
      by_cases hj : j = w.heap.size
      ·subst hj; simp
      ·rw [if_neg (fun c => hj c.symm),if_neg hj,if_neg hj]
     show World.mk _ _ _ _ _ = World.mk _ _ _ _ _
     congr 1
    have hrun : (do
      let a <- newRow el C
      markStringish a
      pure (.slice (some a) u.length cap) : Sem Value).run P w.drew = .ok (.slice (some ⟨w.heap.size,0,none⟩) u.length cap) w' := by
     have e1 : (newRow el C).run P w.drew = .ok ⟨w.heap.size,0,none⟩ (w.drew.alloc (.cells C el)) := rfl
     have e2 : (w.drew.alloc (.cells C el)).shape? w.heap.size = some (el,C.size) := by
      show (match (w.heap.push (.cells C el))[w.heap.size]? with | some (.cells c elem _) => some (elem,c.size) | _ => none) = _
      simp
     simp only [Sem.run_bind,e1,Result.andThen_ok,markStringish,run_shape,e2,run_freeze,hw,Sem.run_pure]
    rw [hconv]
    unfold Conv.stringToBytes
    simp only [Sem.run_bind,run_choose,hf,Bool.false_eq_true,if_false,<- hcap,Result.andThen_ok,hsz,hmap,<- hC]
    simp only [Sem.run_bind] at hrun
    exact hrun
  ·cases e
 ·cases e
end Go.Ai
