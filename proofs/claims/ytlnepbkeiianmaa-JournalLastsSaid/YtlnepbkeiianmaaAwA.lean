/- Of this program, for all inputs: contracts. No condition but those in the theorems. -/
import Derived.Test.YtlnepbkeiianmaaAwM3
import Derived.Test.YtlnepbkeiianmaaAiM5
import Derived.Carry
import Derived.DataReads
import Derived.ChangeArms
import Derived.WideShapes
import Derived.OpenShut
namespace Go.Aw
open Go Go.Ai Go.RowKit
set_option linter.unusedSimpArgs false
set_option linter.unusedVariables false
def numV : Value -> Nat
 | .int _ n => n.toNat
 | _ => 0
theorem denL_B {ρ : Ren} : ∀ {cs : List Value},(∀ v ∈ cs,∃ n : Nat,n < 256 /\ v = .int .u8 (n : Int)) -> denL ρ (B (cs.map numV)) = some cs
 | [],_ => rfl
 | v :: cs,h => by
  obtain ⟨n,hn,rfl⟩ := h v (by simp)
  have ih := denL_B (ρ := ρ) (cs := cs) (fun v hv => h v (by simp [hv]))
  show denL ρ (b8 n :: B (cs.map numV)) = _
  rw [denL,ih]
  simp only [b8,AV.den,Nat.mod_eq_of_lt hn,Option.bind_some,Option.map_some]
theorem byte_of {P : Program} {w : World} {r : Reach} {base u : Nat} {v : Value} (hu : P.underlying u = some (.int .u8)) (h : Cell.okWide P w r base u v) : ∃ n : Nat,n < 256 /\ v = .int .u8 (n : Int) := by
 cases v <;> simp [Cell.okWide,Cell.ok,hu] at h
 obtain ⟨rfl,h⟩ := h
 rename_i n
 simp [IntKind.has,IntKind.min,IntKind.max,IntKind.signed,IntKind.bits] at h
 exact ⟨n.toNat,by omega,by rw [Int.toNat_of_nonneg (by omega)]⟩
theorem bytesS_of {P : Program} {w : World} {r : Reach} {base t m : Nat} {fs : Array Field} {ts : List Nat} (hu : P.underlying t = some (.struct fs)) (hc : P.cellsOf t = m) (hts : P.cellTypes P.depth t = some ts) (hall : ∀ u ∈ ts,P.underlying u = some (.int .u8)) {v : Value} (h : Value.okWide P w r base t v) :
  ∃ l : List Nat,l.length = m /\ (∀ i,l.getD i 0 < 256) /\ ∀ ρ : Ren,(AV.agg (B l)).den ρ = some v := by
 unfold Value.okWide at h
 rw [hu] at h
 obtain ⟨cs,rfl,hsz,ts',hts',_,hcell⟩ := h
 rw [hts] at hts'
 cases hts'
 have hv : ∀ v ∈ cs.toList,∃ n : Nat,n < 256 /\ v = .int .u8 (n : Int) := by
  intro v hv
  obtain ⟨i,hi,rfl⟩ := List.getElem_of_mem hv
  obtain ⟨u,hu,hc⟩ := hcell i cs.toList[i] (by simp at hi ⊢)
  exact byte_of (hall u (List.mem_of_getElem? hu)) hc
 refine ⟨cs.toList.map numV,by simp [hsz,hc],fun i => ?_,fun ρ => by rw [AV.den,denL_B hv]; rfl⟩
 rw [List.getD_eq_getElem?_getD,List.getElem?_map]
 cases hg : cs.toList[i]? with
 | none => simp
 | some v =>
  obtain ⟨n,hn,rfl⟩ := hv v (List.mem_of_getElem? hg)
  simpa [numV] using hn
def keysC (ka kb : List Nat) (n : Nat) : List AV := B ka ++ (B kb ++ [AV.int .u64 (n : Int)])
end Go.Aw
namespace Go.Aw
open Go Go.Ai Go.RowKit
set_option linter.unusedSimpArgs false
set_option linter.unusedVariables false
theorem calls_of_at {E : Env} (ok : E.Ok) {d : Nat} {f : FuncId} {fn : Func} (ho : E.ora f = none) (hf : E.P.funcs[f]? = some fn) (hb : fn.body.isSome = true) {ρ₀ : Ren} {h₀ : Heap} {w : World} (hr : HRel ρ₀ h₀ w) (hno : ∀ b,¬ Own ρ₀ h₀ b)
  {avs : List AV} {xs : List Value} (hx : denL ρ₀ avs = some xs) {h' : Heap} (hk : callD E (d + 1) f avs h₀ = some (.bool true,h')) : Calls E.P f xs.toArray w fun e w' => e = .returned (.bool true) /\ Below w.heap.size w w' := by
 obtain ⟨c,hb⟩ := Option.isSome_iff_exists.1 hb
 have hf : E.P.funcs.toList[f]? = some fn := by simpa using hf
 have := callD_body ok (callD_ok ok d) ho hf hb avs h₀ _ h' hk ρ₀ w xs hx hr
 refine this.mono ?_
 rintro e w' ⟨ρ',z,he,hz,hs⟩
 simp only [AV.den,Option.some.injEq] at hz
 subst hz
 exact ⟨he,hs.os,hs.tape,hs.output,hs.size,fun k hk => hs.frm k hk (hno k)⟩
def heap1 (cs : List AV) : Heap := (⟨0, .leaf⟩ : Heap).new (.cells cs 0 true)
def ren1 (l : Ai.Loc) : Ren := fun k => if k = 0 then some l else none
end Go.Aw
namespace Go.Aw
open Go Go.Ai Go.RowKit
set_option linter.unusedSimpArgs false
set_option linter.unusedVariables false
/-! arguments in memory: types of numbers alone -/
mutual
def flatK (P : Program) : Nat -> TypeId -> Option (List IntKind)
 | 0,_ => none
 | n + 1,t => match P.underlying t with
  | some (.int k) => some [k]
  | some (.array m e) => (match flatK P n e with
   | some l => (match Nat.beq (P.cellsOf e) l.length && Nat.beq (P.cellsOf t) (m * l.length) with | true => some (List.replicate m l).flatten | false => none)
   | none => none)
  | some (.struct fs) => (match fieldsK P n fs.toList 0 with
   | some l => (match Nat.beq (P.cellsOf t) l.length with | true => some l | false => none)
   | none => none)
  | _ => none
def fieldsK (P : Program) : Nat -> List Field -> Nat -> Option (List IntKind)
 | 0,_,_ => none
 | _ + 1,[],_ => some []
 | n + 1,f :: r,off => match flatK P n f.type with
  | some l => (match Nat.beq f.offset off && Nat.beq (P.cellsOf f.type) l.length with
   | true => (match fieldsK P n r (off + l.length) with | some x => some (l ++ x) | none => none)
   | false => none)
  | none => none
end
def Ints (ks : List IntKind) (cs : List Value) : Prop := cs.length = ks.length /\ ∀ (i : Nat) (k : IntKind),ks[i]? = some k -> ∃ n : Int,cs[i]? = some (.int k n) /\ (Lit.int k n).wf = true
theorem rep_flat {α : Type} (l : List α) : ∀ (m i : Nat),i < m * l.length -> (List.replicate m l).flatten[i]? = l[i % l.length]?
 | 0,i,h => by omega
 | m + 1,i,h => by
  rw [List.replicate_succ,List.flatten_cons]
  by_cases hi : i < l.length
  ·rw [List.getElem?_append_left hi,Nat.mod_eq_of_lt hi]
  ·rw [Nat.succ_mul] at h
   rw [List.getElem?_append_right (by omega),rep_flat l m _ (by omega)]
   have : i = (i - l.length) + l.length := by omega
   rw [this,Nat.add_mod_right]
   simp
theorem rep_len {α : Type} (l : List α) (m : Nat) : (List.replicate m l).flatten.length = m * l.length := by
 induction m with
 | zero => simp
 | succ m ih => rw [List.replicate_succ,List.flatten_cons,List.length_append,ih,Nat.succ_mul]; omega
theorem flat_trod {H : Type} {enc : TypeId × Value -> H} {P : Program} {w : World} {base : Nat} {sp : Nat -> Bool} {held : Bool} : ∀ (n : Nat),
  (∀ (t : TypeId) (ks : List IntKind) (fuel : Nat) (cs : List Value) (y : DataW H × List MemPlace),flatK P n t = some ks -> DataW.trod enc P w base sp held fuel t cs = some y -> Ints ks cs) /\
  (∀ (fs : List Field) (off : Nat) (ks : List IntKind) (cs : List Value),fieldsK P n fs off = some ks -> off + ks.length <= cs.length -> (∀ f ∈ fs,∃ fuel y,DataW.trod enc P w base sp held fuel f.type ((cs.drop f.offset).take (P.cellsOf f.type)) = some y) -> Ints ks ((cs.drop off).take ks.length))
 | 0 => ⟨fun t ks fuel cs y h => by simp [flatK] at h,fun fs off ks cs h => by simp [fieldsK] at h⟩
 | n + 1 => by
  obtain ⟨ih1,ih2⟩ := flat_trod n
  constructor
  ·intro t ks fuel cs y h hy
   rw [flatK] at h
   split at h
   ·rename_i k hu
    cases h
    obtain ⟨z,rfl,_,hz⟩ := DataW.trod_int hu hy
    exact ⟨rfl,fun i k hk => by
     cases i with
     | zero => simp at hk; subst hk; exact ⟨z,rfl,hz⟩
     | succ i => simp at hk⟩
   ·rename_i m e hu
    split at h
    ·rename_i l hl
     split at h
     ·rename_i hb
      cases h
      simp only [Bool.and_eq_true] at hb
      have hce := Nat.eq_of_beq_eq_true hb.1
      have hct := Nat.eq_of_beq_eq_true hb.2
      obtain ⟨xs,q,_,_,hlen,hxl,hel⟩ := DataW.trod_array hu hy
      refine ⟨by rw [hlen,hct,rep_len],fun i k hk => ?_⟩
      have hi := (List.getElem?_eq_some_iff.1 hk).1
      rw [rep_len] at hi
      rw [rep_flat l m i hi] at hk
      have hpos : 0 < l.length := by
       rcases Nat.eq_zero_or_pos l.length with c | c
       ·rw [c] at hi; omega
       ·exact c
      have hq : i / l.length < m := Nat.div_lt_of_lt_mul (by rw [Nat.mul_comm]; exact hi)
      have he := hel (i / l.length) hq
      rw [List.getElem?_eq_getElem (by omega),hce] at he
      obtain ⟨g1,g2⟩ := ih1 e l _ _ _ hl he
      obtain ⟨z,gz,gw⟩ := g2 (i % l.length) k hk
      refine ⟨z, ?_,gw⟩
      rw [List.getElem?_take_of_lt (Nat.mod_lt _ hpos),List.getElem?_drop] at gz
      rw [<- gz]
      congr 1
      have := Nat.div_add_mod' i l.length
      omega
     ·cases h
    ·cases h
   ·rename_i fs hu
    split at h
    ·rename_i l hl
     split at h
     ·rename_i hb
      cases h
      have hct := Nat.eq_of_beq_eq_true hb
      obtain ⟨xs,q,_,_,hlen,hxl,hel⟩ := DataW.trod_struct hu hy
      have hlen' : cs.length = ks.length := by rw [hlen,hct]
      have := ih2 fs.toList 0 ks cs hl (by omega) (fun f hf => by
       obtain ⟨i,hi⟩ := List.mem_iff_getElem?.1 hf
       have hi' : fs[i]? = some f := by simpa using hi
       have hlt : i < xs.length := by
        have := (Array.getElem?_eq_some_iff.1 hi').1
        omega
       have := hel i f hi'
       rw [List.getElem?_eq_getElem hlt] at this
       exact ⟨_,_,this⟩)
      rw [List.drop_zero,List.take_of_length_le (by omega)] at this
      exact this
     ·cases h
    ·cases h
   ·cases h
  ·intro fs off ks cs h hle hf
   cases fs with
   | nil =>
    rw [fieldsK] at h
    cases h
    exact ⟨by simp,fun i k hk => by simp at hk⟩
   | cons f r =>
    rw [fieldsK] at h
    split at h
    ·rename_i l hl
     split at h
     ·rename_i hb
      simp only [Bool.and_eq_true] at hb
      have hfo := Nat.eq_of_beq_eq_true hb.1
      have hfc := Nat.eq_of_beq_eq_true hb.2
      split at h
      ·rename_i x hx
       cases h
       rw [List.length_append] at hle
       obtain ⟨fuel,y,hy⟩ := hf f (by simp)
       rw [hfo,hfc] at hy
       obtain ⟨a1,a2⟩ := ih1 _ _ _ _ _ hl hy
       obtain ⟨b1,b2⟩ := ih2 r (off + l.length) x cs hx (by omega) (fun g hg => hf g (List.mem_cons_of_mem _ hg))
       refine ⟨by simp; omega,fun i k hk => ?_⟩
       by_cases hi : i < l.length
       ·rw [List.getElem?_append_left hi] at hk
        obtain ⟨z,gz,gw⟩ := a2 i k hk
        refine ⟨z, ?_,gw⟩
        rw [List.getElem?_take_of_lt hi] at gz
        rw [List.getElem?_take_of_lt (by rw [List.length_append]; omega)]
        exact gz
       ·rw [List.getElem?_append_right (by omega)] at hk
        obtain ⟨z,gz,gw⟩ := b2 (i - l.length) k hk
        have hlt := (List.getElem?_eq_some_iff.1 hk).1
        refine ⟨z, ?_,gw⟩
        rw [List.getElem?_take_of_lt hlt,List.getElem?_drop] at gz
        rw [List.getElem?_take_of_lt (by rw [List.length_append]; omega),List.getElem?_drop,<- gz]
        congr 1; omega
      ·cases h
     ·cases h
    ·cases h
/-! heaps whose blocks are read alone -/
structure RO (ρ : Ren) (h : Heap) (w : World) : Prop where
 rel : HRel ρ h w
 ro : ∀ k b,h.get k = some b -> ¬ b.rw
theorem RO.nil (w : World) : RO (fun _ => none) ⟨0, .leaf⟩ w := by
 have g : ∀ k b,(⟨0, .leaf⟩ : Heap).get k = some b -> False := fun k b e => by simp [Heap.get,get_leaf] at e
 exact ⟨⟨fun k b e => (g k b e).elim,fun _ _ => rfl,fun k j b c l m e => (g k b e).elim⟩,fun k b e => (g k b e).elim⟩
theorem RO.own {ρ : Ren} {h : Heap} {w : World} (x : RO ρ h w) (b : Nat) : ¬ Own ρ h b := by
 rintro ⟨k,c,m,e,hrw,_⟩
 exact x.ro k c e hrw
theorem RO.new {ρ : Ren} {h : Heap} {w : World} (x : RO ρ h w) {cs : List AV} {l : Ai.Loc} (hb : BlkRel ρ w l (.cells cs 0 true)) : RO (ρ.add h.next l) (h.new (.cells cs 0 true)) w /\ Ext ρ (ρ.add h.next l) := by
 have hx : Ext ρ (ρ.add h.next l) := Ren.ext_add _ (x.rel.new _ (Nat.le_refl _))
 have g : ∀ {k b},(h.new (.cells cs 0 true)).get k = some b -> (k = h.next /\ b = .cells cs 0 true) \/ h.get k = some b := by
  intro k b e
  by_cases hk : k = h.next
  ·subst hk; rw [new_same] at e; cases e; exact .inl ⟨rfl,rfl⟩
  ·rw [new_ne _ _ hk] at e; exact .inr e
 refine ⟨⟨⟨fun k b e => ?_,fun k hk => ?_,fun k j b c l m e1 _ _ _ hrw _ => ?_⟩,fun k b e => ?_⟩,hx⟩
 ·rcases g e with ⟨rfl,rfl⟩ | e
  ·exact ⟨l,Ren.add_same _ _ _,hb.mono hx rfl⟩
  ·obtain ⟨l',h1,h2⟩ := x.rel.blk k b e
   exact ⟨l',hx _ _ h1,h2.mono hx rfl⟩
 ·have hk' : h.next + 1 <= k := hk
  have : ρ.add h.next l k = ρ k := by simp [Ren.add]; omega
  rw [this]
  exact x.rel.new k (by omega)
 ·rcases g e1 with ⟨rfl,rfl⟩ | e
  ·exact absurd hrw (by simp [Blk.rw])
  ·exact absurd hrw (x.ro k b e)
 ·rcases g e with ⟨rfl,rfl⟩ | e
  ·simp [Blk.rw]
  ·exact x.ro k b e
def AInts (ks : List IntKind) (cs : List AV) : Prop := cs.length = ks.length /\ ∀ (i : Nat) (k : IntKind),ks[i]? = some k -> ∃ n : Int,cs[i]? = some (.int k n) /\ (Lit.int k n).wf = true
theorem ints_av : ∀ (cs : List Value),(∀ x ∈ cs,∃ k n,x = .int k n) -> ∃ as : List AV,as.length = cs.length /\ (∀ ρ,denL ρ as = some cs) /\ ∀ (i : Nat) (k : IntKind) (n : Int),cs[i]? = some (.int k n) -> as[i]? = some (.int k n)
 | [],_ => ⟨[],rfl,fun ρ => denL_nil ρ,fun i k n h => by simp at h⟩
 | x :: cs,h => by
  obtain ⟨as,h1,h2,h3⟩ := ints_av cs fun y hy => h y (List.mem_cons_of_mem _ hy)
  obtain ⟨k,n,rfl⟩ := h x (by simp)
  refine ⟨.int k n :: as,by simp [h1],fun ρ => denL_cons.2 ⟨_,_,rfl,h2 ρ,rfl⟩,fun i k' n' hi => ?_⟩
  cases i with
  | zero => simp at hi ⊢; exact hi
  | succ i => simpa using h3 i k' n' (by simpa using hi)
theorem flat_slice {H : Type} {enc : TypeId × Value -> H} {P : Program} {w : World} {r : Reach} {b0 base : Nat} {sp : Nat -> Bool} {held : Bool} {t e n : Nat} {ks : List IntKind} {v : Value} {d : DataW H} {ps : List MemPlace}
  (ht : P.underlying t = some (.slice e)) (hf : flatK P n e = some ks) (hm : P.cellsOf e = ks.length) (hm0 : 0 < ks.length) (hval : Value.okWide P w r b0 t v) (hd : DataW.Trod enc P w base sp held t v d ps) :
  v = .slice none 0 0 \/ ∃ (l : Ai.Loc) (len cap : Nat) (cs : List AV),v = .slice (some ⟨l.blk,l.off,none⟩) len cap /\ len <= cap /\ cap <= maxLen /\ cs.length = len * ks.length /\ (∀ (q i : Nat) (k : IntKind),q < len -> ks[i]? = some k -> ∃ z : Int,cs[q * ks.length + i]? = some (.int k z) /\ (Lit.int k z).wf = true) /\ ∀ ρ,BlkRel ρ w l (.cells cs 0 true) := by
 obtain ⟨a,len,cap,rfl⟩ := WideShapes.okWide_slice ht hval
 obtain ⟨fuel,hfu⟩ := hd
 have hok : Cell.ok P w r b0 t (.slice a len cap) := by
  have := hval
  simp only [Value.okWide,ht,Cell.okWide] at this
  exact this
 rcases DataW.trod_slice ht hfu with ⟨h,_⟩ | ⟨a',len',cap',elems,rest,n',_,h,hx,_,hl,hmx,hlen,hel,_⟩
 ·simp [Value.cells] at h
  obtain ⟨rfl,rfl,rfl⟩ := h
  exact .inl rfl
 ·simp [Value.cells] at h
  obtain ⟨rfl,rfl,rfl⟩ := h
  obtain ⟨blk,off,spot⟩ := a'
  simp only [Cell.ok,ht] at hok
  obtain ⟨_,_,_,hsp,row,cells,hsh,_⟩ := hok
  simp only at hsp
  subst hsp
  obtain ⟨C,T,fz,hC⟩ : ∃ C T fz,w.heap[blk]? = some (.cells C T fz) := by
   unfold World.shape? at hsh
   simp only at hsh
   split at hsh
   ·rename_i c t f hh; exact ⟨_,_,_,hh⟩
   all_goals first | cases hsh | (simp at hsh)
  have hcell : ∀ (q i : Nat) (k : IntKind),q < len -> ks[i]? = some k -> ∃ z : Int,C[off + (q * ks.length + i)]? = some (.int k z) /\ (Lit.int k z).wf = true := by
   intro q i k hq hk
   have hi := (List.getElem?_eq_some_iff.1 hk).1
   have hee := hel q hq
   rw [hm,List.getElem?_eq_getElem (by omega)] at hee
   simp only [Option.bind_eq_some_iff] at hee
   obtain ⟨cs,h1,h2⟩ := hee
   obtain ⟨_,h3,h4⟩ := World.cells?_some h1
   obtain ⟨_,g2⟩ := (flat_trod n).1 _ _ _ _ _ hf h2
   obtain ⟨z,gz,gw⟩ := g2 i k hk
   refine ⟨z, ?_,gw⟩
   rw [<- gz,<- h4 i hi]
   have e3 : ((⟨blk,off,none⟩ : Addr).add (q * ks.length)).add i = ⟨blk,off + (q * ks.length + i),none⟩ := by
    rw [Addr.add_lit,Addr.add_lit,Nat.add_assoc]
   rw [e3]
   simp [World.cell?,hC]
  have hdiv : ∀ i,i < len * ks.length -> i / ks.length < len /\ i % ks.length < ks.length /\ i / ks.length * ks.length + i % ks.length = i := fun i hi => ⟨Nat.div_lt_of_lt_mul (by rw [Nat.mul_comm]; exact hi),Nat.mod_lt _ hm0,Nat.div_add_mod' i _⟩
  let X : List Value := (List.range (len * ks.length)).map fun i => (C[off + i]?).getD (.bool false)
  have hXi : ∀ (i : Nat),i < len * ks.length -> ∃ k z,C[off + i]? = some (.int k z) /\ X[i]? = some (.int k z) := by
   intro i hi
   obtain ⟨d1,d2,d3⟩ := hdiv i hi
   obtain ⟨z,gz,_⟩ := hcell _ _ _ d1 (List.getElem?_eq_getElem d2)
   rw [d3] at gz
   refine ⟨_,z,gz, ?_⟩
   simp only [X,List.getElem?_map,List.getElem?_range hi,Option.map_some,gz,Option.getD_some]
  have hXl : X.length = len * ks.length := by simp [X]
  obtain ⟨as,a1,a2,a3⟩ := ints_av X fun x hx => by
   obtain ⟨i,hi⟩ := List.mem_iff_getElem?.1 hx
   have hlt := (List.getElem?_eq_some_iff.1 hi).1
   obtain ⟨k,z,_,g⟩ := hXi i (by omega)
   rw [g] at hi; cases hi
   exact ⟨k,z,rfl⟩
  refine .inr ⟨⟨blk,off,cap⟩,len,cap,as,rfl,hl,hmx,by rw [a1,hXl],fun q i k hq hk => ?_,fun ρ => ⟨C,T,fz,X,hC,a2 ρ,fun i x hi => ?_,(fun h => by cases h),(fun h => by exact absurd rfl h)⟩⟩
  ·obtain ⟨z,gz,gw⟩ := hcell q i k hq hk
   have hi := (List.getElem?_eq_some_iff.1 hk).1
   have hlt : q * ks.length + i < len * ks.length := by
    have : q * ks.length + ks.length <= len * ks.length := by rw [<- Nat.succ_mul]; exact Nat.mul_le_mul_right _ hq
    omega
   obtain ⟨k',z',e1,e2⟩ := hXi _ hlt
   rw [gz] at e1; cases e1
   exact ⟨z,a3 _ _ _ e2,gw⟩
  ·have hlt := (List.getElem?_eq_some_iff.1 hi).1
   obtain ⟨k',z',e1,e2⟩ := hXi i (by omega)
   rw [e2] at hi; cases hi
   exact e1
theorem bytesAV : ∀ (c : List AV),(∀ i,i < c.length -> ∃ z : Int,c[i]? = some (.int .u8 z) /\ (Lit.int .u8 z).wf = true) -> ∃ ns : List Nat,ns.length = c.length /\ c = B ns /\ ∀ x ∈ ns,x < 256
 | [],_ => ⟨[],rfl,rfl,(fun _ h => by cases h)⟩
 | x :: c,h => by
  obtain ⟨z,h1,h2⟩ := h 0 (by simp)
  simp at h1
  subst h1
  obtain ⟨ns,g1,g2,g3⟩ := bytesAV c fun i hi => by simpa using h (i + 1) (by simp; omega)
  have hz : 0 <= z /\ z < 256 := by
   simp [Lit.wf,IntKind.min,IntKind.max,IntKind.signed,IntKind.bits] at h2
   omega
  refine ⟨z.toNat :: ns,by simp [g1], ?_,fun y hy => ?_⟩
  ·show AV.int .u8 z :: c = b8 z.toNat :: B ns
   rw [<- g2]
   congr 1
   show AV.int .u8 z = .int .u8 ((z.toNat % 256 : Nat) : Int)
   congr 1; omega
  ·rcases List.mem_cons.1 hy with rfl | hy
   ·omega
   ·exact g3 y hy
end Go.Aw
