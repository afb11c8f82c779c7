/- Of this program, for all inputs: contracts. No condition but those in the theorems. -/
import Derived.Test.YtfjcfjfgamajkaaU3
import Derived.Test.YtfjcfjfgamajkaaAwA
import Derived.SizedLaws
namespace Go.Proofs.Ytfjcfjfgamajkaa
open Go Go.Ai Go.Aw Go.Proofs
open Nat renaming reduceBEq -> uB,reduceEqDiff -> uE,reduceLT -> uL,reduceAdd -> uA,reduceMul -> uM,reduceSub -> uS,reduceAnd -> uN,reduceXor -> uX,reduceOr -> uO
open Int renaming reduceMod -> vR,reduceDiv -> vD,reduceLT -> vL,reduceLE -> vK,reduceEq -> vE,reduceAdd -> vA,reduceMul -> vM,reduceToNat -> vT,reduceSub -> vS
set_option linter.unusedSimpArgs false
set_option linter.unusedVariables false
set_option maxRecDepth 10000
theorem StA.len {h : Heap} {v : AV} {l : List Stp} (x : StA h v l) (hx : l = [] -> lenE Try.prog 43 v = some (.int .i64 0)) : lenE Try.prog 43 v = some (.int .i64 (l.length : Int)) := by
 rcases x with ⟨rfl,_⟩ | ⟨K,vs,junk,ext,ro,_,⟨n,rfl⟩ | rfl,_⟩
 ·exact hx rfl
 ·exact lns43 ..
 ·exact lne43 ..
theorem StA.len' {h : Heap} {v : AV} {l : List Stp} (x : StA h v l) : lenE Try.prog 43 v = some (.int .i64 (l.length : Int)) := x.len fun e => by
 rcases x with ⟨_,rfl | ⟨q,o,n,rfl⟩⟩ | ⟨K,vs,junk,ext,ro,h0,_⟩
 ·exact lnn43
 ·exact lns43 ..
 ·exact absurd e h0
theorem StA.okv {h : Heap} {v : AV} {l : List Stp} (x : StA h v l) : Aw.okv v = some v := by
 rcases x with ⟨_,rfl | ⟨q,o,n,rfl⟩⟩ | ⟨K,vs,junk,ext,ro,_,⟨n,rfl⟩ | rfl,_⟩ <;> rfl
def Late (l m : List Stp) (q : Nat) : Prop := m.length = l.length /\ ∀ (i : Nat) (s : Stp),m[i]? = some s -> s.data.length = 64 /\ (∃ t,l[i]? = some t /\ s.picks = t.picks) /\ (i < q -> s.tm = ((1000 + i : Nat) : Int))
theorem Late.zero {l : List Stp} (h : ∀ s ∈ l,s.data.length = 64) : Late l l 0 := ⟨rfl,fun i s hs => ⟨h s (List.mem_of_getElem? hs),⟨s,hs,rfl⟩,fun h => by omega⟩⟩
structure QI (st : List Stp) (b : BS) (S0 S1 : MS) (n : Nat) : Prop where
 w : b.wf
 st : b.steps = st
 off : b.off = false
 ms : b.ms = [S0,S1]
 m0 : S0.n = 4 /\ S0.marks = [] /\ S0.hurt = false /\ S0.lg.length <= n
 m1 : S1.n = 4 /\ S1.marks = [] /\ S1.hurt = false /\ S1.lg.length <= n
 lg : b.log.length <= n
open Go Go.Ai Go.Aw Go.Proofs Go.RowKit
def stpK : List IntKind := List.replicate 5 .i64 ++ List.replicate 64 .u8
theorem stp_shape : ∃ fs : Array Field,Try.prog.underlying 42 = some (.struct fs) /\ fieldsK Try.prog 20 (fs.toList.take 6) 0 = some stpK /\ ∃ f,fs.toList[6]? = some f /\ f.type = 40 /\ f.offset = 69 := ⟨_,Try.underlying42,by kernel_rfl,_,rfl,rfl,rfl⟩
theorem st_cells : Try.prog.cellsOf 42 = 70 := by kernel_rfl
theorem pk_cells : Try.prog.cellsOf 40 = 1 := by kernel_rfl
theorem byte_bytes : Try.prog.bytesOf 5 = 1 := by kernel_rfl
theorem st_of {H : Type} {enc : TypeId × Value -> H} {w : World} {base : Nat} {held : Bool} {fuel : Nat} {cs : List Value} {y : DataW H × List MemPlace}
  (hy : DataW.trod enc Try.prog w base (fun _ => true) held fuel 42 cs = some y) (hw : ∀ q ∈ y.1.weights Try.prog 42,q <= reachBytes) :
  ∃ (s : Stp) (al : List AV) (x : Value),s.data.length = 64 /\ (∀ u,s.C u = al ++ [u]) /\ (∀ ρ,denL ρ al = some (cs.take 69)) /\ al.length = 69 /\ cs = cs.take 69 ++ [x] /\ InB w x := by
 obtain ⟨fs,hfs,hfk,f6,g6,t6,o6⟩ := stp_shape
 obtain ⟨xs,n,_,hx,hlen,hxl,hel⟩ := DataW.trod_struct hfs hy
 rw [st_cells] at hlen
 have hi := (flat_trod (enc := enc) (P := Try.prog) (w := w) (base := base) (sp := fun _ => true) (held := held) 20).2 (fs.toList.take 6) 0 stpK cs hfk (by rw [hlen]; decide) (fun f hf => by
  obtain ⟨i,hi⟩ := List.mem_iff_getElem?.1 hf
  have hlt := (List.getElem?_eq_some_iff.1 hi).1
  rw [List.length_take] at hlt
  rw [List.getElem?_take_of_lt (by omega)] at hi
  have hfi : fs[i]? = some f := by simpa using hi
  have hlt2 : i < xs.length := by
   have := (Array.getElem?_eq_some_iff.1 hfi).1
   omega
  have := hel i f hfi
  rw [List.getElem?_eq_getElem hlt2] at this
  exact ⟨_,_,this⟩)
 rw [List.drop_zero] at hi
 have h69 : stpK.length = 69 := rfl
 rw [h69] at hi
 obtain ⟨hil,hig⟩ := hi
 rw [h69] at hil
 have h6 : fs[6]? = some f6 := by simpa using g6
 have hlt6 : 6 < xs.length := by
  have := (Array.getElem?_eq_some_iff.1 h6).1
  omega
 have e6 := hel 6 f6 h6
 rw [t6,o6,pk_cells,List.getElem?_eq_getElem hlt6] at e6
 obtain ⟨x,hx69⟩ : ∃ x,(cs.drop 69).take 1 = [x] := by
  have : ((cs.drop 69).take 1).length = 1 := by rw [List.length_take,List.length_drop]; omega
  exact List.length_eq_one_iff.1 this
 rw [hx69] at e6
 have hsplit : cs = cs.take 69 ++ [x] := by
  rw [<- hx69,List.take_of_length_le (l := cs.drop 69) (by rw [List.length_drop]; omega),List.take_append_drop]
 have hin : InB w x := in_bytes Try.underlying40 Try.underlying5 byteK_cells byte_bytes e6 fun q hq => hw q (by
  rw [hx]
  simp only [DataW.weights,hfs]
  exact DataW.weights_mem_each (j := 6) (by rw [List.getElem?_map,g6,Option.map_some,t6]) (by rw [List.getElem?_map,List.getElem?_eq_getElem hlt6,Option.map_some]) q hq)
 obtain ⟨al,a1,a2,a3⟩ := ints_av (cs.take 69) fun v hv => by
  obtain ⟨i,hi⟩ := List.mem_iff_getElem?.1 hv
  have hlt := (List.getElem?_eq_some_iff.1 hi).1
  obtain ⟨z,gz,_⟩ := hig i _ (List.getElem?_eq_getElem (by omega))
  rw [gz] at hi; cases hi
  exact ⟨_,z,rfl⟩
 rw [hil] at a1
 have hc : ∀ (i : Nat) (k : IntKind),stpK[i]? = some k -> ∃ z : Int,al[i]? = some (.int k z) /\ (Lit.int k z).wf = true := fun i k hk => by
  obtain ⟨z,gz,gw⟩ := hig i k hk
  exact ⟨z,a3 i k z gz,gw⟩
 obtain ⟨z0,q0,_⟩ := hc 0 .i64 rfl
 obtain ⟨z1,q1,_⟩ := hc 1 .i64 rfl
 obtain ⟨z2,q2,_⟩ := hc 2 .i64 rfl
 obtain ⟨z3,q3,_⟩ := hc 3 .i64 rfl
 obtain ⟨z4,q4,_⟩ := hc 4 .i64 rfl
 match al,a1,q0,q1,q2,q3,q4,hc,a2 with
 | b0 :: b1 :: b2 :: b3 :: b4 :: r,a1,q0,q1,q2,q3,q4,hc,a2 =>
  simp at q0 q1 q2 q3 q4 a1
  subst q0; subst q1; subst q2; subst q3; subst q4
  obtain ⟨ns,g1,g2,g3⟩ := bytesAV r fun i hi => by
   have hi' : i < 64 := by omega
   have : stpK[i + 5]? = some .u8 := by
    show (List.replicate 64 IntKind.u8)[i]? = _
    rw [List.getElem?_replicate,if_pos hi']
   simpa using hc (i + 5) .u8 this
  refine ⟨⟨z0,z1,z2,z3,z4,ns,[]⟩,_,x,by simp; omega,fun u => ?_,a2,by simp; omega,hsplit,hin⟩
  show [AV.int .i64 z0, .int .i64 z1, .int .i64 z2, .int .i64 z3, .int .i64 z4] ++ (B ns ++ [u]) = _
  rw [g2]
  rfl
theorem inb_new {w : World} {x : Value} (hx : InB w x) {ρ : Ren} {h : Heap} (ro : RO ρ h w) : ∃ ρ' h' u l,Ext ρ ρ' /\ RO ρ' h' w /\ Keeps h h' /\ AV.den ρ' u = some x /\ PickA h' u l /\ l.length <= 140737488351232 := by
 rcases hx with rfl | ⟨a,rfl⟩ | ⟨l,ns,rfl,hr,hb⟩
 ·exact ⟨ρ,h, .nilslice,[],fun _ _ e => e,ro, .refl _,rfl, .inl ⟨rfl, .inl rfl⟩,by decide⟩
 ·exact ⟨ρ,h, .zslice a,[],fun _ _ e => e,ro, .refl _,rfl, .inl ⟨rfl, .inr (.inr ⟨a,rfl⟩)⟩,by decide⟩
 ·obtain ⟨x1,x2⟩ := ro.new (hb ρ)
  refine ⟨_,_, .slice h.next 0 ns.length l.cap,ns,x2,x1,⟨Nat.le_succ _,fun j hj => new_ne _ _ (by omega)⟩,by simp [AV.den,Ren.add_same], ?_,hr⟩
  by_cases h0 : ns = []
  ·subst h0
   exact .inl ⟨rfl, .inr (.inl ⟨_,_,_,rfl⟩)⟩
  ·exact .inr ⟨h.next,0,l.cap,_,0,true,h0,rfl,Nat.lt_succ_self _,new_same _ _,cut_all (by simp [B_len])⟩
theorem zip_snoc {α : Type} {β : Type} {l : List α} {m : List β} (h : m.length = l.length) (a : α) (b : β) : (l ++ [a]).zip (m ++ [b]) = l.zip m ++ [(a,b)] := by
 rw [List.zip_append (by omega)]; rfl
theorem st_go {H : Type} {enc : TypeId × Value -> H} {w : World} {base blk off : Nat} {held : Bool} {fuel len : Nat} {C : Array Value} {T : TypeId} {fz : Nat × Nat} (hC : w.heap[blk]? = some (.cells C T fz))
  (hel : ∀ q,q < len -> ∃ cs y,w.cells? base ⟨blk,off + q * 70,none⟩ 70 = some cs /\ DataW.trod enc Try.prog w base (fun _ => true) held fuel 42 cs = some y /\ ∀ z ∈ y.1.weights Try.prog 42,z <= reachBytes)
  {ρ : Ren} {h : Heap} (ro : RO ρ h w) : ∀ n,n <= len -> ∃ (ρ' : Ren) (h' : Heap) (l : List Stp) (vs : List AV) (X : List Value),Ext ρ ρ' /\ RO ρ' h' w /\ Keeps h h' /\ l.length = n /\ vs.length = n /\ denL ρ' (stpsC (l.zip vs)) = some X /\ X.length = n * 70 /\ (∀ (i : Nat) (x : Value),X[i]? = some x -> C[off + i]? = some x) /\ (∀ s ∈ l,s.data.length = 64 /\ s.picks.length <= 140737488351232) /\ ∀ (i : Nat) (s : Stp) (u : AV),l[i]? = some s -> vs[i]? = some u -> PickA h' u s.picks
 | 0,_ => ⟨ρ,h,[],[],[],fun _ _ e => e,ro, .refl _,rfl,rfl,denL_nil _,rfl,(fun i x hi => by simp at hi),(fun _ hs => by cases hs),(fun i s u hi => by simp at hi)⟩
 | n + 1,hn => by
  obtain ⟨ρ1,h1,l,vs,X,e1,r1,k1,c1,c2,c3,c4,c5,c6,c7⟩ := st_go hC hel ro n (by omega)
  obtain ⟨cs,y,g1,g2,g3⟩ := hel n (by omega)
  obtain ⟨s,al,x,s1,s2,s3,s4,s5,s6⟩ := st_of g2 g3
  obtain ⟨ρ2,h2,u,p,e2,r2,k2,d2,p1,p2⟩ := inb_new s6 r1
  obtain ⟨_,g4,g5⟩ := World.cells?_some g1
  have hsC : ({ s with picks := p } : Stp).C u = al ++ [u] := s2 u
  refine ⟨ρ2,h2,l ++ [{ s with picks := p }],vs ++ [u],X ++ cs,fun k q hq => e2 _ _ (e1 _ _ hq),r2,k1.trans k2,by simp [c1],by simp [c2], ?_,by simp [c4,g4]; omega,fun i z hi => ?_,fun t ht => ?_,fun i t v hi hv => ?_⟩
  ·rw [zip_snoc (by omega)]
   show denL ρ2 ((l.zip vs ++ [(_,u)]).flatMap _) = _
   rw [List.flatMap_append]
   refine denL_app (denL_mono e2 _ _ c3) ?_
   show denL ρ2 (({ s with picks := p } : Stp).C u ++ []) = _
   rw [List.append_nil,hsC,s5]
   exact denL_app (s3 ρ2) (denL_cons.2 ⟨_,_,d2,denL_nil _,rfl⟩)
  ·by_cases hlt : i < X.length
   ·rw [List.getElem?_append_left hlt] at hi
    exact c5 i z hi
   ·rw [List.getElem?_append_right (by omega),c4] at hi
    have hlt2 := (List.getElem?_eq_some_iff.1 hi).1
    have := g5 (i - n * 70) (by omega)
    rw [hi,Addr.add_lit] at this
    have e9 : off + n * 70 + (i - n * 70) = off + i := by omega
    rw [e9] at this
    simpa [World.cell?,hC] using this
  ·rcases List.mem_append.1 ht with ht | ht
   ·exact c6 t ht
   ·simp only [List.mem_cons,List.not_mem_nil,or_false] at ht
    subst ht
    exact ⟨s1,p2⟩
  ·by_cases hlt : i < n
   ·rw [List.getElem?_append_left (by omega)] at hi hv
    exact (c7 i t v hi hv).keep k2
   ·rw [List.getElem?_append_right (by omega)] at hi hv
    rw [c1] at hi; rw [c2] at hv
    have : i - n = 0 := by
     have := (List.getElem?_eq_some_iff.1 hi).1
     simp at this; omega
    rw [this] at hi hv
    simp at hi hv
    subst hi; subst hv
    exact p1
theorem st_arg {H : Type} {enc : TypeId × Value -> H} {w : World} {r : Reach} {b0 base : Nat} {held : Bool} {v : Value} {d : DataW H} {ps : List MemPlace} {ρ : Ren} {h : Heap} (ro : RO ρ h w)
  (hval : Value.okWide Try.prog w r b0 43 v) (hd : DataW.Trod enc Try.prog w base (fun _ => true) held 43 v d ps) (hw : ∀ q ∈ d.weights Try.prog 43,q <= reachBytes) :
  ∃ ρ' h' av l,Ext ρ ρ' /\ RO ρ' h' w /\ Keeps h h' /\ av.den ρ' = some v /\ StA h' av l /\ ∀ s ∈ l,s.data.length = 64 /\ s.picks.length <= 140737488351232 := by
 have ht := Try.underlying43
 obtain ⟨a,len,cap,rfl⟩ := WideShapes.okWide_slice ht hval
 obtain ⟨fuel,hfu⟩ := hd
 have hok : Cell.ok Try.prog w r b0 43 (.slice a len cap) := by
  have := hval
  simp only [Value.okWide,ht,Cell.okWide] at this
  exact this
 rcases DataW.trod_slice ht hfu with ⟨h,_⟩ | ⟨a',len',cap',elems,rest,n',_,h,hx,_,hl,hmx,hlen,hel,_⟩
 ·simp [Value.cells] at h
  obtain ⟨rfl,rfl,rfl⟩ := h
  exact ⟨ρ,_, .nilslice,[],fun _ _ e => e,ro, .refl _,rfl, .inl ⟨rfl, .inl rfl⟩,(fun _ h => by cases h)⟩
 ·simp [Value.cells] at h
  obtain ⟨rfl,rfl,rfl⟩ := h
  obtain ⟨blk,off,spot⟩ := a'
  simp only [Cell.ok,ht] at hok
  obtain ⟨_,_,_,hsp,row,cells,hsh,_⟩ := hok
  simp only at hsp
  subst hsp
  obtain ⟨C,T,fz,hC⟩ : ∃ C T fz,w.heap[blk]? = some (.cells C T fz) := by
   unfold World.shape? at hsh
   simp only at hsh
   split at hsh
   ·rename_i c t f hh; exact ⟨_,_,_,hh⟩
   all_goals first | cases hsh | (simp at hsh)
  have hg : ∀ q,q < len -> ∃ cs y,w.cells? base ⟨blk,off + q * 70,none⟩ 70 = some cs /\ DataW.trod enc Try.prog w base (fun _ => true) held n' 42 cs = some y /\ ∀ z ∈ y.1.weights Try.prog 42,z <= reachBytes := by
   intro q hq
   have hee := hel q hq
   rw [st_cells,List.getElem?_eq_getElem (by omega),Addr.add_lit] at hee
   simp only [Option.bind_eq_some_iff] at hee
   obtain ⟨cs,h1,h2⟩ := hee
   refine ⟨cs,_,h1,h2,fun z hz => hw z ?_⟩
   have hd : d = .slice (elems.map (·.1)) (rest.map (·.1)) := congrArg Prod.fst hx
   rw [hd]
   simp only [DataW.weights,ht]
   refine List.mem_cons_of_mem _ (List.mem_append_left _ ?_)
   have wa : ∀ (ds : List (DataW H)) (e : DataW H),e ∈ ds -> z ∈ e.weights Try.prog 42 -> z ∈ DataW.weightsAll Try.prog 42 ds := by
    intro ds
    induction ds with
    | nil => intro e he; cases he
    | cons d0 ds ih =>
     intro e he hz
     simp only [DataW.weightsAll]
     rcases List.mem_cons.1 he with rfl | he
     ·exact List.mem_append_left _ hz
     ·exact List.mem_append_right _ (ih e he hz)
   exact wa _ _ (List.mem_map.2 ⟨_,List.getElem_mem (by omega),rfl⟩) hz
  obtain ⟨ρ1,h1,l,vs,X,e1,r1,k1,c1,c2,c3,c4,c5,c6,c7⟩ := st_go hC hg ro len (Nat.le_refl _)
  obtain ⟨x1,x2⟩ := r1.new (l := ⟨blk,off,cap⟩) (cs := stpsC (l.zip vs)) ⟨C,T,fz,X,hC,c3,c5,(fun h => by cases h),(fun h => by exact absurd rfl h)⟩
  have k2 : Keeps h1 (h1.new (.cells (stpsC (l.zip vs)) 0 true)) := ⟨Nat.le_succ _,fun j hj => new_ne _ _ (by omega)⟩
  refine ⟨_,_, .slice h1.next 0 len cap,l,fun k q hq => x2 _ _ (e1 _ _ hq),x1,k1.trans k2,by simp [AV.den,Ren.add_same], ?_,c6⟩
  by_cases h0 : l = []
  ·subst h0
   obtain rfl : len = 0 := by simpa using c1.symm
   exact .inl ⟨rfl, .inr ⟨_,_,_,rfl⟩⟩
  ·exact .inr ⟨h1.next,vs,[],0,true,h0, .inl ⟨cap,by rw [c1]⟩,Nat.lt_succ_self _,by omega,by rw [new_same,List.append_nil],fun i s u hi hv => (c7 i s u hi hv).keep k2⟩
end Go.Proofs.Ytfjcfjfgamajkaa
