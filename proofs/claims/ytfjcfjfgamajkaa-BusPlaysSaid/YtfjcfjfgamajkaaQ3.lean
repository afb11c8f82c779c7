/- Of this program, for all inputs: contracts. No condition but those in the theorems. -/
import Derived.Test.YtfjcfjfgamajkaaQ2
import Derived.Test.YtfjcfjfgamajkaaAwA
namespace Go.Proofs.Ytfjcfjfgamajkaa
open Go Go.Ai Go.Aw Go.Proofs Go.RowKit
set_option linter.unusedSimpArgs false
set_option linter.unusedVariables false
set_option maxRecDepth 10000
def actK : List IntKind := [.i64, .i64, .i64] ++ List.replicate 96 .u8
theorem actK_flat : flatK Try.prog 10 54 = some actK := by kernel_rfl
theorem actK_cells : Try.prog.cellsOf 54 = actK.length := by kernel_rfl
theorem B_app (a b : List Nat) : B (a ++ b) = B a ++ B b := by simp [B]
theorem act_of (c : List AV) (hl : c.length = 99) (hc : ∀ (i : Nat) (k : IntKind),actK[i]? = some k -> ∃ z : Int,c[i]? = some (.int k z) /\ (Lit.int k z).wf = true) : ∃ a : Act,a.ok /\ c = a.C := by
 obtain ⟨z0,e0,_⟩ := hc 0 .i64 rfl
 obtain ⟨z1,e1,_⟩ := hc 1 .i64 rfl
 obtain ⟨z2,e2,_⟩ := hc 2 .i64 rfl
 match c,hl,e0,e1,e2,hc with
 | a0 :: a1 :: a2 :: r,hl,e0,e1,e2,hc =>
  simp at e0 e1 e2 hl
  subst e0; subst e1; subst e2
  obtain ⟨ns,g1,g2,g3⟩ := bytesAV r fun i hi => by
   have hi' : i < 96 := by omega
   have : actK[i + 3]? = some .u8 := by
    show (List.replicate 96 IntKind.u8)[i]? = _
    rw [List.getElem?_replicate,if_pos hi']
   simpa using hc (i + 3) .u8 this
  refine ⟨⟨z0,z1,z2,ns.take 64,ns.drop 64⟩,⟨by simp; omega,by simp; omega⟩, ?_⟩
  show _ = _ :: _ :: _ :: (B (ns.take 64) ++ B (ns.drop 64))
  rw [g2]
  congr 3
  rw [<- B_app,List.take_append_drop]
theorem acts_arg {H : Type} {enc : TypeId × Value -> H} {w : World} {r : Reach} {b0 base : Nat} {sp : Nat -> Bool} {held : Bool} {v : Value} {d : DataW H} {ps : List MemPlace} {ρ : Ren} {h : Heap} (ro : RO ρ h w)
  (hval : Value.okWide Try.prog w r b0 48 v) (hd : DataW.Trod enc Try.prog w base sp held 48 v d ps) :
  ∃ ρ' h' av acts,Ext ρ ρ' /\ RO ρ' h' w /\ Keeps h h' /\ av.den ρ' = some v /\ ActsI h' av acts /\ ∀ a ∈ acts,a.ok := by
 rcases flat_slice Try.underlying48 actK_flat actK_cells (by decide) hval hd with rfl | ⟨l,len,cap,cs,rfl,_,_,hl,hc,hb⟩
 ·exact ⟨ρ,h, .nilslice,[],fun _ _ e => e,ro, .refl _,rfl, .inl ⟨rfl,rfl⟩,(fun _ h => by cases h)⟩
 ·obtain ⟨acts,g1,g2,g3⟩ := chunks Act.C Act.ok 99 _ act_of len cs hl fun q hq i k hk => by
   obtain ⟨z,gz,gw⟩ := hc q i k hq hk
   have hi : i < 99 := (List.getElem?_eq_some_iff.1 hk).1
   refine ⟨z, ?_,gw⟩
   rw [List.getElem?_take_of_lt hi,List.getElem?_drop]
   exact gz
  obtain ⟨x1,x2⟩ := ro.new (hb ρ)
  refine ⟨_,_, .slice h.next 0 len cap,acts,x2,x1,⟨Nat.le_succ _,fun j hj => new_ne _ _ (by omega)⟩,by simp [AV.den,Ren.add_same], .inr ⟨h.next,cap,true,by rw [g1],Nat.lt_succ_self _, ?_⟩,g2⟩
  rw [new_same,g3]; rfl
theorem ActsI.keep {h h' : Heap} {v : AV} {l : List Act} (x : ActsI h v l) (k : Keeps h h') : ActsI h' v l := by
 rcases x with x | ⟨q,n,ro,rfl,h1,h2⟩
 ·exact .inl x
 ·exact .inr ⟨q,n,ro,rfl,Nat.lt_of_lt_of_le h1 k.1,(k.2 _ h1).trans h2⟩
end Go.Proofs.Ytfjcfjfgamajkaa
