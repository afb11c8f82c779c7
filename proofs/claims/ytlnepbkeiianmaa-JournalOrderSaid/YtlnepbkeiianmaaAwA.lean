/- Of this program, for all inputs: contracts. No condition but those in the theorems. -/
import Derived.Test.YtlnepbkeiianmaaAwM3
import Derived.Test.YtlnepbkeiianmaaAiM5
import Derived.Carry
namespace Go.Aw
open Go Go.Ai Go.RowKit
set_option linter.unusedSimpArgs false
set_option linter.unusedVariables false
theorem calls_of {E : Env} (ok : E.Ok) {d : Nat} {f : FuncId} {fn : Func} (ho : E.ora f = none) (hf : E.P.funcs[f]? = some fn) (hb : fn.body.isSome = true) {avs : List AV} {xs : List Value} (hx : denL (fun _ => none) avs = some xs)
  {h' : Heap} (hk : callD E (d + 1) f avs ⟨0, .leaf⟩ = some (.bool true,h')) (w : World) : Calls E.P f xs.toArray w fun e w' => e = .returned (.bool true) /\ Below w.heap.size w w' := by
 obtain ⟨c,hb⟩ := Option.isSome_iff_exists.1 hb
 have hf : E.P.funcs.toList[f]? = some fn := by simpa using hf
 have := callD_body ok (callD_ok ok d) ho hf hb avs ⟨0, .leaf⟩ _ h' hk (fun _ => none) w xs hx (hrel_nil w)
 refine this.mono ?_
 rintro e w' ⟨ρ',z,he,hz,hs⟩
 simp only [AV.den,Option.some.injEq] at hz
 subst hz
 exact ⟨he,hs.os,hs.tape,hs.output,hs.size,fun k hk => hs.frm k hk own_nil⟩
def numV : Value -> Nat
 | .int _ n => n.toNat
 | _ => 0
theorem denL_B {ρ : Ren} : ∀ {cs : List Value},(∀ v ∈ cs,∃ n : Nat,n < 256 /\ v = .int .u8 (n : Int)) -> denL ρ (B (cs.map numV)) = some cs
 | [],_ => rfl
 | v :: cs,h => by
  obtain ⟨n,hn,rfl⟩ := h v (by simp)
  have ih := denL_B (ρ := ρ) (cs := cs) (fun v hv => h v (by simp [hv]))
  show denL ρ (b8 n :: B (cs.map numV)) = _
  rw [denL,ih]
  simp only [b8,AV.den,Nat.mod_eq_of_lt hn,Option.bind_some,Option.map_some]
theorem byte_of {P : Program} {w : World} {r : Reach} {base u : Nat} {v : Value} (hu : P.underlying u = some (.int .u8)) (h : Cell.okWide P w r base u v) : ∃ n : Nat,n < 256 /\ v = .int .u8 (n : Int) := by
 cases v <;> simp [Cell.okWide,Cell.ok,hu] at h
 obtain ⟨rfl,h⟩ := h
 rename_i n
 simp [IntKind.has,IntKind.min,IntKind.max,IntKind.signed,IntKind.bits] at h
 exact ⟨n.toNat,by omega,by rw [Int.toNat_of_nonneg (by omega)]⟩
theorem bytesS_of {P : Program} {w : World} {r : Reach} {base t m : Nat} {fs : Array Field} {ts : List Nat} (hu : P.underlying t = some (.struct fs)) (hc : P.cellsOf t = m) (hts : P.cellTypes P.depth t = some ts) (hall : ∀ u ∈ ts,P.underlying u = some (.int .u8)) {v : Value} (h : Value.okWide P w r base t v) :
  ∃ l : List Nat,l.length = m /\ (∀ i,l.getD i 0 < 256) /\ ∀ ρ : Ren,(AV.agg (B l)).den ρ = some v := by
 unfold Value.okWide at h
 rw [hu] at h
 obtain ⟨cs,rfl,hsz,ts',hts',_,hcell⟩ := h
 rw [hts] at hts'
 cases hts'
 have hv : ∀ v ∈ cs.toList,∃ n : Nat,n < 256 /\ v = .int .u8 (n : Int) := by
  intro v hv
  obtain ⟨i,hi,rfl⟩ := List.getElem_of_mem hv
  obtain ⟨u,hu,hc⟩ := hcell i cs.toList[i] (by simp at hi ⊢)
  exact byte_of (hall u (List.mem_of_getElem? hu)) hc
 refine ⟨cs.toList.map numV,by simp [hsz,hc],fun i => ?_,fun ρ => by rw [AV.den,denL_B hv]; rfl⟩
 rw [List.getD_eq_getElem?_getD,List.getElem?_map]
 cases hg : cs.toList[i]? with
 | none => simp
 | some v =>
  obtain ⟨n,hn,rfl⟩ := hv v (List.mem_of_getElem? hg)
  simpa [numV] using hn
def keysC (ka kb : List Nat) (n : Nat) : List AV := B ka ++ (B kb ++ [AV.int .u64 (n : Int)])
end Go.Aw
