/- Runs with arguments; arrays of bytes as arguments. No program. No condition but those in the theorems. -/
import Derived.Test.YtfjcfjfgamajkaaAwM3
import Derived.Test.YtfjcfjfgamajkaaAiM5
import Derived.Carry
namespace Go.Aw
open Go Go.Ai Go.RowKit
set_option linter.unusedSimpArgs false
set_option linter.unusedVariables false
/-- what a run with arguments comes to, in every world -/
theorem calls_of {E : Env} (ok : E.Ok) {d : Nat} {f : FuncId} {fn : Func} (ho : E.ora f = none) (hf : E.P.funcs[f]? = some fn) (hb : fn.body.isSome = true) {avs : List AV} {xs : List Value} (hx : denL (fun _ => none) avs = some xs)
    {h' : Heap} (hk : callD E (d + 1) f avs ⟨0, .leaf⟩ = some (.bool true, h')) (w : World) : Calls E.P f xs.toArray w fun e w' => e = .returned (.bool true) ∧ Below w.heap.size w w' := by
  obtain ⟨c, hb⟩ := Option.isSome_iff_exists.1 hb
  have hf : E.P.funcs.toList[f]? = some fn := by simpa using hf
  have := callD_body ok (callD_ok ok d) ho hf hb avs ⟨0, .leaf⟩ _ h' hk (fun _ => none) w xs hx (hrel_nil w)
  refine this.mono ?_
  rintro e w' ⟨ρ', z, he, hz, hs⟩
  simp only [AV.den, Option.some.injEq] at hz
  subst hz
  exact ⟨he, hs.os, hs.tape, hs.output, hs.size, fun k hk => hs.frm k hk own_nil⟩
def numV : Value → Nat
  | .int _ n => n.toNat
  | _ => 0
theorem denL_B {ρ : Ren} : ∀ {cs : List Value}, (∀ v ∈ cs, ∃ n : Nat, n < 256 ∧ v = .int .u8 (n : Int)) → denL ρ (B (cs.map numV)) = some cs
  | [], _ => rfl
  | v :: cs, h => by
    obtain ⟨n, hn, rfl⟩ := h v (by simp)
    have ih := denL_B (ρ := ρ) (cs := cs) (fun v hv => h v (by simp [hv]))
    show denL ρ (b8 n :: B (cs.map numV)) = _
    rw [denL, ih]
    simp only [b8, AV.den, Nat.mod_eq_of_lt hn, Option.bind_some, Option.map_some]
theorem byte_of {P : Program} {w : World} {r : Reach} {base u : Nat} {v : Value} (hu : P.underlying u = some (.int .u8)) (h : Cell.okWide P w r base u v) : ∃ n : Nat, n < 256 ∧ v = .int .u8 (n : Int) := by
  cases v <;> simp [Cell.okWide, Cell.ok, hu] at h
  obtain ⟨rfl, h⟩ := h
  rename_i n
  simp [IntKind.has, IntKind.min, IntKind.max, IntKind.signed, IntKind.bits] at h
  exact ⟨n.toNat, by omega, by rw [Int.toNat_of_nonneg (by omega)]⟩
/-- an array of bytes -/
theorem bytes_of {P : Program} {w : World} {r : Reach} {base t n m e : Nat} {ts : List Nat} (hu : P.underlying t = some (.array n e)) (hc : P.cellsOf t = m) (hts : P.cellTypes P.depth t = some ts) (hall : ∀ u ∈ ts, P.underlying u = some (.int .u8)) {v : Value} (h : Value.okWide P w r base t v) :
    ∃ l : List Nat, l.length = m ∧ (∀ i, l.getD i 0 < 256) ∧ ∀ ρ : Ren, (AV.agg (B l)).den ρ = some v := by
  unfold Value.okWide at h
  rw [hu] at h
  obtain ⟨cs, rfl, hsz, ts', hts', _, hcell⟩ := h
  rw [hts] at hts'
  cases hts'
  have hv : ∀ v ∈ cs.toList, ∃ n : Nat, n < 256 ∧ v = .int .u8 (n : Int) := by
    intro v hv
    obtain ⟨i, hi, rfl⟩ := List.getElem_of_mem hv
    obtain ⟨u, hu, hc⟩ := hcell i cs.toList[i] (by simp at hi ⊢)
    exact byte_of (hall u (List.mem_of_getElem? hu)) hc
  refine ⟨cs.toList.map numV, by simp [hsz, hc], fun i => ?_, fun ρ => by rw [AV.den, denL_B hv]; rfl⟩
  rw [List.getD_eq_getElem?_getD, List.getElem?_map]
  cases hg : cs.toList[i]? with
  | none => simp
  | some v =>
    obtain ⟨n, hn, rfl⟩ := hv v (List.mem_of_getElem? hg)
    simpa [numV] using hn
/-- a struct of bytes alone -/
theorem bytesS_of {P : Program} {w : World} {r : Reach} {base t m : Nat} {fs : Array Field} {ts : List Nat} (hu : P.underlying t = some (.struct fs)) (hc : P.cellsOf t = m) (hts : P.cellTypes P.depth t = some ts) (hall : ∀ u ∈ ts, P.underlying u = some (.int .u8)) {v : Value} (h : Value.okWide P w r base t v) :
    ∃ l : List Nat, l.length = m ∧ (∀ i, l.getD i 0 < 256) ∧ ∀ ρ : Ren, (AV.agg (B l)).den ρ = some v := by
  unfold Value.okWide at h
  rw [hu] at h
  obtain ⟨cs, rfl, hsz, ts', hts', _, hcell⟩ := h
  rw [hts] at hts'
  cases hts'
  have hv : ∀ v ∈ cs.toList, ∃ n : Nat, n < 256 ∧ v = .int .u8 (n : Int) := by
    intro v hv
    obtain ⟨i, hi, rfl⟩ := List.getElem_of_mem hv
    obtain ⟨u, hu, hc⟩ := hcell i cs.toList[i] (by simp at hi ⊢)
    exact byte_of (hall u (List.mem_of_getElem? hu)) hc
  refine ⟨cs.toList.map numV, by simp [hsz, hc], fun i => ?_, fun ρ => by rw [AV.den, denL_B hv]; rfl⟩
  rw [List.getD_eq_getElem?_getD, List.getElem?_map]
  cases hg : cs.toList[i]? with
  | none => simp
  | some v =>
    obtain ⟨n, hn, rfl⟩ := hv v (List.mem_of_getElem? hg)
    simpa [numV] using hn
theorem u64_of {P : Program} {w : World} {r : Reach} {base u : Nat} {v : Value} (hu : P.underlying u = some (.int .u64)) (h : Cell.okWide P w r base u v) : ∃ n : Nat, n < 18446744073709551616 ∧ v = .int .u64 (n : Int) := by
  cases v <;> simp [Cell.okWide, Cell.ok, hu] at h
  obtain ⟨rfl, h⟩ := h
  rename_i n
  simp [IntKind.has, IntKind.min, IntKind.max, IntKind.signed, IntKind.bits] at h
  exact ⟨n.toNat, by omega, by rw [Int.toNat_of_nonneg (by omega)]⟩
def keysC (ka kb : List Nat) (n : Nat) : List AV := B ka ++ (B kb ++ [AV.int .u64 (n : Int)])
/-- two keys and a number -/
theorem keys_of {P : Program} {w : World} {r : Reach} {base t b q : Nat} {fs : Array Field} (hu : P.underlying t = some (.struct fs)) (hc : P.cellsOf t = 65) (hts : P.cellTypes P.depth t = some (List.replicate 64 b ++ [q])) (hb : P.underlying b = some (.int .u8)) (hq : P.underlying q = some (.int .u64)) {v : Value} (h : Value.okWide P w r base t v) :
    ∃ (ka kb : List Nat) (n : Nat), ka.length = 32 ∧ kb.length = 32 ∧ n < 18446744073709551616 ∧ ∀ ρ : Ren, (AV.agg (keysC ka kb n)).den ρ = some v := by
  unfold Value.okWide at h
  rw [hu] at h
  obtain ⟨cs, rfl, hsz, ts', hts', _, hcell⟩ := h
  rw [hts] at hts'
  cases hts'
  have hl : cs.toList.length = 65 := by simp [hsz, hc]
  have hv : ∀ i v, i < 64 → cs.toList[i]? = some v → ∃ n : Nat, n < 256 ∧ v = .int .u8 (n : Int) := by
    intro i v hi hv
    obtain ⟨u, hu, hc⟩ := hcell i v (by simpa using hv)
    rw [show i % (List.replicate 64 b ++ [q]).length = i from Nat.mod_eq_of_lt (by simp; omega), List.getElem?_append_left (by rw [List.length_replicate]; exact hi), List.getElem?_replicate, if_pos hi] at hu
    cases hu
    exact byte_of hb hc
  obtain ⟨x, hx⟩ : ∃ x, cs.toList[64]? = some x := ⟨cs.toList[64]'(by omega), List.getElem?_eq_getElem _⟩
  obtain ⟨n, hn, rfl⟩ : ∃ n : Nat, n < 18446744073709551616 ∧ x = .int .u64 (n : Int) := by
    obtain ⟨u, hu, hc⟩ := hcell 64 x (by simpa using hx)
    rw [show 64 % (List.replicate 64 b ++ [q]).length = 64 from Nat.mod_eq_of_lt (by simp), List.getElem?_append_right (by rw [List.length_replicate]; omega)] at hu
    simp at hu
    subst hu
    exact u64_of hq hc
  have e : cs.toList = cs.toList.take 32 ++ ((cs.toList.drop 32).take 32 ++ [.int .u64 (n : Int)]) := by
    have e1 : cs.toList.drop 64 = [.int .u64 (n : Int)] := by
      rw [List.drop_eq_getElem_cons (by omega), List.drop_of_length_le (by omega)]
      rw [List.getElem?_eq_getElem (by omega)] at hx
      simpa using hx
    rw [← e1, show (64 : Nat) = 32 + 32 from rfl, ← List.drop_drop, List.take_append_drop, List.take_append_drop]
  refine ⟨(cs.toList.take 32).map numV, ((cs.toList.drop 32).take 32).map numV, n, by simp [hl], by simp [hl], hn, fun ρ => ?_⟩
  have d1 : denL ρ (B ((cs.toList.take 32).map numV)) = some (cs.toList.take 32) := denL_B fun v hm => by
    obtain ⟨i, hi⟩ := List.mem_iff_getElem?.1 hm
    rw [List.getElem?_take] at hi
    split at hi
    · exact hv i v (by omega) hi
    · cases hi
  have d2 : denL ρ (B (((cs.toList.drop 32).take 32).map numV)) = some ((cs.toList.drop 32).take 32) := denL_B fun v hm => by
    obtain ⟨i, hi⟩ := List.mem_iff_getElem?.1 hm
    rw [List.getElem?_take] at hi
    split at hi
    · rw [List.getElem?_drop] at hi
      exact hv (32 + i) v (by omega) hi
    · cases hi
  have d3 : denL ρ (keysC ((cs.toList.take 32).map numV) (((cs.toList.drop 32).take 32).map numV) n) = some cs.toList := by
    rw [keysC, denL_app d1 (denL_app d2 (denL_cons.2 ⟨_, _, rfl, denL_nil ρ, rfl⟩)), ← e]
  rw [AV.den, d3]; rfl
end Go.Aw
