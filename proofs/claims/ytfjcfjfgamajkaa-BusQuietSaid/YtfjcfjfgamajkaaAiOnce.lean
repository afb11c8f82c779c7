/- sync.Once within the interpreter. No program. No condition but those in the theorems. -/
import Derived.Test.YtfjcfjfgamajkaaAiM5
namespace Go.Ai
open Go
set_option linter.unusedSimpArgs false
variable {P : Program}

/-- sync.Once's Do: the cell 'done', behind it the lock's state -/
def onceG (call : CallK) (args : List AV) (h : Heap) : Option (AV × Heap) := match args with
  | [.ptr k off, .func (.func F) first cap] => h.getK k none fun b => (match b with
    | .cells cs _ _ => lget cs off none fun d => (match d with
      | .int .u32 d => (match ieq d 0 with
        | false => some (.tup [], h)
        | true => lget cs (off + 1) none fun s => (match s with
          | .int .i32 s => (match ieq s 0 with
            | true => storeCK h k (off + 1) [.int .i32 1] fun h1 => (match call F (first ++ cap) h1 with
              | some (_, h2) => h2.getK k none fun b2 => (match b2 with
                | .cells cs2 _ false => lget cs2 off none fun _ => lget cs2 (off + 1) none fun s2 => (match s2 with
                  | .int .i32 s2 => (match ieq s2 1 with
                    | true => storeCK h2 k off [.int .u32 1] fun h3 => storeCK h3 k (off + 1) [.int .i32 0] fun h4 => some (.tup [], h4)
                    | false => none)
                  | _ => none)
                | _ => none)
              | none => none)
            | false => none)
          | _ => none))
      | _ => none)
    | _ => none)
  | _ => none

/-- what is asked of the program's own text of Do -/
structure OnceOk (P : Program) (f : FuncId) : Prop where
  enter : ∀ xs w, (callFunc f xs).run P w = .ok (.enter f xs) w
  done : ∀ (a : Addr) (d : Int), ¬ d = 0 → ∀ (fv : Value) (w : World), w.cell? a = some (.int .u32 d) → Calls P f #[.pointer (some a), fv] w fun e w' => e = .returned (.tuple #[]) ∧ w' = w
  first : ∀ (b off F : Nat) (first cap : Array Value) (R : Value → World → Prop) (w : World), w.cell? ⟨b, off, none⟩ = some (.int .u32 0) → w.cell? ⟨b, off + 1, none⟩ = some (.int .i32 0) → w.frozen? ⟨b, off + 1, none⟩ = false →
    (∀ (o : Oper) (a : Act) (next : Act → World → Prop) (Q : Exit → Act → World → Prop), (∀ z w', R z w' → next (a.put o.dst z) w') → o.upon P a next Q ((callFunc F (first ++ cap)).run P (w.setCell ⟨b, off + 1, none⟩ (.int .i32 1)))) →
    (∀ z w', R z w' → (∃ x, w'.cell? ⟨b, off, none⟩ = some x) ∧ w'.cell? ⟨b, off + 1, none⟩ = some (.int .i32 1) ∧ w'.frozen? ⟨b, off, none⟩ = false ∧ w'.frozen? ⟨b, off + 1, none⟩ = false) →
    Calls P f #[.pointer (some ⟨b, off, none⟩), .func (.func F) first cap] w fun e w' => e = .returned (.tuple #[]) ∧
      ∃ z w₁, R z w₁ ∧ w' = (w₁.drew.setCell ⟨b, off, none⟩ (.int .u32 1)).setCell ⟨b, off + 1, none⟩ (.int .i32 0)

theorem frozen_no {ρ : Ren} {w : World} {l : Loc} {cs : List AV} {ext : Nat} (hb : BlkRel ρ w l (.cells cs ext false)) {off : Nat} {v : AV} (h : cs[off]? = some v) : w.frozen? ⟨l.blk, l.off + off, none⟩ = false := by
  obtain ⟨C, T, fz, ys, h1, h2, h3, h4, h5⟩ := hb
  obtain ⟨x, g1, g2⟩ := denL_get h2 h
  have := (Array.getElem?_eq_some_iff.1 (h3 _ _ g1)).1
  have h4 := h4 rfl
  simp only [World.frozen?, h1]
  simp; omega
theorem lput1_fwd {β : Type} {v : AV} (hv : isSc v = true) : ∀ {off : Nat} {l : List AV} {yes : List AV → Option β}, off < l.length → lput off [v] l none yes = yes (l.take off ++ [v] ++ l.drop (off + 1))
  | 0, [], _, h => by simp at h
  | 0, x :: xs, yes, h => by simp [lput, lover, hv]
  | off + 1, [], _, h => by simp at h
  | off + 1, x :: xs, yes, h => by
    simp only [lput]
    rw [lput1_fwd hv (by simpa using h)]
    simp
/-- one cell is stored -/
theorem store1 {ρ : Ren} {h : Heap} {w : World} (hr : HRel ρ h w) {k off : Nat} {v : AV} {l : Loc} (hl : ρ k = some l) {x : Value} (hx : v.den ρ = some x) (hv : isSc v = true)
    {cs : List AV} {ext : Nat} (hg : h.get k = some (.cells cs ext false)) {v0 : AV} (hc : cs[off]? = some v0) :
    ∃ h', (∀ {β : Type} (K : Heap → Option β), storeCK h k off [v] K = K h') ∧ Stp ρ h w ρ h' (w.setCell ⟨l.blk, l.off + off, none⟩ x) ∧ h'.get k = some (.cells (cs.take off ++ [v] ++ cs.drop (off + 1)) ext false) ∧ h'.next = h.next := by
  have hlt := (List.getElem?_eq_some_iff.1 hc).1
  have hfwd : ∀ {β : Type} (K : Heap → Option β), storeCK h k off [v] K = K (h.put k (some (.cells (cs.take off ++ [v] ++ cs.drop (off + 1)) ext false))) := by
    intro β K
    simp only [storeCK, hgetK_eq, hg]
    rw [lput1_fwd hv hlt, hputK_eq]
  refine ⟨_, hfwd, ?_, by rw [put_same], rfl⟩
  obtain ⟨h', w', e1, e2, e3⟩ := storeCK_sound (P := default) hr (hfwd some) hl (denL_cons.2 ⟨x, [], hx, denL_nil ρ, rfl⟩)
  cases e1
  obtain ⟨l', hl', hrel⟩ := hr.blk _ _ hg
  rw [hl] at hl'; cases hl'
  obtain ⟨y, _, hy⟩ := runCell hrel hc
  have hrun := run_storeCells_cells (P := default) l.blk (l.off + off) [x] 0 w
    (fun j hj => by
      have : j = 0 := by simpa using hj
      subst this
      simp [hy])
    (fun j hj => by
      have : j = 0 := by simpa using hj
      subst this
      simpa using frozen_no hrel hc) (by simpa using isSc_cell hv hx)
  rw [Nat.add_zero] at hrun
  rw [hrun] at e3
  cases e3
  exact e2

theorem once_ok {f : FuncId} (O : OnceOk P f) {call : CallK} (hcall : CallOk P call) : CallOk P fun f' args h => if f' = f then onceG call args h else none := by
  intro f' args h v h' hk ρ w xs hx hr o a next Q hn
  by_cases hf : f' = f
  case neg => simp [hf] at hk
  subst hf
  simp only [if_true] at hk
  unfold onceG at hk
  split at hk
  case h_2 => cases hk
  rename_i k off F first cap
  obtain ⟨x1, xs', hx1, hx2, rfl⟩ := denL_cons.1 hx
  obtain ⟨x2, xs'', hx3, hx4, rfl⟩ := denL_cons.1 hx2
  rw [denL_nil] at hx4; cases hx4
  obtain ⟨p, q, hp, hq, rfl⟩ := den_func hx3
  simp only [AV.den, Option.map_eq_some_iff] at hx1
  obtain ⟨l, hl, rfl⟩ := hx1
  rw [O.enter, Oper.upon_enter]
  obtain ⟨b, hb, hk⟩ := hget_some hk
  obtain ⟨l', hl', hrel⟩ := hr.blk _ _ hb
  rw [hl] at hl'; cases hl'
  split at hk
  case h_2 => cases hk
  rename_i cs ext ro
  obtain ⟨d, hd, hk⟩ := lget_some hk
  split at hk
  case h_2 => cases hk
  rename_i d
  obtain ⟨y, hy, hcell⟩ := runCell hrel hd
  simp only [AV.den, Option.some.injEq] at hy
  subst hy
  split at hk
  · rename_i hne
    cases hk
    refine (O.done ⟨l.blk, l.off + off, none⟩ d ?_ _ w hcell).mono ?_
    · intro e; subst e; simp [ieq] at hne
    rintro e w' ⟨rfl, rfl⟩
    exact hn ρ _ _ (Stp.refl hr) (by simp [AV.den, denL_nil])
  · rename_i heq
    have hd0 : d = 0 := by simpa [ieq_eq] using heq
    subst hd0
    obtain ⟨s, hs, hk⟩ := lget_some hk
    split at hk
    case h_2 => cases hk
    rename_i s
    obtain ⟨y, hy, hcell1⟩ := runCell hrel hs
    simp only [AV.den, Option.some.injEq] at hy
    subst hy
    split at hk
    case h_2 => cases hk
    rename_i hs0
    have hs0 : s = 0 := by simpa [ieq_eq] using hs0
    subst hs0
    cases ro with
    | true => simp [storeCK, hgetK_eq, hb] at hk
    | false =>
    obtain ⟨h1, e1, st1, g1, _⟩ := store1 hr hl (v := .int .i32 1) (x := .int .i32 1) (by simp [AV.den]) rfl hb hs
    rw [e1] at hk
    split at hk
    case h_2 => cases hk
    rename_i v2 h2 hcl
    obtain ⟨b2, hb2, hk⟩ := hget_some hk
    split at hk
    case h_2 => cases hk
    rename_i cs2 ext2
    obtain ⟨d2, hd2, hk⟩ := lget_some hk
    obtain ⟨s2, hs2, hk⟩ := lget_some hk
    split at hk
    case h_2 => cases hk
    rename_i s2
    split at hk
    case h_2 => cases hk
    rename_i hs1
    have hs1 : s2 = 1 := by simpa [ieq_eq] using hs1
    subst hs1
    refine (O.first l.blk (l.off + off) F p.toArray q.toArray (fun z w' => ∃ ρ', Stp ρ h w ρ' h2 w') w hcell hcell1 (frozen_no hrel hs) ?_ ?_).mono ?_
    · intro o a next Q hn
      have := hcall _ _ _ _ _ hcl ρ _ _ (denL_app hp hq) st1.rel o a next Q (fun ρ' z w' hst _ => hn z w' ⟨ρ', st1.trans hst⟩)
      simpa [Nat.add_assoc] using this
    · rintro z w' ⟨ρ', hst⟩
      obtain ⟨l2, hl2, hrel2⟩ := hst.rel.blk _ _ hb2
      rw [hst.ext _ _ hl] at hl2; cases hl2
      obtain ⟨y, hy, hc1⟩ := runCell hrel2 hd2
      obtain ⟨y', hy', hc2⟩ := runCell hrel2 hs2
      simp only [AV.den, Option.some.injEq] at hy'
      subst hy'
      exact ⟨⟨_, hc1⟩, hc2, frozen_no hrel2 hd2, frozen_no hrel2 hs2⟩
    · rintro e w' ⟨rfl, z, w₁, ⟨ρ', hst⟩, rfl⟩
      have hl2 := hst.ext _ _ hl
      obtain ⟨h3, e3, st3, g3, _⟩ := store1 (hst.rel.draw (w₁.drawn + 1)) hl2 (v := .int .u32 1) (x := .int .u32 1) (by simp [AV.den]) rfl hb2 hd2
      have hs3 : (cs2.take off ++ [AV.int .u32 1] ++ cs2.drop (off + 1))[off + 1]? = some (.int .i32 1) := by
        have hlt := (List.getElem?_eq_some_iff.1 hs2).1
        rw [List.getElem?_append_right (by simp; omega)]
        simp only [List.length_append, List.length_take, List.length_singleton]
        rw [show off + 1 - (min off cs2.length + 1) = 0 by omega, List.getElem?_drop]
        simpa using hs2
      obtain ⟨h4, e4, st4, g4, _⟩ := store1 st3.rel hl2 (v := .int .i32 0) (x := .int .i32 0) (by simp [AV.den]) rfl g3 hs3
      rw [e3, e4] at hk
      cases hk
      refine hn ρ' _ _ ((hst.trans (Stp.draw _ hst.rel)).trans (st3.trans st4)) (by simp [AV.den, denL_nil])
theorem enter_ok {f : FuncId} {fn : Func} (hf : P.funcs[f]? = some fn) (hn : (fn.name == "runtime.NumGoroutine") = false) (hb : fn.body.isSome = true) (xs : Array Value) (w : World) : (callFunc f xs).run P w = .ok (.enter f xs) w := by
  obtain ⟨c, hb⟩ := Option.isSome_iff_exists.1 hb
  have hn : fn.name ≠ "runtime.NumGoroutine" := by simpa using hn
  simp [callFunc, hf, hn, hb]
/-- a program, sync.Once's Do taken by its own law -/
noncomputable def Env.once (P : Program) (L f0 : Nat) : Env := { P := P, ora := fun f => match Nat.beq f f0 with | true => some onceG | false => none, L := L }
theorem Env.once_ok {P : Program} {L f0 : Nat} (O : OnceOk P f0) (hm : P.follows .mixedOrders = true) (h1 : (P.funcs.toList.all fun fn => !(fn.name == "runtime.NumGoroutine")) = true)
    (h2 : (P.funcs.toList.all fun fn => !(fn.name == "maps.clone") || fn.origin == "") = true) : (Env.once P L f0).Ok :=
  ⟨regionOk hm, names_ok h1, clone_ok h2, fun f g h call hc => by
    simp only [Env.once] at h
    split at h
    · rename_i hf
      cases h
      have := Nat.eq_of_beq_eq_true hf
      subst this
      exact Ai.once_ok O hc
    · cases h⟩
end Go.Ai
