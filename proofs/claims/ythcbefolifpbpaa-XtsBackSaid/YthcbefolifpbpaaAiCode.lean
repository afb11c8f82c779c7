import Derived.Test.YthcbefolifpbpaaAiStep
import Derived.LoopN
import Derived.Eval
namespace Go.Ai
open Go
set_option linter.unusedSimpArgs false
variable {P : Program} {β : Type}

/-- a region in the order of its text -/
theorem opsK_sound {call : CallK} (hcall : CallOk P call) {n : Nat} {ops : Array Oper} {Q : Exit → Act → World → Prop} {r : β} {K : Fr → Heap → Option β} {ds : List Deferred} {ρ₀ : Ren} {h₀ : Heap} {w₀ : World} :
    ∀ (l : List Oper) (k : Nat), (∀ j, l[j]? = ops[k + j]?) → ∀ {ρ : Ren} {fr : Fr} {h : Heap} {a : Act} {w : World}, FRel ρ n fr a → a.defers = ds → Stp ρ₀ h₀ w₀ ρ h w → opsK P call n ops l fr h K = some r →
      (∀ ρ' fr' h' a' w', FRel ρ' n fr' a' → a'.defers = ds → Stp ρ₀ h₀ w₀ ρ' h' w' → K fr' h' = some r → Q .normal a' w') → wpOps P ops Q (List.range' k l.length) a w := by
  intro l
  induction l with
  | nil => intro k _ ρ fr h a w hf hd hs hk hq; exact hq _ _ _ _ _ hf hd hs hk
  | cons o rest ih =>
    intro k hl ρ fr h a w hf hd hs hk hq
    have ho : ops[k]? = some o := by have := hl 0; simpa using this.symm
    have hrest : ∀ j, rest[j]? = ops[k + 1 + j]? := fun j => by have := hl (j + 1); simpa [Nat.add_assoc, Nat.add_comm 1 j] using this
    rw [List.length_cons, List.range'_succ, wpOps_cons]
    simp only [wpOp, ho]
    simp only [opsK, wantA_eq hf ops o] at hk
    cases hw : Region.wanted o (yielded ops a.tmps) with
    | true =>
      simp only [hw] at hk
      simp only [if_true]
      obtain ⟨v, h', hk, hstep⟩ := opK_sound hcall hf.orel hs.rel hk
      refine .inl (hstep _ _ fun ρ' z w' hst hz => ?_)
      obtain ⟨fr', hk, hf'⟩ := putK_sound (hf.mono hst.ext) hz hk
      exact ih (k + 1) hrest hf' (by rw [← hd]; cases o.dst <;> rfl) (hs.trans hst) hk hq
    | false =>
      simp only [hw] at hk
      simp only [Bool.false_eq_true, if_false]
      obtain ⟨fr', hk, hf'⟩ := putK_sound hf (undef_den ρ) hk
      exact ih (k + 1) hrest hf' (by rw [← hd]; cases o.dst <;> rfl) hs hk hq

def RegionOk (P : Program) : Prop := ∀ {β : Type} {call : CallK}, CallOk P call → ∀ {n : Nat} {ops : Array Oper} {id : Nat} {Q : Exit → Act → World → Prop} {r : β} {K : Fr → Heap → Option β} {ρ : Ren} {fr : Fr} {h : Heap} {a : Act} {w : World},
    FRel ρ n fr a → HRel ρ h w → drawOk P ops = true → regionK P call n ops true fr h K = some r →
      (∀ ρ' fr' h' a' w', FRel ρ' n fr' a' → a'.defers = a.defers → Stp ρ h w ρ' h' w' → K fr' h' = some r → Q .normal a' w') → (Code.region id ops true).wp P Q a w

def toExit : Ex → Exit
  | .normal => .normal
  | .exit id => .exit id
  | .ret => .ret
theorem codeK_sound (hreg : RegionOk P) {call : CallK} (hcall : CallOk P call) {L n : Nat} : ∀ (c : Code) {Q : Exit → Act → World → Prop} {r : β} {K : Ex → Fr → Heap → Option β} {ρ : Ren} {fr : Fr} {h : Heap} {a : Act} {w : World},
    FRel ρ n fr a → HRel ρ h w → codeK P call L n c fr h K = some r →
      (∀ e ρ' fr' h' a' w', FRel ρ' n fr' a' → a'.defers = a.defers → Stp ρ h w ρ' h' w' → K e fr' h' = some r → Q (toExit e) a' w') → c.wp P Q a w := by
  intro c
  induction c with
  | skip => intro Q r K ρ fr h a w hf hr hk hq; exact wp_skip (hq .normal _ _ _ _ _ hf rfl (Stp.refl hr) hk)
  | label l => intro Q r K ρ fr h a w hf hr hk hq; exact wp_label (hq .normal _ _ _ _ _ hf rfl (Stp.refl hr) hk)
  | ret => intro Q r K ρ fr h a w hf hr hk hq; exact wp_ret (hq .ret _ _ _ _ _ hf rfl (Stp.refl hr) hk)
  | exit id => intro Q r K ρ fr h a w hf hr hk hq; exact wp_exit (hq (.exit id) _ _ _ _ _ hf rfl (Stp.refl hr) hk)
  | region id ops draw =>
    intro Q r K ρ fr h a w hf hr hk hq
    simp only [codeK] at hk
    cases draw with
    | false =>
      refine wp_region ?_
      have := opsK_sound (P := P) (Q := Q) hcall ops.toList 0 (fun j => by simp) hf rfl (Stp.refl hr) hk (fun ρ' fr' h' a' w' g1 g2 g3 g4 => hq .normal _ _ _ _ _ g1 g2 g3 g4)
      rwa [Array.length_toList, ← List.range_eq_range'] at this
    | true =>
      have hd : drawOk P ops = true := by
        cases hd : drawOk P ops with
        | true => rfl
        | false => simp [regionK, hd] at hk
      exact hreg hcall hf hr hd hk (fun ρ' fr' h' a' w' g1 g2 g3 g4 => hq .normal _ _ _ _ _ g1 g2 g3 g4)
  | seq x y ihx ihy =>
    intro Q r K ρ fr h a w hf hr hk hq
    simp only [codeK] at hk
    refine wp_seq (ihx hf hr hk fun e ρ' fr' h' a' w' g1 g2 g3 g4 => ?_)
    cases e with
    | normal => exact ihy g1 g3.rel g4 fun e ρ'' fr'' h'' a'' w'' q1 q2 q3 q4 => hq e _ _ _ _ _ q1 (q2.trans g2) (g3.trans q3) q4
    | exit id => exact hq (.exit id) _ _ _ _ _ g1 g2 g3 g4
    | ret => exact hq .ret _ _ _ _ _ g1 g2 g3 g4
  | cond c x y ihx ihy =>
    intro Q r K ρ fr h a w hf hr hk hq
    simp only [codeK] at hk
    split at hk
    · rename_i hc
      exact wp_cond_true (den_bool (hf.orel.of hc (by simp))) (ihx hf hr hk hq)
    · rename_i hc
      exact wp_cond_false (den_bool (hf.orel.of hc (by simp))) (ihy hf hr hk hq)
    · cases hk
  | block id c ih =>
    intro Q r K ρ fr h a w hf hr hk hq
    simp only [codeK] at hk
    refine wp_block (ih hf hr hk fun e ρ' fr' h' a' w' g1 g2 g3 g4 => ?_)
    cases e with
    | normal => exact hq .normal _ _ _ _ _ g1 g2 g3 g4
    | ret => exact hq .ret _ _ _ _ _ g1 g2 g3 g4
    | exit j =>
      simp only at g4
      simp only [toExit, Exit.inBlock]
      split at g4
      · rename_i hj
        rw [if_pos (Nat.eq_of_beq_eq_true hj)]
        exact hq .normal _ _ _ _ _ g1 g2 g3 g4
      · rename_i hj
        rw [if_neg (Nat.ne_of_beq_eq_false hj)]
        exact hq (.exit j) _ _ _ _ _ g1 g2 g3 g4
  | loop c ih =>
    intro Q r K ρ fr h a w hf hr hk hq
    simp only [codeK] at hk
    refine wp_loop_rounds L ?_
    have key : ∀ (m : Nat) {ρ' : Ren} {fr' : Fr} {h' : Heap} {a' : Act} {w' : World}, FRel ρ' n fr' a' → a'.defers = a.defers → Stp ρ h w ρ' h' w' → iterK (fun fr h K => codeK P call L n c fr h K) m fr' h' K = some r → Code.rounds P c Q m a' w' := by
      intro m
      induction m with
      | zero => intro ρ' fr' h' a' w' g1 g2 g3 g4; simp [iterK] at g4
      | succ m ihm =>
        intro ρ' fr' h' a' w' g1 g2 g3 g4
        simp only [iterK] at g4
        rw [rounds_succ]
        refine ih g1 g3.rel g4 fun e ρ'' fr'' h'' a'' w'' q1 q2 q3 q4 => ?_
        cases e with
        | normal => exact ihm q1 (q2.trans g2) (g3.trans q3) q4
        | exit id => exact hq (.exit id) _ _ _ _ _ q1 (q2.trans g2) (g3.trans q3) q4
        | ret => exact hq .ret _ _ _ _ _ q1 (q2.trans g2) (g3.trans q3) q4
    exact key L hf rfl (Stp.refl hr) hk
  | scope c ih =>
    intro Q r K ρ fr h a w hf hr hk hq
    simp only [codeK] at hk
    refine wp_scope_straight (ih hf hr hk fun e ρ' fr' h' a' w' g1 g2 g3 g4 => ?_)
    cases e with
    | normal => exact hq .normal _ _ _ _ _ g1 g2 g3 g4
    | ret => exact hq .ret _ _ _ _ _ g1 g2 g3 g4
    | exit j => exact hq (.exit j) _ _ _ _ _ g1 g2 g3 g4
  | rangeFunc f ps x y => intro Q r K ρ fr h a w hf hr hk hq; simp [codeK] at hk
  | goto l => intro Q r K ρ fr h a w hf hr hk hq; simp [codeK] at hk
  | refuse s => intro Q r K ρ fr h a w hf hr hk hq; simp [codeK] at hk

/-! calls -/
theorem enterK_sound {ρ : Ren} {n : Nat} : ∀ (vs : List AV) (xs : List Value) (i : Nat) (fr : Fr) (pre : List Value) {K : Fr → Option β} {r : β}, denL ρ vs = some xs → pre.length = i → i + vs.length ≤ n →
    (∀ t : Nat, (fr.eval (.tmp t)).den ρ = some (((pre ++ List.replicate (n - pre.length) undef))[t]?.getD undef)) → enterK i vs fr K = some r →
    ∃ fr', K fr' = some r ∧ FRel ρ n fr' { tmps := (pre ++ xs).toArray ++ Array.replicate (n - (pre ++ xs).length) undef, defers := [] }
  | [], xs, i, fr, pre, K, r, hx, hp, hn, hf, hk => by
    rw [denL_nil] at hx; cases hx
    refine ⟨fr, hk, by simp; omega, fun t => ?_⟩
    rw [hf t]
    simp only [List.append_nil]
    rw [Array.getD_eq_getD_getElem?]
    congr 2
    have : (pre.toArray ++ Array.replicate (n - pre.length) undef) = (pre ++ List.replicate (n - pre.length) undef).toArray := by
      apply Array.ext'; simp
    rw [this]; simp
  | v :: vs, xs, i, fr, pre, K, r, hx, hp, hn, hf, hk => by
    obtain ⟨y, ys, h1, h2, rfl⟩ := denL_cons.1 hx
    simp only [enterK, setK_eq] at hk
    simp only [List.length_cons] at hn
    obtain ⟨fr', g1, g2⟩ := enterK_sound (ρ := ρ) (n := n) vs ys (i + 1) _ (pre ++ [y]) h2 (by simp [hp]) (by omega) (fun t => by
      by_cases ht : t = i
      · subst ht
        rw [eval_tmp, get_set_same]
        simp [h1, ← hp]
      · rw [eval_tmp, get_set_ne _ (fun e => ht (pth_inj e)), ← eval_tmp, hf t]
        congr 2
        by_cases hlt : t < pre.length
        · rw [List.append_assoc, List.getElem?_append_left hlt, List.getElem?_append_left hlt]
        · have e1 : List.replicate (n - pre.length) undef = undef :: List.replicate (n - (pre ++ [y]).length) undef := by
            rw [show n - pre.length = (n - (pre ++ [y]).length) + 1 by simp; omega, List.replicate_succ]
          rw [e1, List.append_assoc, List.getElem?_append_right (by omega), List.getElem?_append_right (by omega)]
          have : t - pre.length ≠ 0 := by omega
          obtain ⟨m, hm⟩ : ∃ m, t - pre.length = m + 1 := ⟨t - pre.length - 1, by omega⟩
          rw [hm]; simp) hk
    refine ⟨fr', g1, ?_⟩
    simpa using g2
theorem resK_sound {ρ : Ren} {n : Nat} {fr : Fr} {a : Act} (hf : FRel ρ n fr a) {h : Heap} {w : World} (hr : HRel ρ h w) : ∀ (rs : List ResultVar) {K : List AV → Option β} {r : β}, resK P fr h rs K = some r →
    ∃ vs xs, K vs = some r ∧ denL ρ vs = some xs ∧ (rs.mapM (m := Sem) fun
      | .tmp t => pure (a.tmps.getD t undef)
      | .cell p t => do loadVar t (← asAddr (a.tmps.getD p undef))).run P w = .ok xs w
  | [], K, r, hk => ⟨[], [], hk, denL_nil ρ, rfl⟩
  | .tmp t :: rs, K, r, hk => by
    obtain ⟨h1, h2⟩ := fK_some hk
    obtain ⟨vs, xs, g1, g2, g3⟩ := resK_sound hf hr rs h2
    exact ⟨_, _, g1, denL_cons.2 ⟨_, _, hf.den t, g2, rfl⟩, by simp only [List.mapM_cons, Sem.run_bind, Sem.run_pure, Result.andThen_ok, g3]⟩
  | .cell p t :: rs, K, r, hk => by
    simp only [resK] at hk
    obtain ⟨v, y, h1, h2, h3, b, hb, h4⟩ := loadK_sound (P := P) hr hk (hf.den p)
    obtain ⟨vs, xs, g1, g2, g3⟩ := resK_sound hf hr rs h1
    have ha : (asAddr (a.tmps.getD p undef)).run P w = .ok b w := by rw [hb]; rfl
    exact ⟨_, _, g1, denL_cons.2 ⟨_, _, h2, g2, rfl⟩, by simp only [List.mapM_cons, Sem.run_bind, Sem.run_pure, Result.andThen_ok, g3, ha, h4]⟩
/-- what is asked of the program itself, once -/
structure Env.Ok (E : Env) : Prop where
  reg : RegionOk E.P
  names : ∀ fn ∈ E.P.funcs.toList, fn.name ≠ "runtime.NumGoroutine"
  clone : ∀ fn ∈ E.P.funcs.toList, fn.name = "maps.clone" → fn.body = none → Extern.findNext fn = none ∧ Extern.find fn = some Extern.MapsClone.clone
  ora : ∀ f g, E.ora f = some g → ∀ call, CallOk E.P call → CallOk E.P fun f' args h => if f' = f then g call args h else none
/-- what a call of a function with a body comes to -/
def CallsOk (P : Program) (call : CallK) (f : FuncId) : Prop := ∀ (args : List AV) (h : Heap) (v : AV) (h' : Heap), call f args h = some (v, h') →
  ∀ (ρ : Ren) (w : World) (xs : List Value), denL ρ args = some xs → HRel ρ h w → Calls P f xs.toArray w fun e w' => ∃ ρ' z, e = .returned z ∧ v.den ρ' = some z ∧ Stp ρ h w ρ' h' w'
theorem callD_body {E : Env} (ok : E.Ok) {d : Nat} (ih : CallOk E.P (callD E d)) {f : FuncId} {fn : Func} {c : Code} (ho : E.ora f = none) (hf : E.P.funcs.toList[f]? = some fn) (hb : fn.body = some c) : CallsOk E.P (callD E (d + 1)) f := by
  intro args h v h' hk ρ w xs hx hr
  simp only [callD, ho, hf, hb, llen_eq, Nat.zero_add] at hk
  split at hk
  · rename_i hle
    have hle := Nat.le_of_ble_eq_true hle
    have hlen := denL_len hx
    obtain ⟨fr, hk, hfr⟩ := enterK_sound (ρ := ρ) (n := fn.ntmps) args xs 0 .leaf [] hx rfl (by omega) (fun t => by
      rw [eval_tmp]
      simp only [get_leaf, Option.getD_none, undef_den, List.nil_append, List.length_nil, Nat.sub_zero]
      congr 1
      by_cases ht : t < fn.ntmps
      · simp [ht]
      · rw [List.getElem?_eq_none (by simp; omega)]; rfl) hk
    have hf' : E.P.funcs[f]? = some fn := by simpa using hf
    refine calls_of_wp hf' hb ?_
    simp only [List.nil_append] at hfr
    have hsz : xs.toArray.size = xs.length := by simp
    rw [hsz]
    refine codeK_sound ok.reg ih c hfr hr hk fun e ρ' fr' h₁ a' w' g1 g2 g3 g4 => ?_
    have fin : ∀ (vs : List AV) (K : List AV → Option (AV × Heap)), (resK E.P fr' h₁ fn.results.toList fun vs => (match vs with | [v] => some (v, h₁) | vs => some (.tup vs, h₁))) = some (v, h') →
        a'.defers = [] ∧ ∃ z, (results fn a'.tmps).run E.P w' = .ok z w' ∧ ∃ ρ'' z', Ending.returned z = .returned z' ∧ v.den ρ'' = some z' ∧ Stp ρ h w ρ'' h' w' := by
      intro _ _ hres
      obtain ⟨vs, ys, q1, q2, q3⟩ := resK_sound (P := E.P) g1 g3.rel fn.results.toList hres
      have hm : (fn.results.mapM (m := Sem) fun
          | .tmp t => pure (a'.tmps.getD t undef)
          | .cell p t => do loadVar t (← asAddr (a'.tmps.getD p undef))).run E.P w' = .ok ys.toArray w' := by
        rw [Array.mapM_eq_mapM_toList, Sem.run_map, q3]
        rfl
      refine ⟨g2, ?_⟩
      have hly := denL_len q2
      split at q1
      · rename_i u
        cases q1
        obtain ⟨y, ys', r1, r2, rfl⟩ := denL_cons.1 q2
        rw [denL_nil] at r2; cases r2
        refine ⟨y, ?_, ρ', y, rfl, r1, g3⟩
        have he : results fn a'.tmps = (do
            let vs ← fn.results.mapM (m := Sem) fun
              | .tmp t => pure (a'.tmps.getD t undef)
              | .cell p t => do loadVar t (← asAddr (a'.tmps.getD p undef))
            pure (if h : vs.size = 1 then vs[0] else .tuple vs)) := rfl
        rw [he]
        simp only [Sem.run_bind, hm, Result.andThen_ok, Sem.run_pure]
        simp
      · rename_i hno
        cases q1
        refine ⟨.tuple ys.toArray, ?_, ρ', _, rfl, by simp [AV.den, q2], g3⟩
        have he : results fn a'.tmps = (do
            let vs ← fn.results.mapM (m := Sem) fun
              | .tmp t => pure (a'.tmps.getD t undef)
              | .cell p t => do loadVar t (← asAddr (a'.tmps.getD p undef))
            pure (if h : vs.size = 1 then vs[0] else .tuple vs)) := rfl
        rw [he]
        simp only [Sem.run_bind, hm, Result.andThen_ok, Sem.run_pure]
        have : ¬ ys.toArray.size = 1 := by
          intro c1
          have c1 : ys.length = 1 := by simpa using c1
          rw [hly] at c1
          obtain ⟨u, rfl⟩ := List.length_eq_one_iff.1 c1
          exact hno u rfl
        rw [dif_neg this]
    cases e with
    | exit id => cases g4
    | normal => exact fin [] (fun _ => none) g4
    | ret => exact fin [] (fun _ => none) g4
  · cases hk
theorem externD_some {name : String} {args : List AV} {h : Heap} {v : AV} {h' : Heap} (hk : externD name args h = some (v, h')) :
    name = "maps.clone" ∧ ∃ t r es ro, args = [.iface t (.map r)] ∧ h.get r = some (.map es ro) ∧ v = .iface t (.map h.next) ∧ h' = h.new (.map es false) := by
  unfold externD at hk
  split at hk
  · rename_i t r
    split at hk
    · rename_i hn
      obtain ⟨b, hb, hk⟩ := hget_some hk
      split at hk
      · rename_i es ro
        rw [hnewK_eq] at hk
        cases hk
        exact ⟨by simpa using hn, t, r, es, ro, rfl, hb, rfl, rfl⟩
      · cases hk
    · cases hk
  · cases hk
theorem callD_ok {E : Env} (ok : E.Ok) : ∀ d, CallOk E.P (callD E d) := by
  intro d
  induction d with
  | zero => intro f args h v h' hk; cases hk
  | succ d ih =>
    intro f args h v h' hk ρ w xs hx hr o a next Q hn
    cases ho : E.ora f with
    | some g =>
      have hk' : g (callD E d) args h = some (v, h') := by simpa [callD, ho] using hk
      exact ok.ora f g ho (callD E d) ih f args h v h' (by simpa using hk') ρ w xs hx hr o a next Q hn
    | none =>
      cases hf : E.P.funcs.toList[f]? with
      | none => simp [callD, ho, hf] at hk
      | some fn =>
        have hf' : E.P.funcs[f]? = some fn := by simpa using hf
        have hmem : fn ∈ E.P.funcs.toList := List.mem_of_getElem? hf
        have hname : (fn.name == "runtime.NumGoroutine") = false := by simpa using ok.names fn hmem
        cases hb : fn.body with
        | some c =>
          have hrun : (callFunc f xs.toArray).run E.P w = .ok (.enter f xs.toArray) w := by
            simp [callFunc, hf', ok.names fn hmem, hb]
          rw [hrun, Oper.upon_enter]
          refine (callD_body ok ih ho hf hb args h v h' hk ρ w xs hx hr).mono ?_
          rintro e w' ⟨ρ', z, rfl, hz, hst⟩
          exact hn _ _ _ hst hz
        | none =>
          have hk' : externD fn.name args h = some (v, h') := by simpa [callD, ho, hf, hb] using hk
          obtain ⟨hnm, t, r, es, ro, rfl, hg, rfl, rfl⟩ := externD_some hk'
          obtain ⟨c1, c2⟩ := ok.clone fn hmem hnm hb
          obtain ⟨l, hl, E', cl, g1, g2⟩ := hr.blk _ _ hg
          obtain ⟨x, xs', h1, h2, rfl⟩ := denL_cons.1 hx
          rw [denL_nil] at h2; cases h2
          obtain ⟨y, hy, rfl⟩ := den_iface h1
          obtain ⟨l', hl', rfl⟩ := den_mapv hy
          rw [hl] at hl'; cases hl'
          have hgo : (getObj l.blk).run E.P w = .ok (.map E' cl) w := by simp [getObj, Sem.run, g1]
          have hcl : Extern.MapsClone.clone #[.iface t (.map (some l.blk))] = (do
              let .map entries clock ← getObj l.blk | stuck "maps.clone: a map expected"
              pure (.iface t (.map (some (← newObj (.map entries clock)))))) := rfl
          have hrun : (callFunc f #[.iface t (.map (some l.blk))]).run E.P w = .ok (.value (.iface t (.map (some w.heap.size)))) { w with heap := w.heap.push (.map E' cl) } := by
            simp only [callFunc, Sem.run_bind, run_program, Result.andThen_ok, hf', hname, Bool.false_eq_true, if_false, hb, Option.isNone_none, if_true, run_mark, c1, c2, hcl, hgo, Sem.run_pure, run_newObj]
          rw [show ([Value.iface t (.map (some l.blk))]).toArray = #[.iface t (.map (some l.blk))] from rfl, hrun]
          simp only [Oper.upon]
          have hadd : (ρ.add h.next ⟨w.heap.size, 0, 0⟩) h.next = some ⟨w.heap.size, 0, 0⟩ := Ren.add_same _ _ _
          refine hn (ρ.add h.next ⟨w.heap.size, 0, 0⟩) _ { w with heap := w.heap.push (.map E' cl) } (Stp.new (w' := { w with heap := w.heap.push (.map E' cl) }) (o := .map E' cl) hr rfl rfl rfl rfl 0 ?_) (by simp [AV.den, hadd])
          exact ⟨E', cl, by simp, g2.mono (Ren.ext_add _ (hr.new _ (Nat.le_refl _)))⟩
end Go.Ai
