/- The compiled interpreter is the interpreter. No program. No condition but those in the theorems. -/
import Derived.Test.YtfjcfjfgamajkaaAcM1
namespace Go.Ac
open Go Go.Ai
set_option linter.unusedSimpArgs false
variable {P : Program}

theorem asCells_eq (b : Blk) (F : List AV → Nat → Bool → OR) : asCells b F = match b with | .cells cs ext ro => F cs ext ro | .map _ _ => none := by cases b <;> rfl
theorem cRead_eq (o : Oper) (hc : cls P o = .r ∨ ∃ t x, o.op = .load t x) (call : CallK) (fr : Fr) (h : Heap) (K : AV → Heap → OR) : (cRead P o).f call fr h K = readK P fr.eval o h fun v => K v h := by
  have slow : (cSlow P o).f call fr h K = readK P fr.eval o h fun v => K v h := by
    rw [slow_eq]
    rcases hc with hc | ⟨t, x, hop⟩
    · simp only [opK, hc]
    · simp only [opK, cls, hop]
  unfold cRead
  cases hop : o.op
  case load t x =>
    have gen : readK P fr.eval o h (fun v => K v h) = (fr.eval x).okK fun a => loadK P h t a fun v => K v h := by
      unfold readK; simp only [hop]
    simp only
    split
    · rename_i d hd
      split
      · rename_i ha
        split
        · rename_i i hi
          rw [fNO_eq, ev1_eq, gen]
          rcases asPtr_cases (fr.eval x) none (fun k off => hG h k fun b => asCells b fun cs _ _ => lcutC off i.size cs fun r => K (.agg r) h) with ⟨k, off, hx, e⟩ | ⟨e, hn⟩ <;> rw [e]
          · rw [hx, hG_eq]
            simp only [AV.okK, loadK, unK, hd, ha, szK, hi, fN_eq']
            congr 1
            funext b
            rw [asCells_eq]
            cases b with
            | cells cs ext ro => exact lcutC_eq _ _ _ _
            | map es ro => rfl
          · cases hx : fr.eval x <;> first | rfl | (exact absurd hx (hn _ _))
        · exact slow
      · rename_i ha
        rw [ev1_eq, gen]
        rcases asPtr_cases (fr.eval x) none (fun k off => hG h k fun b => asCells b fun cs _ _ => lgetC off cs fun v => K v h) with ⟨k, off, hx, e⟩ | ⟨e, hn⟩ <;> rw [e]
        · rw [hx, hG_eq]
          simp only [AV.okK, loadK, unK, hd, ha]
          congr 1
          funext b
          rw [asCells_eq]
          cases b with
          | cells cs ext ro => exact lgetC_eq _ _ _
          | map es ro => rfl
        · cases hx : fr.eval x <;> first | rfl | (exact absurd hx (hn _ _))
    · exact slow
  all_goals rfl
theorem fKb_eq {β : Type} (x : AV) (K : AV → Option β) : x.fK K = if avBad x = true then none else K x := by
  cases x <;> simp only [AV.fK, fN_eq', fI_eq', fB_eq'] <;> rfl
/-- what a forced constant is -/
theorem fSs_form : ∀ (vs : List Value), (∃ xs, ∀ {β : Type} (K : List AV → Option β), fSs vs K = K xs) ∨ ∀ {β : Type} (K : List AV → Option β), fSs vs K = none
  | [] => .inl ⟨[], fun _ => rfl⟩
  | v :: vs => by
    cases hb : avBad (ofS v) with
    | true => exact .inr fun K => by simp [fSs, fKb_eq, hb]
    | false =>
      rcases fSs_form vs with ⟨xs, h⟩ | h
      · exact .inl ⟨ofS v :: xs, fun K => by simp [fSs, fKb_eq, hb, h]⟩
      · exact .inr fun K => by simp [fSs, fKb_eq, hb, h]
theorem fV_form (v : Value) : (∃ x, ∀ {β : Type} (K : AV → Option β), fV v K = K x) ∨ ∀ {β : Type} (K : AV → Option β), fV v K = none := by
  generalize hw : v = w
  have gen : ∀ x : AV, (∃ y, ∀ {β : Type} (K : AV → Option β), x.fK K = K y) ∨ ∀ {β : Type} (K : AV → Option β), x.fK K = none := by
    intro x
    cases hb : avBad x with
    | true => exact .inr fun K => by simp [fKb_eq, hb]
    | false => exact .inl ⟨x, fun K => by simp [fKb_eq, hb]⟩
  have sc : (∀ {β : Type} (K : AV → Option β), fV w K = (ofS w).fK K) → (∃ x, ∀ {β : Type} (K : AV → Option β), fV w K = K x) ∨ ∀ {β : Type} (K : AV → Option β), fV w K = none := by
    intro h
    rcases gen (ofS w) with ⟨y, g⟩ | g
    · exact .inl ⟨y, fun K => (h K).trans (g K)⟩
    · exact .inr fun K => (h K).trans (g K)
  clear hw
  cases w
  case agg cs =>
    rcases fSs_form cs.toList with ⟨xs, h⟩ | h
    · exact .inl ⟨.agg xs, fun K => by simp only [fV]; exact h _⟩
    · exact .inr fun K => by simp only [fV]; exact h _
  case tuple cs =>
    by_cases hs : cs.size = 0
    · exact .inl ⟨.tup [], fun K => by simp [fV, hs]⟩
    · exact .inr fun K => by simp [fV, hs]
  all_goals exact sc fun _ => rfl
theorem zeroK_form (t : TypeId) : (∃ x, ∀ {β : Type} (K : AV → Option β), zeroK P t K = K x) ∨ ∀ {β : Type} (K : AV → Option β), zeroK P t K = none := by
  cases hi : P.info? t with
  | none => exact .inr fun K => by simp [zeroK, hi]
  | some i =>
    cases hz : i.zero with
    | none => exact .inr fun K => by simp [zeroK, hi, hz]
    | some v =>
      rcases fV_form v with ⟨x, h⟩ | h
      · exact .inl ⟨x, fun K => by simp only [zeroK, hi, hz]; exact h K⟩
      · exact .inr fun K => by simp only [zeroK, hi, hz]; exact h K
theorem cellsK_eq {β : Type} (v : AV) (K : List AV → β) : v.cellsK K = K v.cells := by cases v <;> rfl
theorem cNew_eq (o : Oper) (call : CallK) (fr : Fr) (h : Heap) (K : AV → Heap → OR) : (cNew P o).f call fr h K = allocK P fr.eval o fun b mk => h.newK b fun k h => (mk k).fK fun v => K v h := by
  unfold cNew
  cases hop : o.op
  case alloc t =>
    unfold allocK
    simp only [hop]
    rcases zeroK_form (P := P) t with ⟨x, hx⟩ | hx
    · rw [hx, hx]
      simp only [cellsK_eq, OpV.f]
      rw [hN_eq]
      congr 1
      funext k h
      rw [fK_eq]; rfl
    · rw [hx, hx]; rfl
  case box t x =>
    unfold allocK
    simp only [hop, ev1_eq, fK_eq]
    congr 1
    rcases asAgg_cases (fr.eval x) (hN h (.cells [fr.eval x] 0 false) fun k h => K (.ptr k 0) h) (fun cs => hN h (.cells cs 0 false) fun k h => K (.ptr k 0) h) with ⟨cs, hx, e⟩ | ⟨e, hn⟩ <;> rw [e]
    · rw [hx, hN_eq]; rfl
    · rw [hN_eq]
      have : (fr.eval x).cells = [fr.eval x] := by
        cases hx : fr.eval x <;> first | rfl | exact absurd hx (hn _)
      rw [cellsK_eq, this]; rfl
  all_goals (simp only [OpV.f]; congr 1; funext b mk; exact hN_eq _ _ _)
theorem thenOpt_eq (r : OR) (K : AV → Heap → OR) : (Option.rec none (fun p => Prod.rec (fun v h => K v h) p) r : OR) = match r with | some (v, h) => K v h | none => none := by
  cases r <;> rfl
theorem cEff_eq (o : Oper) (call : CallK) (hc : cls P o = .e) (fr : Fr) (h : Heap) (K : AV → Heap → OR) : (cEff P o).f call fr h K = effK P call fr.eval o h K := by
  have slow : (cSlow P o).f call fr h K = effK P call fr.eval o h K := by rw [slow_eq]; simp only [opK, hc]
  unfold cEff
  cases hop : o.op
  case store t a x =>
    simp only
    split
    · rename_i i hi
      rw [fNO_eq, ev2_eq]
      unfold effK
      simp only [hop, fK_eq]
      congr 1
      rw [okK_eq]
      rcases asPtr_cases (fr.eval a) none (fun k off => ifC (avSc (fr.eval x)) (ifC (Nat.beq i.size 1) (hG h k fun b => asCells b fun cs ext ro => ifC ro none (lput1C off (fr.eval x) cs fun cs => hS h k (.cells cs ext false) fun h => K undefA h)) none)
          (asAggC (fr.eval x) (storeK P h t (.ptr k off) (fr.eval x) fun h => K undefA h) fun vs => llenC vs 0 fun m => ifC (Nat.beq i.size m)
            (List.rec (K undefA h) (fun _ _ _ => hG h k fun b => asCells b fun cs ext ro => ifC ro none (lputC off vs cs fun cs => hS h k (.cells cs ext false) fun h => K undefA h)) vs) none)) with ⟨k, off, ha, e⟩ | ⟨e, hn⟩ <;> rw [e]
      · rw [ha]
        show _ = ifC false none _
        rw [ifC_false]
        have hst : storeK P h t (.ptr k off) (fr.eval x) (fun h => K undefA h) = (fr.eval x).cellsK fun cs => llen cs 0 fun m => match Nat.beq i.size m with
            | true => storeCK h k off cs fun h => K undefA h
            | false => none := by
          simp only [storeK, szK, hi, fN_eq']
          rfl
        have body : ∀ (b : Blk) (vs : List AV), (asCells b fun cs ext ro => ifC ro none (lputC off vs cs fun cs => hS h k (.cells cs ext false) fun h => K undefA h)) = match b with
            | .cells cs ext false => lput off vs cs none fun cs => h.putK k (.cells cs ext false) fun h => K undefA h
            | _ => none := by
          intro b vs
          cases b with
          | map es ro => rfl
          | cells cs ext ro =>
            cases ro with
            | true => rfl
            | false =>
              show lputC off vs cs _ = lput off vs cs none _
              rw [lputC_eq]
              congr 1
              funext cs
              exact hS_eq _ _ _ _
        cases hsc : avSc (fr.eval x) with
        | true =>
          rw [ifC_true, hst]
          have hcell : (fr.eval x).cells = [fr.eval x] := by
            cases hx : fr.eval x <;> first | rfl | (rw [hx] at hsc; cases hsc)
          rw [cellsK_eq, hcell, ifC_eq]
          simp only [llen, fN_eq', Nat.zero_add]
          cases hb : Nat.beq i.size 1 with
          | false => simp
          | true =>
            simp only [if_true, storeCK]
            rw [hG_eq]
            congr 1
            funext b
            refine Eq.trans ?_ (body b [fr.eval x])
            congr 1
            funext cs ext ro
            congr 1
            rw [avSc_eq] at hsc
            rw [lput1C_eq _ _ _ _ hsc, lputC_eq]
        | false =>
          rw [ifC_false]
          rcases asAgg_cases (fr.eval x) (storeK P h t (.ptr k off) (fr.eval x) fun h => K undefA h) (fun vs => llenC vs 0 fun m => ifC (Nat.beq i.size m)
            (List.rec (K undefA h) (fun _ _ _ => hG h k fun b => asCells b fun cs ext ro => ifC ro none (lputC off vs cs fun cs => hS h k (.cells cs ext false) fun h => K undefA h)) vs) none) with ⟨cs, hx, e⟩ | ⟨e, _⟩ <;> rw [e]
          rw [hst, hx, llenC_eq]
          show _ = llen cs 0 _
          congr 1
          funext m
          rw [ifC_eq]
          cases hb : Nat.beq i.size m with
          | false => simp
          | true =>
            simp only [if_true]
            cases cs with
            | nil => rfl
            | cons v vs =>
              show hG h k _ = _
              simp only [storeCK]
              rw [hG_eq]
              congr 1
              funext b
              exact body b _
      · cases hx : fr.eval a <;> first | rfl | (exact absurd hx (hn _ _))
    · rw [← slow]
  case call c =>
    simp only
    cases hcal : c.callee with
    | value f =>
      have hg := fun K => cArgs_eq c.args.toList fr K
      have he := fun K => cEv_eq f fr K
      have fin : ∀ (f' : FuncId) (vs : List AV), (Option.rec none (fun p => Prod.rec (fun v h => K v h) p) (call f' vs h) : OR) = match call f' vs h with | some (v, h) => K v h | none => none := fun f' vs => thenOpt_eq _ _
      have gen : effK P call fr.eval o h K = fArgs fr.eval c.args.toList fun vs => (fr.eval f).okK fun fv => (match fv with
        | .func (.func f) first cap => lapp first vs fun vs => lapp vs cap fun vs => (match call f vs h with | some (v, h) => K v h | none => none)
        | _ => none) := by
        unfold effK; simp only [hop, hcal]; rfl
      rw [gen]
      have lapp_nil : ∀ (l : List AV) (K : List AV → OR), lapp l [] K = K l := by
        intro l K; simp [lapp_eq]
      have dyn : (Evs.rec (fun g => Ev.rec (fun e => OpV.mk fun call fr h K => g fr fun vs => e fr fun fv => (match fv with
        | .func (.func f) first cap => lappC first vs fun vs => lappC vs cap fun vs => Option.rec none (fun p => Prod.rec (fun v h => K v h) p) (call f vs h)
        | _ => none)) (cEv f)) (cArgs c.args.toList) : OpV).f call fr h K = fArgs fr.eval c.args.toList fun vs => (fr.eval f).okK fun fv => (match fv with
        | .func (.func f) first cap => lapp first vs fun vs => lapp vs cap fun vs => (match call f vs h with | some (v, h) => K v h | none => none)
        | _ => none) := by
        cases h1 : cArgs c.args.toList with
        | mk g =>
          cases h2 : cEv f with
          | mk e =>
            rw [h1] at hg; rw [h2] at he
            simp only [Evs.f, Ev.f] at hg he
            simp only [OpV.f, hg, he, lappC_eq, fin]
            congr 1
            funext vs
            cases fr.eval f <;> rfl
      cases f
      case func f =>
        simp only
        cases h1 : cArgs c.args.toList with
        | mk g =>
          rw [h1] at hg
          simp only [Evs.f] at hg
          simp only [OpV.f, hg, fin, Fr.eval, AV.okK, lapp_nil]
          rfl
      all_goals (simp only; exact dyn)
    | builtin b => rfl
    | invoke r m => rfl
  all_goals rfl
theorem cOp_eq (o : Oper) (call : CallK) (fr : Fr) (h : Heap) (K : AV → Heap → OR) : (cOp P o).f call fr h K = opK P call fr.eval o h K := by
  unfold cOp opK
  cases hc : cls P o with
  | p => simp only; exact cPure_eq o hc call fr h K
  | r => simp only; exact cRead_eq o (.inl hc) call fr h K
  | a => simp only; exact cNew_eq o call fr h K
  | e => simp only; exact cEff_eq o call hc fr h K
end Go.Ac
namespace Go.Ac
open Go Go.Ai
set_option linter.unusedSimpArgs false
variable {P : Program}

theorem cPut_eq (n : Nat) (dst : Option Tmp) (fr : Fr) (v : AV) (K : Fr → OR) : (cPut n dst).f fr v K = putK n fr dst v K := by
  cases dst with
  | none => rfl
  | some d =>
    simp only [cPut, putK]
    cases Nat.blt d n with
    | true => simp only [PutV.f, pthC_eq]; exact sT_eq _ _ _ _
    | false => rfl
theorem cOps_eq (n : Nat) (ops : Array Oper) : ∀ (l : List Oper) (call : CallK) (fr : Fr) (h : Heap) (K : Fr → Heap → OR), (cOps P n ops l).f call fr h K = opsK P call n ops l fr h K
  | [], _, _, _, _ => rfl
  | o :: rest, call, fr, h, K => by
    have h1 := fun fr h K => cOp_eq (P := P) o call fr h K
    have h2 := fun fr v K => cPut_eq n o.dst fr v K
    have h3 := fun fr h => cOps_eq n ops rest call fr h K
    simp only [cOps, opsK]
    cases e1 : cOp P o with
    | mk f =>
      cases e2 : cPut n o.dst with
      | mk p =>
        cases e3 : cOps P n ops rest with
        | mk g =>
          rw [e1] at h1; rw [e2] at h2; rw [e3] at h3
          simp only [OpV.f, PutV.f, RV.f] at h1 h2 h3
          simp only
          cases hg : o.guard with
          | none =>
            simp only [RV.f, h1, h2, h3]
            have : wantA ops fr o = true := by simp [wantA, hg]
            rw [this]
          | some x =>
            simp only [RV.f, h1, h2, h3]
            cases wantA ops fr o <;> rfl
theorem thenC_eq (r : OR) (K : AV → Heap → OR) : thenC r K = match r with | some (v, h) => K v h | none => none := by cases r <;> rfl
theorem cOpsD_eq (n : Nat) (ops : Array Oper) : ∀ (l : List Oper) (call : CallK) (fr : Fr) (h : Heap) (K : Fr → Heap → OR) (lg : List (Option Log)) (hs : List Heap), (cOpsD P n ops l).f call fr h K = opsDK P call n ops l fr h lg hs fun fr h _ _ => K fr h
  | [], _, _, _, _, _, _ => rfl
  | o :: rest, call, fr, h, K, lg, hs => by
    have h1 := fun fr h K => cOp_eq (P := P) o call fr h K
    have h2 := fun fr v K => cPut_eq n o.dst fr v K
    have h3 := fun fr h lg hs => cOpsD_eq n ops rest call fr h K lg hs
    simp only [cOpsD, opsDK]
    cases e1 : cOp P o with
    | mk f =>
      cases e2 : cPut n o.dst with
      | mk p =>
        cases e3 : cOpsD P n ops rest with
        | mk g =>
          rw [e1] at h1; rw [e2] at h2; rw [e3] at h3
          simp only [OpV.f, PutV.f, RV.f] at h1 h2 h3
          simp only
          cases hx : isX (cls P o) <;> simp only [RV.f, h1, h2, thenC_eq]
          · cases wantA ops fr o
            · simp only [ifC_false, h3 _ _ (none :: lg) hs]
            · rw [ifC_true]
              simp only
              cases opK P call fr.eval o h fun v h => some (v, h) with
              | none => rfl
              | some x =>
                simp only
                congr 1
                funext fr'
                exact h3 _ _ _ _
          · cases wantA ops fr o
            · simp only [ifC_false, h3 _ _ (none :: lg) (h :: hs)]
            · rw [ifC_true]
              simp only
              cases opK P call fr.eval o h fun v h => some (v, h) with
              | none => rfl
              | some x =>
                simp only
                congr 1
                funext fr'
                exact h3 _ _ _ _
theorem cOpsL_eq (n : Nat) (ops : Array Oper) : ∀ (l : List Oper) (call : CallK) (fr : Fr) (h : Heap) (lg : List (Option Log)) (hs : List Heap) (K : Fr → Heap → List (Option Log) → List Heap → OR), (cOpsL P n ops l).f call fr h lg hs K = opsDK P call n ops l fr h lg hs K
  | [], _, _, _, _, _, _ => rfl
  | o :: rest, call, fr, h, lg, hs, K => by
    have h1 := fun fr h K => cOp_eq (P := P) o call fr h K
    have h2 := fun fr v K => cPut_eq n o.dst fr v K
    have h3 := fun fr h lg hs => cOpsL_eq n ops rest call fr h lg hs K
    simp only [cOpsL, opsDK]
    cases e1 : cOp P o with
    | mk f =>
      cases e2 : cPut n o.dst with
      | mk p =>
        cases e3 : cOpsL P n ops rest with
        | mk g =>
          rw [e1] at h1; rw [e2] at h2; rw [e3] at h3
          simp only [OpV.f, PutV.f, RL.f] at h1 h2 h3
          simp only
          cases hc : cls P o <;> simp only [RL.f, h1, h2, h3, thenC_eq, isX, isR] <;>
            (cases wantA ops fr o
             · simp only [ifC_false]
             · rw [ifC_true]
               simp only
               cases opK P call fr.eval o h fun v h => some (v, h) <;> rfl)
theorem chkHsR_eq (l : Log) (hr : cls P l.o = .r) : ∀ (hs : List Heap) (K : OR), chkHsC P l hs K = chkHs P l hs K
  | [], K => by
    unfold chkHsC chkHs
    simp only [hr]
  | h :: hs, K => by
    have ih := chkHsR_eq l hr hs K
    have h1 := cRead_eq (P := P) l.o (.inl hr) (fun _ _ _ => none) l.fr h fun v h => some (v, h)
    unfold chkHsC at ih ⊢
    unfold chkHs
    simp only [hr] at ih ⊢
    cases e : cRead P l.o with
    | mk f =>
      rw [e] at h1 ih
      simp only [OpV.f] at h1 ih
      simp only [h1, thenC_eq] at ih ⊢
      cases readK P l.fr.eval l.o h fun v => some (v, h) with
      | none => rfl
      | some x =>
        simp only [ifC_eq] at ih ⊢
        cases l.v.same x.1 with
        | true => rw [if_pos rfl]; exact ih
        | false => rfl
theorem chkHsC_eq (l : Log) (hs : List Heap) (K : OR) : chkHsC P l hs K = chkHs P l hs K := by
  by_cases hr : cls P l.o = .r
  · exact chkHsR_eq l hr hs K
  · unfold chkHsC
    cases hc : cls P l.o <;> first | rfl | exact absurd hc hr
theorem chkFlC_eq (lg : List (Option Log)) (hs : List Heap) : ∀ (fl : List (Nat × Nat × Nat)) (K : OR), chkFlC P lg hs fl K = chkFl P lg hs fl K
  | [], _ => rfl
  | (i, lo, hi) :: fl, K => by
    have ih := chkFlC_eq lg hs fl K
    unfold chkFlC at ih ⊢
    simp only [chkFl]
    rw [ih]
    cases hl : lg[i]? with
    | none => rfl
    | some x =>
      cases x with
      | none => rfl
      | some l => exact chkHsC_eq l _ _
end Go.Ac
namespace Go.Ac
open Go Go.Ai
set_option linter.unusedSimpArgs false
variable {P : Program} {ops : Array Oper}

/-- two operations and what must be ahead of the second one -/
def DR.ok (m : Nat) : DR → DR → Prop
  | .mk b d' s' x', .mk _ d s x => Nat.land m b = 0 → Nat.land d' s = 0 ∧ Nat.land s' d = 0 ∧ (x = true → x' = false)
theorem pairsC_spec {m d s : Nat} {x : Bool} {b : Nat} : ∀ {l : List DR}, pairsC m d s x l = true → ∀ e ∈ l, DR.ok m e (.mk b d s x)
  | [], _, e, he => by simp at he
  | .mk b' d' s' x' :: l, h, e, he => by
    have h' : (Bool.rec (pairsC m d s x l)
      (Bool.rec false (Bool.rec false (Bool.rec (pairsC m d s x l) (Bool.rec (pairsC m d s x l) false x') x) (Nat.beq (Nat.land s' d) 0)) (Nat.beq (Nat.land d' s) 0)) (Nat.beq (Nat.land m b') 0) : Bool) = true := h
    have key : pairsC m d s x l = true ∧ (Nat.land m b' = 0 → Nat.land d' s = 0 ∧ Nat.land s' d = 0 ∧ (x = true → x' = false)) := by
      cases h1 : Nat.beq (Nat.land m b') 0 with
      | false =>
        rw [h1] at h'
        exact ⟨h', fun h0 => by rw [h0] at h1; cases h1⟩
      | true =>
        rw [h1] at h'
        cases h2 : Nat.beq (Nat.land d' s) 0 with
        | false => rw [h2] at h'; cases h'
        | true =>
          rw [h2] at h'
          cases h3 : Nat.beq (Nat.land s' d) 0 with
          | false => rw [h3] at h'; cases h'
          | true =>
            rw [h3] at h'
            cases x with
            | false => exact ⟨h', fun _ => ⟨Nat.eq_of_beq_eq_true h2, Nat.eq_of_beq_eq_true h3, fun c => by cases c⟩⟩
            | true =>
              cases x' with
              | true => cases h'
              | false => exact ⟨h', fun _ => ⟨Nat.eq_of_beq_eq_true h2, Nat.eq_of_beq_eq_true h3, fun _ => rfl⟩⟩
    rcases List.mem_cons.1 he with rfl | he
    · exact key.2
    · exact pairsC_spec key.1 e he
def EdgesOk (o : Oper) (i : Nat) : Prop := (o.after.toList.all fun e => !Region.binds .any e || decide (e.on < i)) = true
theorem drawC_spec : ∀ (l : List Oper) (ms : List Nat) (k : Nat) (acc : List DR), drawC P ops l ms k acc = true →
    ∀ j o, l[j]? = some o → EdgesOk o (k + j) ∧ ∃ m, ms[j]? = some m ∧ (∀ e ∈ acc, DR.ok m e (toDR P ops o (k + j))) ∧ ∀ i x, i < j → l[i]? = some x → DR.ok m (toDR P ops x (k + i)) (toDR P ops o (k + j))
  | [], _, _, _, _, j, o, h => by simp at h
  | o :: r, [], k, acc, h, _, _, _ => by simp [drawC] at h
  | o :: r, m :: ms, k, acc, h, j, o', ho => by
    simp only [drawC] at h
    cases hd : toDR P ops o k with
    | mk b d s x =>
      rw [hd] at h
      simp only [fND_eq, notC_eq] at h
      have key : EdgesOk o k ∧ pairsC m d s x acc = true ∧ drawC P ops r ms (k + 1) (.mk b d s x :: acc) = true := by
        unfold EdgesOk
        cases x <;> simp only [Bool.not_true, Bool.not_false] at h <;>
          (cases h1 : (o.after.toList.all fun e => !Region.binds .any e || decide (e.on < k)) with
           | false => rw [h1] at h; cases h
           | true =>
             rw [h1] at h
             simp only at h
             first
               | (cases h2 : pairsC m d s true acc with
                  | false => rw [h2] at h; cases h
                  | true => rw [h2] at h; exact ⟨rfl, rfl, h⟩)
               | (cases h2 : pairsC m d s false acc with
                  | false => rw [h2] at h; cases h
                  | true => rw [h2] at h; exact ⟨rfl, rfl, h⟩))
      obtain ⟨k1, k2, k3⟩ := key
      cases j with
      | zero =>
        simp at ho; subst ho
        refine ⟨k1, m, rfl, fun e he => ?_, fun i x hi => by omega⟩
        rw [Nat.add_zero, hd]
        exact pairsC_spec k2 e he
      | succ j =>
        obtain ⟨h1, m', hm, h2, h3⟩ := drawC_spec r ms (k + 1) (.mk b d s x :: acc) k3 j o' (by simpa using ho)
        have e : k + 1 + j = k + (j + 1) := by omega
        rw [e] at h1 h2 h3
        refine ⟨h1, m', by simpa using hm, fun e he => h2 e (List.mem_cons_of_mem _ he), fun i y hi hy => ?_⟩
        cases i with
        | zero =>
          simp at hy; subst hy
          rw [Nat.add_zero, hd]
          exact h2 _ (by simp)
        | succ i =>
          have := h3 i y (by omega) (by simpa using hy)
          rwa [show k + 1 + i = k + (i + 1) by omega] at this
theorem land_bit {m i : Nat} (h : m.testBit i = false) : Nat.land m (Nat.pow 2 i) = 0 := by
  have : m &&& 2 ^ i = 0 := by
    apply Nat.eq_of_testBit_eq
    intro j
    rw [Nat.testBit_and, Nat.testBit_two_pow]
    by_cases hj : i = j
    · subst hj; simp [h]
    · simp [hj]
  exact this
theorem land_ne {a b t : Nat} (ha : a.testBit t = true) (hb : b.testBit t = true) : Nat.land a b ≠ 0 := by
  intro h
  have : (a &&& b).testBit t = false := by
    rw [show a &&& b = 0 from h]; simp
  rw [Nat.testBit_and, ha, hb] at this
  cases this
theorem opBits_mem {t : Nat} : ∀ {l : List Operand}, Operand.tmp t ∈ l → (opBits l).testBit t = true
  | [], h => by simp at h
  | x :: l, h => by
    rcases List.mem_cons.1 h with rfl | h
    · show (Nat.pow 2 t ||| opBits l).testBit t = true
      rw [Nat.testBit_or]
      have : (Nat.pow 2 t).testBit t = true := Nat.testBit_two_pow_self
      simp [this]
    · have ih := opBits_mem h
      cases x with
      | tmp u =>
        show (Nat.pow 2 u ||| opBits l).testBit t = true
        rw [Nat.testBit_or, ih]; simp
      | _ => exact ih
theorem pow_bit (t : Nat) : (Nat.pow 2 t).testBit t = true := Nat.testBit_two_pow_self
theorem drawC_true (h : drawC P ops ops.toList (masks ops) 0 [] = true) : drawOk P ops = true := by
  have sp := drawC_spec _ _ _ _ h
  simp only [Nat.zero_add] at sp
  unfold drawOk
  simp only [Bool.and_eq_true, List.all_eq_true]
  refine ⟨fun x hx e he => ?_, fun y hy x hx => ?_⟩
  · have := List.mem_zipIdx_iff_getElem?.1 hx
    have := (sp x.2 x.1 this).1
    exact List.all_eq_true.1 this e he
  · have hy := List.mem_zipIdx_iff_getElem?.1 hy
    have hx := List.mem_zipIdx_iff_getElem?.1 hx
    obtain ⟨_, m, hm, _, hp⟩ := sp y.2 y.1 hy
    by_cases hij : x.2 < y.2
    · have := hp x.2 x.1 hij hx
      cases hb : m.testBit x.2 with
      | true =>
        have : (masks ops).getD y.2 0 = m := by rw [List.getD_eq_getElem?_getD, hm]; rfl
        rw [this, hb]; simp
      | false =>
        have hl := land_bit hb
        unfold toDR DR.ok at this
        simp only at this
        obtain ⟨a1, a2, a3⟩ := this hl
        have t1 : touch ops x.1 y.1 = false := by
          cases ht : touch ops x.1 y.1 with
          | false => rfl
          | true =>
            exfalso
            have nm : ∀ (o : Oper) (t : Tmp), namesA ops o t = true → (Nat.lor (match o.dst with | some t => Nat.pow 2 t | none => 0) (Nat.lor (match guardTmp ops o with | some t => Nat.pow 2 t | none => 0) (opBits o.op.operands.toList))).testBit t = true := by
              intro o t hn
              simp only [namesA, Bool.or_eq_true, beq_iff_eq, List.any_eq_true] at hn
              show ((match o.dst with | some t => Nat.pow 2 t | none => 0) ||| ((match guardTmp ops o with | some t => Nat.pow 2 t | none => 0) ||| opBits o.op.operands.toList)).testBit t = true
              rw [Nat.testBit_or, Nat.testBit_or]
              rcases hn with (hn | hn) | ⟨u, hu, hn⟩
              · rw [hn]; simp only; rw [pow_bit]; simp
              · rw [hn]; simp only; rw [pow_bit]; simp
              · have : u = .tmp t := by
                  cases u <;> simp at hn
                  rw [hn]
                subst this
                rw [opBits_mem hu]; simp
            simp only [touch, Bool.or_eq_true] at ht
            rcases ht with ht | ht
            · cases hd : x.1.dst with
              | none => rw [hd] at ht; cases ht
              | some t =>
                rw [hd] at ht a1
                exact land_ne (pow_bit t) (nm y.1 t ht) a1
            · cases hd : y.1.dst with
              | none => rw [hd] at ht; cases ht
              | some t =>
                rw [hd] at ht a2
                exact land_ne (nm x.1 t ht) (pow_bit t) a2
        have x1 : (isX (cls P x.1) && isX (cls P y.1)) = false := by
          cases hyx : isX (cls P y.1) with
          | false => simp
          | true => rw [a3 hyx]; rfl
        rw [t1, x1]; simp
    · simp [hij]
end Go.Ac
namespace Go.Ac
open Go Go.Ai
set_option linter.unusedSimpArgs false
variable {P : Program}

theorem cRegion_eq (n : Nat) (ops : Array Oper) (draw : Bool) (call : CallK) (fr : Fr) (h : Heap) (K : Fr → Heap → OR) : (cRegion P n ops draw).f call fr h K = regionK P call n ops draw fr h K := by
  unfold cRegion
  cases draw with
  | false => exact cOps_eq n ops ops.toList call fr h K
  | true =>
    simp only
    cases hd : drawC P ops ops.toList (masks ops) 0 [] with
    | false => rfl
    | true =>
      have hok := drawC_true hd
      simp only [regionK, hok]
      cases hf : floats P ops with
      | nil => exact cOpsD_eq n ops ops.toList call fr h K [] [h]
      | cons x xs =>
        simp only
        have h1 := fun K => cOpsL_eq (P := P) n ops ops.toList call fr h [] [h] K
        cases e : cOpsL P n ops ops.toList with
        | mk f =>
          rw [e] at h1
          simp only [RL.f] at h1
          simp only [RV.f, h1, chkFlC_eq]
theorem exRec_eq {a : OR} {b : Nat → OR} {c : OR} (e : Ex) : (Ex.rec a b c e : OR) = match e with | .normal => a | .exit i => b i | .ret => c := by cases e <;> rfl
theorem cLoop_eq (f : CallK → Fr → Heap → (Ex → Fr → Heap → OR) → OR) (call : CallK) (body : Fr → Heap → (Ex → Fr → Heap → OR) → OR) (hb : ∀ fr h K, f call fr h K = body fr h K) :
    ∀ (n : Nat) (fr : Fr) (h : Heap) (K : Ex → Fr → Heap → OR), cLoop f call n fr h K = iterK body n fr h K
  | 0, _, _, _ => rfl
  | n + 1, fr, h, K => by
    have ih := fun fr h => cLoop_eq f call body hb n fr h K
    show f call fr h (fun e fr h => Ex.rec (cLoop f call n fr h K) (fun i => K (.exit i) fr h) (K .ret fr h) e) = _
    rw [hb]
    simp only [iterK]
    congr 1
    funext e fr h
    cases e <;> first | exact ih fr h | rfl
theorem cCode_eq (L n : Nat) (call : CallK) : ∀ (c : Code) (fr : Fr) (h : Heap) (K : Ex → Fr → Heap → OR), (cCode P L n c).f call fr h K = codeK P call L n c fr h K := by
  intro c
  induction c with
  | region id ops draw =>
    intro fr h K
    have h1 := fun K => cRegion_eq (P := P) n ops draw call fr h K
    simp only [cCode, codeK]
    cases e : cRegion P n ops draw with
    | mk f =>
      rw [e] at h1
      simp only [RV.f] at h1
      simp only [CV.f, h1]
  | seq a b iha ihb =>
    intro fr h K
    simp only [cCode, codeK]
    cases e1 : cCode P L n a with
    | mk f =>
      cases e2 : cCode P L n b with
      | mk g =>
        rw [e1] at iha; rw [e2] at ihb
        simp only [CV.f] at iha ihb
        simp only [CV.f, iha, ihb]
        congr 1
        funext e fr h
        cases e <;> rfl
  | cond c a b iha ihb =>
    intro fr h K
    have h3 := fun K => cEv_eq c fr K
    simp only [cCode, codeK]
    cases e0 : cEv c with
    | mk ev =>
      cases e1 : cCode P L n a with
      | mk f =>
        cases e2 : cCode P L n b with
        | mk g =>
          rw [e1] at iha; rw [e2] at ihb; rw [e0] at h3
          simp only [CV.f, Ev.f] at iha ihb h3
          simp only [CV.f, iha, ihb, h3]
          cases fr.eval c <;> first | rfl | (rename_i b; cases b <;> rfl)
  | block id c ih =>
    intro fr h K
    simp only [cCode, codeK]
    cases e1 : cCode P L n c with
    | mk f =>
      rw [e1] at ih
      simp only [CV.f] at ih
      simp only [CV.f, ih]
      congr 1
      funext e fr h
      cases e with
      | exit j =>
        simp only
        cases Nat.beq j id <;> rfl
      | _ => rfl
  | loop c ih =>
    intro fr h K
    simp only [cCode, codeK]
    cases e1 : cCode P L n c with
    | mk f =>
      rw [e1] at ih
      simp only [CV.f] at ih
      simp only [CV.f]
      exact cLoop_eq f call _ ih L fr h K
  | scope c ih => intro fr h K; simp only [cCode, codeK]; exact ih fr h K
  | _ => intros; rfl
theorem enterC_eq : ∀ (vs : List AV) (i : Nat) (fr : Fr) (K : Fr → OR), enterC vs i fr K = enterK i vs fr K
  | [], _, _, _ => rfl
  | v :: vs, i, fr, K => by
    show sT (pthC i) (some v) fr (fun fr => enterC vs (i + 1) fr K) = _
    rw [pthC_eq, sT_eq]
    simp only [enterK]
    congr 1
    funext fr
    exact enterC_eq vs (i + 1) fr K
theorem cRes_eq : ∀ (rs : List ResultVar) (fr : Fr) (h : Heap) (K : List AV → OR), (cRes P rs).f fr h K = resK P fr h rs K
  | [], _, _, _ => rfl
  | .tmp t :: rs, fr, h, K => by
    have ih := fun K => cRes_eq rs fr h K
    simp only [cRes, resK]
    cases e : cRes P rs with
    | mk g =>
      rw [e] at ih
      simp only [ResV.f] at ih
      simp only [ResV.f, gC_eq, pthC_eq, fK_eq, ih]
      rfl
  | .cell a t :: rs, fr, h, K => by
    have ih := fun K => cRes_eq rs fr h K
    have h1 := fun K => cRead_eq (P := P) { dst := none, op := .load t (.tmp a), type := t, pos := default, after := #[], guard := none } (.inr ⟨t, .tmp a, rfl⟩) (fun _ _ _ => none) fr h K
    simp only [cRes, resK]
    cases e : cRes P rs with
    | mk g =>
      cases e2 : cRead P { dst := none, op := .load t (.tmp a), type := t, pos := default, after := #[], guard := none } with
      | mk f =>
        rw [e] at ih
        rw [e2] at h1
        simp only [ResV.f, OpV.f] at ih h1
        simp only [ResV.f, h1, ih]
        unfold readK
        simp only [okK_eq]
        cases hx : fr.eval (.tmp a) <;> rfl
theorem backC_eq (vs : List AV) (h : Heap) : backC vs h = match vs with | [v] => some (v, h) | vs => some (.tup vs, h) := by
  cases vs with
  | nil => rfl
  | cons v r => cases r <;> rfl
theorem callC_eq (E : Env) : ∀ (d : Nat), callC E d = callD E d
  | 0 => by funext f args h; rfl
  | d + 1 => by
    have ih := callC_eq E d
    funext f args h
    show (cFn E f).f (callC E d) args h = _
    rw [ih]
    simp only [cFn, callD]
    cases ho : E.ora f with
    | some g => rfl
    | none =>
      simp only
      cases hf : E.P.funcs.toList[f]? with
      | none => rfl
      | some fn =>
        simp only
        cases hb : fn.body with
        | none => rfl
        | some c =>
          simp only
          have h1 := fun fr h K => cCode_eq (P := E.P) E.L fn.ntmps (callD E d) c fr h K
          have h2 := fun fr h K => cRes_eq (P := E.P) fn.results.toList fr h K
          cases e1 : cCode E.P E.L fn.ntmps c with
          | mk k =>
            cases e2 : cRes E.P fn.results.toList with
            | mk r =>
              rw [e1] at h1; rw [e2] at h2
              simp only [CV.f, ResV.f] at h1 h2
              simp only [FnV.f, h1, h2, llenC_eq, enterC_eq]
              congr 1
              funext m
              cases Nat.ble m fn.ntmps with
              | false => rfl
              | true =>
                rw [ifC_true]
                simp only
                congr 1
                funext fr
                congr 1
                funext e fr h
                cases e <;> first | rfl | (simp only [backC_eq]; rfl) | simp only [backC_eq]
theorem runC_eq (E : Env) (d : Nat) (f : FuncId) : runC E d f = run E d f := by unfold runC run; rw [callC_eq]
end Go.Ac
