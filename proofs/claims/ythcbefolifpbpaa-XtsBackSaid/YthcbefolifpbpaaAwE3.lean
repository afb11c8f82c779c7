import Derived.Test.YthcbefolifpbpaaAwE2
namespace Go.Aw
open Go Go.Ai
set_option linter.unusedSimpArgs false
variable {P : Program} {β : Type}

def fillE (place : Nat → Option (Nat × Nat)) : List (Nat × AV) → List AV → Option (List AV)
  | [], cells => some cells
  | (i, v) :: rest, cells => match place i with
    | none => none
    | some (off, size) => (match Nat.beq v.cells.length size with
      | true => th (overE off v.cells cells) fun cells => fillE place rest cells
      | false => none)
theorem fillK_E (place : Nat → Option (Nat × Nat)) : ∀ (ps : List (Nat × AV)) (cells : List AV) (K : List AV → Option β), fillK place ps cells K = th (fillE place ps cells) K
  | [], _, _ => rfl
  | (i, v) :: rest, cells, K => by
    simp only [fillK, fillE]
    cases place i with
    | none => rfl
    | some p =>
      obtain ⟨off, size⟩ := p
      simp only [cellsK_eq, llen_eq, Nat.zero_add]
      cases Nat.beq v.cells.length size with
      | false => rfl
      | true =>
        simp only [lput_th, th_th]
        exact th_congr _ fun _ => fillK_E place rest _ K
def buildE (P : Program) (t : TypeId) (parts : List (Nat × AV)) : Option AV := buildK P t parts some
theorem buildK_E (t : TypeId) (parts : List (Nat × AV)) (K : AV → Option β) : buildK P t parts K = th (buildE P t parts) K := by
  unfold buildE buildK
  simp only [zeroK_E, unK_E, szK_E, cellsK_eq, fillK_E, th_th]
  refine th_congr _ fun z => th_congr _ fun d => ?_
  split
  · split
    · simp only [th_th, th_some]
    · rfl
  · simp only [th_th, th_some]
  · rfl
theorem repK_eq : ∀ (n : Nat) (l : List AV) (K : List AV → Option β), repK n l K = K (repL n l)
  | 0, _, _ => rfl
  | n + 1, l, K => by simp only [repK, lapp_eq, repK_eq n l, repL]
def BlkE := Blk × (Nat → AV)
def kp (b : Blk) (mk : Nat → AV) : Option BlkE := some (b, mk)
def thB (r : Option BlkE) (K : Blk → (Nat → AV) → Option β) : Option β := match r with | some (b, mk) => K b mk | none => none
theorem thB_kp (b : Blk) (mk : Nat → AV) (K : Blk → (Nat → AV) → Option β) : thB (kp b mk) K = K b mk := rfl
theorem thB_none (K : Blk → (Nat → AV) → Option β) : thB none K = none := rfl
theorem thB_th {α : Type} (a : Option α) (f : α → Option BlkE) (K : Blk → (Nat → AV) → Option β) : thB (th a f) K = th a fun x => thB (f x) K := by cases a <;> rfl
theorem buildSliceK_E (t : TypeId) (len : Nat) (parts : List (Nat × AV)) (K : Blk → (Nat → AV) → Option β) : buildSliceK P t len parts K = thB (buildSliceK P t len parts kp) K := by
  unfold buildSliceK
  simp only [unK_E, thB_th]
  refine th_congr _ fun d => ?_
  split
  · simp only [szK_E, thB_th]
    refine th_congr _ fun n => ?_
    split
    · rfl
    · rfl
    · simp only [zeroK_E, cellsK_eq, llen_eq, Nat.zero_add, thB_th]
      refine th_congr _ fun z => ?_
      split
      · simp only [repK_eq, fillK_E, thB_th, thB_kp]
      · rfl
  · rfl
theorem makeSliceK_E (t : TypeId) (l c : AV) (K : Blk → (Nat → AV) → Option β) : makeSliceK P t l c K = thB (makeSliceK P t l c kp) K := by
  unfold makeSliceK
  simp only [unK_E, thB_th]
  refine th_congr _ fun d => ?_
  split
  · simp only [asN_E, szK_E, thB_th]
    refine th_congr _ fun l => th_congr _ fun c => th_congr _ fun n => ?_
    split
    · split
      · simp only [zeroK_E, cellsK_eq, llen_eq, Nat.zero_add, thB_th]
        refine th_congr _ fun z => ?_
        split
        · simp only [repK_eq, thB_kp]
        · rfl
      · rfl
    · rfl
  · rfl
def convPureE (P : Program) (s d : TypeId) (x : AV) : Option AV := convPureK P s d x some
theorem convPureK_E (s d : TypeId) (x : AV) (K : AV → Option β) : convPureK P s d x K = th (convPureE P s d x) K := by
  unfold convPureE convPureK
  simp only [unK_E, th_th]
  refine th_congr _ fun s => th_congr _ fun d => ?_
  split <;> simp
def at_E (h : Heap) (k off m : Nat) : Option (List AV) := match h.get k with | some (.cells cs _ _) => cutE off m cs | _ => none
def firstE (h : Heap) (size n : Nat) (x : AV) : Option (List AV) := firstK h size n x some
theorem firstK_E (h : Heap) (size n : Nat) (x : AV) (K : List AV → Option β) : firstK h size n x K = th (firstE h size n x) K := by
  unfold firstE firstK
  cases x <;> simp only [th_some, th_none, fL_eq]
  · rename_i k off l c
    cases n * size with
    | zero => rfl
    | succ m =>
      simp only [getK_E, th_th]
      refine th_congr _ fun b => ?_
      cases b with
      | map _ _ => rfl
      | cells cs _ _ => simp only [lcut_th, th_id]
  · rename_i k off l c
    cases n * size with
    | zero => rfl
    | succ m =>
      simp only [getK_E, th_th]
      refine th_congr _ fun b => ?_
      cases b with
      | map _ _ => rfl
      | cells cs _ _ => simp only [lcut_th, th_id]
theorem convStrK_E (h : Heap) (s d : TypeId) (x : AV) (K : AV → Option β) : convStrK P h s d x K = th (convStrK P h s d x some) K := by
  unfold convStrK
  simp only [unK_E, th_th]
  refine th_congr _ fun s => th_congr _ fun d => ?_
  split
  · simp only [th_th]
    refine th_congr _ fun e => ?_
    split
    · simp only [firstK_E, th_th]
      refine th_congr _ fun cs => ?_
      split <;> simp
    · rfl
  · rfl
theorem th2_th {α γ δ : Type} (a : Option α) (f : α → Option (γ × δ)) (K : γ → δ → Option β) : th2 (th a f) K = th a fun x => th2 (f x) K := by cases a <;> rfl
theorem th2_p2 (v : AV) (h : Heap) (K : AV → Heap → Option β) : th2 (p2 v h) K = K v h := rfl
theorem convBytesK_E (h : Heap) (s d : TypeId) (x : AV) (K : AV → Heap → Option β) : convBytesK P h s d x K = th2 (convBytesK P h s d x p2) K := by
  unfold convBytesK
  simp only [unK_E, th2_th]
  refine th_congr _ fun s => th_congr _ fun d => ?_
  split
  · simp only [th2_th]
    refine th_congr _ fun e => ?_
    split
    · simp only [getK_E, th2_th]
      refine th_congr _ fun b => ?_
      split
      · simp only [putK_E, th2_p2]
      · rfl
    · rfl
  · simp only [th2_th]
    refine th_congr _ fun e => ?_
    split
    · simp only [llen_eq, fL_eq, newK_E, th2_p2]
    · rfl
  · rfl
/-! maps -/
theorem findK_E : ∀ (es : List (AV × AV)) (x : AV) (K : Option AV → Option β), findK es x K = th (findK es x some) K
  | [], _, _ => rfl
  | (k, v) :: r, x, K => by
    simp only [findK]
    cases scEq x k with
    | none => rfl
    | some b => cases b with
      | true => rfl
      | false => exact findK_E r x K
theorem lookFinK_E (t : TypeId) (ok : Bool) (K : AV → Option β) (r : Option AV) : lookFinK P t ok K r = th (lookFinK P t ok some r) K := by
  cases r with
  | some v => cases ok <;> rfl
  | none =>
    simp only [lookFinK, zeroK_E, th_th]
    exact th_congr _ fun z => by cases ok <;> rfl
theorem keyK_E (t : TypeId) (k : AV) (K : Unit → Option β) : keyK P t k K = th (keyK P t k some) K := by
  unfold keyK
  simp only [unK_E, th_th]
  refine th_congr _ fun d => ?_
  split <;> rfl
def lookupE (P : Program) (h : Heap) (t : TypeId) (x k : AV) (ok : Bool) : Option AV := lookupK P h t x k ok some
theorem lookupK_E (h : Heap) (t : TypeId) (x k : AV) (ok : Bool) (K : AV → Option β) : lookupK P h t x k ok K = th (lookupE P h t x k ok) K := by
  unfold lookupE lookupK
  simp only [unK_E, th_th]
  refine th_congr _ fun d => ?_
  split
  · rw [keyK_E, keyK_E (β := AV), th_th]
    refine th_congr _ fun _ => ?_
    split
    · exact lookFinK_E ..
    · simp only [getK_E, th_th]
      refine th_congr _ fun b => ?_
      split
      · rw [findK_E, findK_E (β := AV), th_th]
        exact th_congr _ fun r => lookFinK_E ..
      · rfl
    · rfl
  · rfl
theorem updK_E (es : List (AV × AV)) (x v : AV) : ∀ {γ : Type} (K : List (AV × AV) → Option γ), updK es x v K = th (updK es x v some) K := by
  induction es with
  | nil => intro γ K; rfl
  | cons e r ih =>
    intro γ K
    obtain ⟨k, w⟩ := e
    simp only [updK]
    cases scEq x k with
    | none => rfl
    | some b => cases b with
      | true => rfl
      | false => simp only; rw [ih, ih (fun r => some ((k, w) :: r)), th_th]; rfl
theorem delK_E (es : List (AV × AV)) (x : AV) : ∀ {γ : Type} (K : List (AV × AV) → Option γ), delK es x K = th (delK es x some) K := by
  induction es with
  | nil => intro γ K; rfl
  | cons e r ih =>
    intro γ K
    obtain ⟨k, w⟩ := e
    simp only [delK]
    cases scEq x k with
    | none => rfl
    | some b => cases b with
      | true => rfl
      | false => simp only; rw [ih, ih (fun r => some ((k, w) :: r)), th_th]; rfl
def mapUpdateE (P : Program) (h : Heap) (t : TypeId) (m k v : AV) : Option Heap := mapUpdateK P h t m k v some
theorem mapUpdateK_E (h : Heap) (t : TypeId) (m k v : AV) (K : Heap → Option β) : mapUpdateK P h t m k v K = th (mapUpdateE P h t m k v) K := by
  unfold mapUpdateE mapUpdateK
  simp only [unK_E, th_th]
  refine th_congr _ fun d => ?_
  split
  · rw [keyK_E, keyK_E (β := Heap), th_th]
    refine th_congr _ fun _ => ?_
    simp only [getK_E, th_th]
    refine th_congr _ fun b => ?_
    split
    · rw [updK_E, updK_E (γ := Heap), th_th]; simp only [putK_E, th_some]
    · rfl
  · rfl
def deleteE (P : Program) (h : Heap) (t : TypeId) (m k : AV) : Option Heap := deleteK P h t m k some
theorem deleteK_E (h : Heap) (t : TypeId) (m k : AV) (K : Heap → Option β) : deleteK P h t m k K = th (deleteE P h t m k) K := by
  unfold deleteE deleteK
  simp only [unK_E, th_th]
  refine th_congr _ fun d => ?_
  split
  · rw [keyK_E, keyK_E (β := Heap), th_th]; rfl
  · rw [keyK_E, keyK_E (β := Heap), th_th]
    refine th_congr _ fun _ => ?_
    simp only [getK_E, th_th]
    refine th_congr _ fun b => ?_
    split
    · rw [delK_E, delK_E (γ := Heap), th_th]; simp only [putK_E, th_some]
    · rfl
  · rfl
theorem lenMapK_E (h : Heap) (t : TypeId) (x : AV) (K : AV → Option β) : lenMapK P h t x K = th (lenMapK P h t x some) K := by
  unfold lenMapK
  simp only [unK_E, th_th, fN_eq]
  refine th_congr _ fun d => ?_
  split
  · rfl
  · simp only [getK_E, th_th]
    refine th_congr _ fun b => ?_
    split
    · simp only [llen_eq]; rfl
    · rfl
  · rfl
def lenE (P : Program) (t : TypeId) (x : AV) : Option AV := lenK P t x some
theorem lenK_E (t : TypeId) (x : AV) (K : AV → Option β) : lenK P t x K = th (lenE P t x) K := by
  unfold lenE lenK
  simp only [unK_E, th_th, fN_eq, llen_eq]
  refine th_congr _ fun d => ?_
  split <;> try rfl
  simp only [th_th]
  refine th_congr _ fun d => ?_
  split <;> rfl
theorem minMaxK_E (b : Bool) (args : List AV) (K : AV → Option β) : minMaxK b args K = th (minMaxK b args some) K := by
  unfold minMaxK
  split
  · split
    · split <;> rfl
    · rfl
  · rfl
def copyE (P : Program) (h : Heap) (t : TypeId) (d x : AV) : Option (AV × Heap) := copyK P h t d x p2
theorem copyK_E (h : Heap) (t : TypeId) (d x : AV) (K : AV → Heap → Option β) : copyK P h t d x K = th2 (copyE P h t d x) K := by
  unfold copyE copyK
  simp only [unK_E, th2_th]
  refine th_congr _ fun dd => ?_
  split
  · simp only [szK_E, th2_th]
    refine th_congr _ fun size => ?_
    split
    · simp only [fN_eq, firstK_E, th2_th]
      refine th_congr _ fun cs => ?_
      split
      · rfl
      · simp only [storeCK_E, th2_th]; rfl
      · simp only [storeCK_E, th2_th]; rfl
      · rfl
    · rfl
  · rfl
theorem growK_E (h : Heap) (size need : Nat) (old new : List AV) (K : AV → Heap → Option β) : growK h size need old new K = K (.eslice h.next 0 0 need) (h.new (.cells (old ++ new) size false)) := by
  simp only [growK, lapp_eq, newK_E]
def appendE (P : Program) (h : Heap) (t : TypeId) (s x : AV) : Option (AV × Heap) := appendK P h t s x p2
theorem dropK_E (h : Heap) (k : Nat) (K : Heap → Option β) : h.dropK k K = K (h.put k none) := by cases h; simp only [Heap.dropK, Heap.put]; rw [setK_eq]
theorem appendK_E (h : Heap) (t : TypeId) (s x : AV) (K : AV → Heap → Option β) : appendK P h t s x K = th2 (appendE P h t s x) K := by
  unfold appendE appendK
  simp only [unK_E, th2_th]
  refine th_congr _ fun d => ?_
  split
  · split
    · split
      · split
        · split
          · simp only [fN_eq]
            split
            · simp only [firstK_E, llen_eq, th2_th]
              refine th_congr _ fun new => ?_
              split
              · split
                · simp only [getK_E, th2_th]
                  refine th_congr _ fun b => ?_
                  split
                  · split
                    · simp only [lcut_th, llen_eq, th2_th]
                      refine th_congr _ fun old => ?_
                      split
                      · simp only [dropK_E, growK_E, th2_p2]
                      · rfl
                    · rfl
                  · rfl
                · split
                  · simp only [storeCK_E, th2_th, th2_p2]
                  · simp only [growK_E, th2_th, th2_p2]
                · split
                  · rfl
                  · simp only [growK_E, th2_p2]
                · rfl
              · rfl
            · rfl
          · rfl
        · rfl
      · rfl
    · rfl
  · rfl
end Go.Aw
