import Derived.Test.YthcbefolifpbpaaAwE3
namespace Go.Aw
open Go Go.Ai
set_option linter.unusedSimpArgs false
variable {P : Program} {β : Type}

def pureE (P : Program) (ρ : Operand → AV) (o : Oper) : Option AV := pureK P ρ o some
theorem pureK_E (ρ : Operand → AV) (o : Oper) (K : AV → Option β) : pureK P ρ o K = th (pureE P ρ o) K := by
  unfold pureE pureK
  split <;> (try simp only [fK_E, okK_E, fArgs_E, th_th])
  all_goals first
    | rfl
    | (split <;> simp only [fK_E, th_id] <;> rfl)
    | (simp only [buildK_E, binK_E, unA_E, arrayAtK_E, sliceK_E, fieldAddrK_E, fieldK_E, indexAddrK_E, indexK_E, convPureK_E, lget_E, th_th, th_id, th_some]; done)
    | skip
  · split
    · simp only [fK_E, th_id]
    · simp only [fK_E, th_id]
    · rfl
  · generalize ρ _ = v
    cases v <;> try rfl
    rename_i f _ _
    cases f <;> rfl
  · simp only [unK_E, th_th]
    refine th_congr _ fun d => ?_
    cases d <;> first | rfl | (simp only [th_th]; rfl)
  · generalize ρ _ = v
    cases v <;> try rfl
    simp only [lget_E, th_id]
  · simp only [unK_E, th_th]
    refine th_congr _ fun d => ?_
    split
    · rfl
    · split <;> rfl
    · rfl
  · split
    · split
      · simp only [okK_E, lenK_E, th_th, th_id]
      · rfl
    · rw [th_th]
      exact th_congr _ fun vs => minMaxK_E ..
    · rw [th_th]
      exact th_congr _ fun vs => minMaxK_E ..
    · rfl
def readE (P : Program) (ρ : Operand → AV) (o : Oper) (h : Heap) : Option AV := readK P ρ o h some
theorem readK_E (ρ : Operand → AV) (o : Oper) (h : Heap) (K : AV → Option β) : readK P ρ o h K = th (readE P ρ o h) K := by
  unfold readE readK
  split
  · simp only [okK_E, loadK_E, th_th, th_id]
  · simp only [okK_E, lookupK_E, th_th, th_id]
  · simp only [okK_E, th_th]
    exact th_congr _ fun v => convStrK_E ..
  · split
    · split
      · simp only [okK_E, th_th]
        exact th_congr _ fun v => lenMapK_E ..
      · rfl
    · rfl
  · rfl
def allocE (P : Program) (ρ : Operand → AV) (o : Oper) : Option BlkE := allocK P ρ o kp
theorem allocK_E (ρ : Operand → AV) (o : Oper) (K : Blk → (Nat → AV) → Option β) : allocK P ρ o K = thB (allocE P ρ o) K := by
  unfold allocE allocK
  split
  · simp only [zeroK_E, cellsK_eq, thB_th, thB_kp]
  · simp only [fK_E, cellsK_eq, thB_th, thB_kp]
  · simp only [fArgs_E, thB_th]
    exact th_congr _ fun v => buildSliceK_E ..
  · simp only [okK_E, thB_th]
    exact th_congr _ fun v => th_congr _ fun v => makeSliceK_E ..
  · simp only [unK_E, thB_th]
    refine th_congr _ fun d => ?_
    split <;> rfl
  · simp only [unK_E, thB_th]
    refine th_congr _ fun d => ?_
    split
    · simp only [okK_E, asI_E, thB_th]
      rfl
    · rfl
  · rfl
theorem th2_id (r : Option (AV × Heap)) : th2 r p2 = r := by cases r <;> rfl
def effE (P : Program) (call : CallK) (ρ : Operand → AV) (o : Oper) (h : Heap) : Option (AV × Heap) := effK P call ρ o h p2
theorem effK_E (call : CallK) (ρ : Operand → AV) (o : Oper) (h : Heap) (K : AV → Heap → Option β) : effK P call ρ o h K = th2 (effE P call ρ o h) K := by
  unfold effE effK
  split
  · simp only [fK_E, okK_E, storeK_E, th2_th, th2_p2]
  · simp only [fK_E, okK_E, mapUpdateK_E, th2_th, th2_p2]
  · simp only [fK_E, okK_E, mapUpdateK_E, th2_th, th2_p2]
  · simp only [okK_E, th2_th]
    exact th_congr _ fun v => convBytesK_E ..
  · split
    · simp only [fArgs_E, okK_E, th2_th]
      refine th_congr _ fun vs => th_congr _ fun fv => ?_
      split
      · simp only [lapp_eq]
        split <;> rfl
      · rfl
    · split
      · simp only [unK_E, th2_th]
        refine th_congr _ fun ud => ?_
        split
        · rfl
        · simp only [okK_E, appendK_E, th2_th]
          refine th_congr _ fun a => th_congr _ fun b => ?_
          rw [th2_id]
      · simp only [okK_E, appendK_E, th2_th]
        refine th_congr _ fun a => th_congr _ fun b => ?_
        rw [th2_id]
      · rfl
    · split
      · simp only [okK_E, copyK_E, th2_th]
        refine th_congr _ fun a => th_congr _ fun b => ?_
        rw [th2_id]
      · rfl
    · split
      · simp only [okK_E, deleteK_E, th2_th, th2_p2]
      · rfl
    · rfl
  · rfl
/-- one operation, by itself -/
def opE (P : Program) (call : CallK) (ρ : Operand → AV) (o : Oper) (h : Heap) : Option (AV × Heap) := opK P call ρ o h p2
theorem opK_E (call : CallK) (ρ : Operand → AV) (o : Oper) (h : Heap) (K : AV → Heap → Option β) : opK P call ρ o h K = th2 (opE P call ρ o h) K := by
  unfold opE opK
  split
  · simp only [pureK_E, th2_th, th2_p2]
  · simp only [readK_E, th2_th, th2_p2]
  · rw [allocK_E, allocK_E]
    cases allocE P ρ o with
    | none => rfl
    | some p =>
      obtain ⟨b, mk⟩ := p
      simp only [thB, newK_E, fK_E, th2_th, th2_p2]
  · exact effK_E ..
end Go.Aw
