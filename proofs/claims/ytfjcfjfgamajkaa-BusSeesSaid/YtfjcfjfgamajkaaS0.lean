/- Of this program, for all inputs: contracts. No condition but those in the theorems. -/
import Derived.Test.YtfjcfjfgamajkaaAwM3
import Derived.Test.YtfjcfjfgamajkaaTy
import Derived.Test.YtfjcfjfgamajkaaAwStr
import Derived.Test.YtfjcfjfgamajkaaEL
import Derived.Test.YtfjcfjfgamajkaaEM
import Derived.Test.YtfjcfjfgamajkaaAiMemo2
import Derived.Test.YtfjcfjfgamajkaaSA
namespace Go.Proofs.Ytfjcfjfgamajkaa
open Go Go.Ai Go.Aw Go.Proofs
open Nat renaming reduceBEq → uB, reduceEqDiff → uE, reduceLT → uL, reduceAdd → uA, reduceMul → uM, reduceSub → uS, reduceAnd → uN, reduceXor → uX, reduceOr → uO
open Int renaming reduceMod → vR, reduceDiv → vD, reduceLT → vL, reduceLE → vK, reduceEq → vE, reduceAdd → vA, reduceMul → vM, reduceToNat → vT, reduceSub → vS
set_option linter.unusedSimpArgs false
set_option linter.unusedVariables false
set_option maxRecDepth 10000
theorem env_P : env.P = Try.prog := rfl
theorem env_L : env.L = 100000 := rfl
def Keeps (h h' : Heap) : Prop := h.next ≤ h'.next ∧ ∀ j, j < h.next → h'.get j = h.get j
theorem Keeps.trans {a b c : Heap} (x : Keeps a b) (y : Keeps b c) : Keeps a c := ⟨Nat.le_trans x.1 y.1, fun j hj => (y.2 j (Nat.lt_of_lt_of_le hj x.1)).trans (x.2 j hj)⟩
theorem Keeps.refl (a : Heap) : Keeps a a := ⟨Nat.le_refl _, fun _ _ => rfl⟩
theorem lnc40 {dd : Option Tmp} {t : TypeId} {p : String} {a : Array Edge} {g : Option (Nat × Bool)} (x : Operand) : cls Try.prog ⟨dd, .call ⟨.builtin .len, #[x], #[40]⟩, t, p, a, g⟩ = .p := cls_len1 Try.underlying40 x
theorem lno40 {call : CallK} {ρ : Operand → AV} {h : Heap} {dd : Option Tmp} {t : TypeId} {p : String} {a : Array Edge} {g : Option (Nat × Bool)} (x : Operand) : opE Try.prog call ρ ⟨dd, .call ⟨.builtin .len, #[x], #[40]⟩, t, p, a, g⟩ h = th (okv (ρ x)) fun v => th (lenE Try.prog 40 v) fun v => some (v, h) := opE_len1 Try.underlying40 x
theorem lns40 (k o l c : Nat) : lenE Try.prog 40 (.slice k o l c) = some (.int .i64 (l : Int)) := len_slice Try.underlying40 k o l c
theorem lne40 (k o l c : Nat) : lenE Try.prog 40 (.eslice k o l c) = some (.int .i64 (c : Int)) := len_eslice Try.underlying40 k o l c
theorem lnn40 : lenE Try.prog 40 .nilslice = some (.int .i64 0) := len_nilslice Try.underlying40
theorem lnc43 {dd : Option Tmp} {t : TypeId} {p : String} {a : Array Edge} {g : Option (Nat × Bool)} (x : Operand) : cls Try.prog ⟨dd, .call ⟨.builtin .len, #[x], #[43]⟩, t, p, a, g⟩ = .p := cls_len1 Try.underlying43 x
theorem lno43 {call : CallK} {ρ : Operand → AV} {h : Heap} {dd : Option Tmp} {t : TypeId} {p : String} {a : Array Edge} {g : Option (Nat × Bool)} (x : Operand) : opE Try.prog call ρ ⟨dd, .call ⟨.builtin .len, #[x], #[43]⟩, t, p, a, g⟩ h = th (okv (ρ x)) fun v => th (lenE Try.prog 43 v) fun v => some (v, h) := opE_len1 Try.underlying43 x
theorem lns43 (k o l c : Nat) : lenE Try.prog 43 (.slice k o l c) = some (.int .i64 (l : Int)) := len_slice Try.underlying43 k o l c
theorem lne43 (k o l c : Nat) : lenE Try.prog 43 (.eslice k o l c) = some (.int .i64 (c : Int)) := len_eslice Try.underlying43 k o l c
theorem lnn43 : lenE Try.prog 43 .nilslice = some (.int .i64 0) := len_nilslice Try.underlying43
theorem lnc50 {dd : Option Tmp} {t : TypeId} {p : String} {a : Array Edge} {g : Option (Nat × Bool)} (x : Operand) : cls Try.prog ⟨dd, .call ⟨.builtin .len, #[x], #[50]⟩, t, p, a, g⟩ = .p := cls_len1 Try.underlying50 x
theorem lno50 {call : CallK} {ρ : Operand → AV} {h : Heap} {dd : Option Tmp} {t : TypeId} {p : String} {a : Array Edge} {g : Option (Nat × Bool)} (x : Operand) : opE Try.prog call ρ ⟨dd, .call ⟨.builtin .len, #[x], #[50]⟩, t, p, a, g⟩ h = th (okv (ρ x)) fun v => th (lenE Try.prog 50 v) fun v => some (v, h) := opE_len1 Try.underlying50 x
theorem lns50 (k o l c : Nat) : lenE Try.prog 50 (.slice k o l c) = some (.int .i64 (l : Int)) := len_slice Try.underlying50 k o l c
theorem lne50 (k o l c : Nat) : lenE Try.prog 50 (.eslice k o l c) = some (.int .i64 (c : Int)) := len_eslice Try.underlying50 k o l c
theorem lnn50 : lenE Try.prog 50 .nilslice = some (.int .i64 0) := len_nilslice Try.underlying50
theorem lnc62 {dd : Option Tmp} {t : TypeId} {p : String} {a : Array Edge} {g : Option (Nat × Bool)} (x : Operand) : cls Try.prog ⟨dd, .call ⟨.builtin .len, #[x], #[62]⟩, t, p, a, g⟩ = .p := cls_len1 Try.underlying62 x
theorem lno62 {call : CallK} {ρ : Operand → AV} {h : Heap} {dd : Option Tmp} {t : TypeId} {p : String} {a : Array Edge} {g : Option (Nat × Bool)} (x : Operand) : opE Try.prog call ρ ⟨dd, .call ⟨.builtin .len, #[x], #[62]⟩, t, p, a, g⟩ h = th (okv (ρ x)) fun v => th (lenE Try.prog 62 v) fun v => some (v, h) := opE_len1 Try.underlying62 x
theorem lns62 (k o l c : Nat) : lenE Try.prog 62 (.slice k o l c) = some (.int .i64 (l : Int)) := len_slice Try.underlying62 k o l c
theorem lne62 (k o l c : Nat) : lenE Try.prog 62 (.eslice k o l c) = some (.int .i64 (c : Int)) := len_eslice Try.underlying62 k o l c
theorem lnn62 : lenE Try.prog 62 .nilslice = some (.int .i64 0) := len_nilslice Try.underlying62
theorem lnc126 {dd : Option Tmp} {t : TypeId} {p : String} {a : Array Edge} {g : Option (Nat × Bool)} (x : Operand) : cls Try.prog ⟨dd, .call ⟨.builtin .len, #[x], #[126]⟩, t, p, a, g⟩ = .p := cls_len1 Try.underlying126 x
theorem lno126 {call : CallK} {ρ : Operand → AV} {h : Heap} {dd : Option Tmp} {t : TypeId} {p : String} {a : Array Edge} {g : Option (Nat × Bool)} (x : Operand) : opE Try.prog call ρ ⟨dd, .call ⟨.builtin .len, #[x], #[126]⟩, t, p, a, g⟩ h = th (okv (ρ x)) fun v => th (lenE Try.prog 126 v) fun v => some (v, h) := opE_len1 Try.underlying126 x
theorem lns126 (k o l c : Nat) : lenE Try.prog 126 (.slice k o l c) = some (.int .i64 (l : Int)) := len_slice Try.underlying126 k o l c
theorem lne126 (k o l c : Nat) : lenE Try.prog 126 (.eslice k o l c) = some (.int .i64 (c : Int)) := len_eslice Try.underlying126 k o l c
theorem lnn126 : lenE Try.prog 126 .nilslice = some (.int .i64 0) := len_nilslice Try.underlying126
theorem lnc127 {dd : Option Tmp} {t : TypeId} {p : String} {a : Array Edge} {g : Option (Nat × Bool)} (x : Operand) : cls Try.prog ⟨dd, .call ⟨.builtin .len, #[x], #[127]⟩, t, p, a, g⟩ = .p := cls_len1 Try.underlying127 x
theorem lno127 {call : CallK} {ρ : Operand → AV} {h : Heap} {dd : Option Tmp} {t : TypeId} {p : String} {a : Array Edge} {g : Option (Nat × Bool)} (x : Operand) : opE Try.prog call ρ ⟨dd, .call ⟨.builtin .len, #[x], #[127]⟩, t, p, a, g⟩ h = th (okv (ρ x)) fun v => th (lenE Try.prog 127 v) fun v => some (v, h) := opE_len1 Try.underlying127 x
theorem lns127 (k o l c : Nat) : lenE Try.prog 127 (.slice k o l c) = some (.int .i64 (l : Int)) := len_slice Try.underlying127 k o l c
theorem lne127 (k o l c : Nat) : lenE Try.prog 127 (.eslice k o l c) = some (.int .i64 (c : Int)) := len_eslice Try.underlying127 k o l c
theorem lnn127 : lenE Try.prog 127 .nilslice = some (.int .i64 0) := len_nilslice Try.underlying127
theorem lnc141 {dd : Option Tmp} {t : TypeId} {p : String} {a : Array Edge} {g : Option (Nat × Bool)} (x : Operand) : cls Try.prog ⟨dd, .call ⟨.builtin .len, #[x], #[141]⟩, t, p, a, g⟩ = .p := cls_len1 Try.underlying141 x
theorem lno141 {call : CallK} {ρ : Operand → AV} {h : Heap} {dd : Option Tmp} {t : TypeId} {p : String} {a : Array Edge} {g : Option (Nat × Bool)} (x : Operand) : opE Try.prog call ρ ⟨dd, .call ⟨.builtin .len, #[x], #[141]⟩, t, p, a, g⟩ h = th (okv (ρ x)) fun v => th (lenE Try.prog 141 v) fun v => some (v, h) := opE_len1 Try.underlying141 x
theorem lns141 (k o l c : Nat) : lenE Try.prog 141 (.slice k o l c) = some (.int .i64 (l : Int)) := len_slice Try.underlying141 k o l c
theorem lne141 (k o l c : Nat) : lenE Try.prog 141 (.eslice k o l c) = some (.int .i64 (c : Int)) := len_eslice Try.underlying141 k o l c
theorem lnn141 : lenE Try.prog 141 .nilslice = some (.int .i64 0) := len_nilslice Try.underlying141
theorem mk124 {call : CallK} {ρ : Operand → AV} {h : Heap} {dd : Option Tmp} {t : TypeId} {p : String} {a : Array Edge} {g : Option (Nat × Bool)} : opE Try.prog call ρ ⟨dd, .makeMap 124 none, t, p, a, g⟩ h = some (.map h.next, h.new (.map [] false)) := opE_makeMap Try.underlying124
theorem mk125 {call : CallK} {ρ : Operand → AV} {h : Heap} {dd : Option Tmp} {t : TypeId} {p : String} {a : Array Edge} {g : Option (Nat × Bool)} : opE Try.prog call ρ ⟨dd, .makeMap 125 none, t, p, a, g⟩ h = some (.map h.next, h.new (.map [] false)) := opE_makeMap Try.underlying125
def TL := PLift.up (And.intro @lnc40 (And.intro @lno40 (And.intro @lns40 (And.intro @lne40 (And.intro @lnn40 (And.intro @lnc43 (And.intro @lno43 (And.intro @lns43 (And.intro @lne43 (And.intro @lnn43 (And.intro @lnc50 (And.intro @lno50 (And.intro @lns50 (And.intro @lne50 (And.intro @lnn50 (And.intro @lnc62 (And.intro @lno62 (And.intro @lns62 (And.intro @lne62 (And.intro @lnn62 (And.intro @lnc126 (And.intro @lno126 (And.intro @lns126 (And.intro @lne126 (And.intro @lnn126 (And.intro @lnc127 (And.intro @lno127 (And.intro @lns127 (And.intro @lne127 (And.intro @lnn127 (And.intro @lnc141 (And.intro @lno141 (And.intro @lns141 (And.intro @lne141 (And.intro @lnn141 (And.intro @mk124 (And.intro @mk125 (And.intro @cls_bs (And.intro @opE_bs @cls_makeMap)))))))))))))))))))))))))))))))))))))))
end Go.Proofs.Ytfjcfjfgamajkaa
