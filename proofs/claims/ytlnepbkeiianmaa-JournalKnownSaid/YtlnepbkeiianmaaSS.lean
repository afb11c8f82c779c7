/- Of this program, for all inputs: contracts. No condition but those in the theorems. -/
import Derived.Test.YtlnepbkeiianmaaAwM3
import Derived.Test.YtlnepbkeiianmaaTy
import Derived.Test.YtlnepbkeiianmaaAwStr
import Derived.Test.YtlnepbkeiianmaaEL
import Derived.Test.YtlnepbkeiianmaaEM
import Derived.Test.YtlnepbkeiianmaaAiMemo2
import Derived.Test.YtlnepbkeiianmaaSA
namespace Go.Proofs.Ytlnepbkeiianmaa
open Go Go.Ai Go.Aw Go.Proofs
open Nat renaming reduceBEq -> uB,reduceEqDiff -> uE,reduceLT -> uL,reduceAdd -> uA,reduceMul -> uM,reduceSub -> uS,reduceAnd -> uN,reduceXor -> uX,reduceOr -> uO
open Int renaming reduceMod -> vR,reduceDiv -> vD,reduceLT -> vL,reduceLE -> vK,reduceEq -> vE,reduceAdd -> vA,reduceMul -> vM,reduceToNat -> vT,reduceSub -> vS
set_option linter.unusedSimpArgs false
set_option linter.unusedVariables false
set_option maxRecDepth 10000
theorem env_P : env.P = Try.prog := rfl
theorem env_L : env.L = 100000 := rfl
def Keeps (h h' : Heap) : Prop := h.next <= h'.next /\ ∀ j,j < h.next -> h'.get j = h.get j
theorem Keeps.trans {a b c : Heap} (x : Keeps a b) (y : Keeps b c) : Keeps a c := ⟨Nat.le_trans x.1 y.1,fun j hj => (y.2 j (Nat.lt_of_lt_of_le hj x.1)).trans (x.2 j hj)⟩
theorem Keeps.refl (a : Heap) : Keeps a a := ⟨Nat.le_refl _,fun _ _ => rfl⟩
theorem lnc33 {dd : Option Tmp} {t : TypeId} {p : String} {a : Array Edge} {g : Option (Nat × Bool)} (x : Operand) : cls Try.prog ⟨dd, .call ⟨.builtin .len,#[x],#[33]⟩,t,p,a,g⟩ = .p := cls_len1 Try.underlying33 x
theorem lno33 {call : CallK} {ρ : Operand -> AV} {h : Heap} {dd : Option Tmp} {t : TypeId} {p : String} {a : Array Edge} {g : Option (Nat × Bool)} (x : Operand) : opE Try.prog call ρ ⟨dd, .call ⟨.builtin .len,#[x],#[33]⟩,t,p,a,g⟩ h = th (okv (ρ x)) fun v => th (lenE Try.prog 33 v) fun v => some (v,h) := opE_len1 Try.underlying33 x
theorem lns33 (k o l c : Nat) : lenE Try.prog 33 (.slice k o l c) = some (.int .i64 (l : Int)) := len_slice Try.underlying33 k o l c
theorem lne33 (k o l c : Nat) : lenE Try.prog 33 (.eslice k o l c) = some (.int .i64 (c : Int)) := len_eslice Try.underlying33 k o l c
theorem lnn33 : lenE Try.prog 33 .nilslice = some (.int .i64 0) := len_nilslice Try.underlying33
theorem lnc34 {dd : Option Tmp} {t : TypeId} {p : String} {a : Array Edge} {g : Option (Nat × Bool)} (x : Operand) : cls Try.prog ⟨dd, .call ⟨.builtin .len,#[x],#[34]⟩,t,p,a,g⟩ = .p := cls_len1 Try.underlying34 x
theorem lno34 {call : CallK} {ρ : Operand -> AV} {h : Heap} {dd : Option Tmp} {t : TypeId} {p : String} {a : Array Edge} {g : Option (Nat × Bool)} (x : Operand) : opE Try.prog call ρ ⟨dd, .call ⟨.builtin .len,#[x],#[34]⟩,t,p,a,g⟩ h = th (okv (ρ x)) fun v => th (lenE Try.prog 34 v) fun v => some (v,h) := opE_len1 Try.underlying34 x
theorem lns34 (k o l c : Nat) : lenE Try.prog 34 (.slice k o l c) = some (.int .i64 (l : Int)) := len_slice Try.underlying34 k o l c
theorem lne34 (k o l c : Nat) : lenE Try.prog 34 (.eslice k o l c) = some (.int .i64 (c : Int)) := len_eslice Try.underlying34 k o l c
theorem lnn34 : lenE Try.prog 34 .nilslice = some (.int .i64 0) := len_nilslice Try.underlying34
theorem lnc39 {dd : Option Tmp} {t : TypeId} {p : String} {a : Array Edge} {g : Option (Nat × Bool)} (x : Operand) : cls Try.prog ⟨dd, .call ⟨.builtin .len,#[x],#[39]⟩,t,p,a,g⟩ = .p := cls_len1 Try.underlying39 x
theorem lno39 {call : CallK} {ρ : Operand -> AV} {h : Heap} {dd : Option Tmp} {t : TypeId} {p : String} {a : Array Edge} {g : Option (Nat × Bool)} (x : Operand) : opE Try.prog call ρ ⟨dd, .call ⟨.builtin .len,#[x],#[39]⟩,t,p,a,g⟩ h = th (okv (ρ x)) fun v => th (lenE Try.prog 39 v) fun v => some (v,h) := opE_len1 Try.underlying39 x
theorem lns39 (k o l c : Nat) : lenE Try.prog 39 (.slice k o l c) = some (.int .i64 (l : Int)) := len_slice Try.underlying39 k o l c
theorem lne39 (k o l c : Nat) : lenE Try.prog 39 (.eslice k o l c) = some (.int .i64 (c : Int)) := len_eslice Try.underlying39 k o l c
theorem lnn39 : lenE Try.prog 39 .nilslice = some (.int .i64 0) := len_nilslice Try.underlying39
theorem lnc49 {dd : Option Tmp} {t : TypeId} {p : String} {a : Array Edge} {g : Option (Nat × Bool)} (x : Operand) : cls Try.prog ⟨dd, .call ⟨.builtin .len,#[x],#[49]⟩,t,p,a,g⟩ = .p := cls_len1 Try.underlying49 x
theorem lno49 {call : CallK} {ρ : Operand -> AV} {h : Heap} {dd : Option Tmp} {t : TypeId} {p : String} {a : Array Edge} {g : Option (Nat × Bool)} (x : Operand) : opE Try.prog call ρ ⟨dd, .call ⟨.builtin .len,#[x],#[49]⟩,t,p,a,g⟩ h = th (okv (ρ x)) fun v => th (lenE Try.prog 49 v) fun v => some (v,h) := opE_len1 Try.underlying49 x
theorem lns49 (k o l c : Nat) : lenE Try.prog 49 (.slice k o l c) = some (.int .i64 (l : Int)) := len_slice Try.underlying49 k o l c
theorem lne49 (k o l c : Nat) : lenE Try.prog 49 (.eslice k o l c) = some (.int .i64 (c : Int)) := len_eslice Try.underlying49 k o l c
theorem lnn49 : lenE Try.prog 49 .nilslice = some (.int .i64 0) := len_nilslice Try.underlying49
theorem lnc50 {dd : Option Tmp} {t : TypeId} {p : String} {a : Array Edge} {g : Option (Nat × Bool)} (x : Operand) : cls Try.prog ⟨dd, .call ⟨.builtin .len,#[x],#[50]⟩,t,p,a,g⟩ = .p := cls_len1 Try.underlying50 x
theorem lno50 {call : CallK} {ρ : Operand -> AV} {h : Heap} {dd : Option Tmp} {t : TypeId} {p : String} {a : Array Edge} {g : Option (Nat × Bool)} (x : Operand) : opE Try.prog call ρ ⟨dd, .call ⟨.builtin .len,#[x],#[50]⟩,t,p,a,g⟩ h = th (okv (ρ x)) fun v => th (lenE Try.prog 50 v) fun v => some (v,h) := opE_len1 Try.underlying50 x
theorem lns50 (k o l c : Nat) : lenE Try.prog 50 (.slice k o l c) = some (.int .i64 (l : Int)) := len_slice Try.underlying50 k o l c
theorem lne50 (k o l c : Nat) : lenE Try.prog 50 (.eslice k o l c) = some (.int .i64 (c : Int)) := len_eslice Try.underlying50 k o l c
theorem lnn50 : lenE Try.prog 50 .nilslice = some (.int .i64 0) := len_nilslice Try.underlying50
theorem lnc70 {dd : Option Tmp} {t : TypeId} {p : String} {a : Array Edge} {g : Option (Nat × Bool)} (x : Operand) : cls Try.prog ⟨dd, .call ⟨.builtin .len,#[x],#[70]⟩,t,p,a,g⟩ = .p := cls_len1 Try.underlying70 x
theorem lno70 {call : CallK} {ρ : Operand -> AV} {h : Heap} {dd : Option Tmp} {t : TypeId} {p : String} {a : Array Edge} {g : Option (Nat × Bool)} (x : Operand) : opE Try.prog call ρ ⟨dd, .call ⟨.builtin .len,#[x],#[70]⟩,t,p,a,g⟩ h = th (okv (ρ x)) fun v => th (lenE Try.prog 70 v) fun v => some (v,h) := opE_len1 Try.underlying70 x
theorem lns70 (k o l c : Nat) : lenE Try.prog 70 (.slice k o l c) = some (.int .i64 (l : Int)) := len_slice Try.underlying70 k o l c
theorem lne70 (k o l c : Nat) : lenE Try.prog 70 (.eslice k o l c) = some (.int .i64 (c : Int)) := len_eslice Try.underlying70 k o l c
theorem lnn70 : lenE Try.prog 70 .nilslice = some (.int .i64 0) := len_nilslice Try.underlying70
theorem lnc72 {dd : Option Tmp} {t : TypeId} {p : String} {a : Array Edge} {g : Option (Nat × Bool)} (x : Operand) : cls Try.prog ⟨dd, .call ⟨.builtin .len,#[x],#[72]⟩,t,p,a,g⟩ = .p := cls_len1 Try.underlying72 x
theorem lno72 {call : CallK} {ρ : Operand -> AV} {h : Heap} {dd : Option Tmp} {t : TypeId} {p : String} {a : Array Edge} {g : Option (Nat × Bool)} (x : Operand) : opE Try.prog call ρ ⟨dd, .call ⟨.builtin .len,#[x],#[72]⟩,t,p,a,g⟩ h = th (okv (ρ x)) fun v => th (lenE Try.prog 72 v) fun v => some (v,h) := opE_len1 Try.underlying72 x
theorem lns72 (k o l c : Nat) : lenE Try.prog 72 (.slice k o l c) = some (.int .i64 (l : Int)) := len_slice Try.underlying72 k o l c
theorem lne72 (k o l c : Nat) : lenE Try.prog 72 (.eslice k o l c) = some (.int .i64 (c : Int)) := len_eslice Try.underlying72 k o l c
theorem lnn72 : lenE Try.prog 72 .nilslice = some (.int .i64 0) := len_nilslice Try.underlying72
theorem lnc73 {dd : Option Tmp} {t : TypeId} {p : String} {a : Array Edge} {g : Option (Nat × Bool)} (x : Operand) : cls Try.prog ⟨dd, .call ⟨.builtin .len,#[x],#[73]⟩,t,p,a,g⟩ = .p := cls_len1 Try.underlying73 x
theorem lno73 {call : CallK} {ρ : Operand -> AV} {h : Heap} {dd : Option Tmp} {t : TypeId} {p : String} {a : Array Edge} {g : Option (Nat × Bool)} (x : Operand) : opE Try.prog call ρ ⟨dd, .call ⟨.builtin .len,#[x],#[73]⟩,t,p,a,g⟩ h = th (okv (ρ x)) fun v => th (lenE Try.prog 73 v) fun v => some (v,h) := opE_len1 Try.underlying73 x
theorem lns73 (k o l c : Nat) : lenE Try.prog 73 (.slice k o l c) = some (.int .i64 (l : Int)) := len_slice Try.underlying73 k o l c
theorem lne73 (k o l c : Nat) : lenE Try.prog 73 (.eslice k o l c) = some (.int .i64 (c : Int)) := len_eslice Try.underlying73 k o l c
theorem lnn73 : lenE Try.prog 73 .nilslice = some (.int .i64 0) := len_nilslice Try.underlying73
theorem lnc90 {dd : Option Tmp} {t : TypeId} {p : String} {a : Array Edge} {g : Option (Nat × Bool)} (x : Operand) : cls Try.prog ⟨dd, .call ⟨.builtin .len,#[x],#[90]⟩,t,p,a,g⟩ = .p := cls_len1 Try.underlying90 x
theorem lno90 {call : CallK} {ρ : Operand -> AV} {h : Heap} {dd : Option Tmp} {t : TypeId} {p : String} {a : Array Edge} {g : Option (Nat × Bool)} (x : Operand) : opE Try.prog call ρ ⟨dd, .call ⟨.builtin .len,#[x],#[90]⟩,t,p,a,g⟩ h = th (okv (ρ x)) fun v => th (lenE Try.prog 90 v) fun v => some (v,h) := opE_len1 Try.underlying90 x
theorem lns90 (k o l c : Nat) : lenE Try.prog 90 (.slice k o l c) = some (.int .i64 (l : Int)) := len_slice Try.underlying90 k o l c
theorem lne90 (k o l c : Nat) : lenE Try.prog 90 (.eslice k o l c) = some (.int .i64 (c : Int)) := len_eslice Try.underlying90 k o l c
theorem lnn90 : lenE Try.prog 90 .nilslice = some (.int .i64 0) := len_nilslice Try.underlying90
theorem lnc97 {dd : Option Tmp} {t : TypeId} {p : String} {a : Array Edge} {g : Option (Nat × Bool)} (x : Operand) : cls Try.prog ⟨dd, .call ⟨.builtin .len,#[x],#[97]⟩,t,p,a,g⟩ = .p := cls_len1 Try.underlying97 x
theorem lno97 {call : CallK} {ρ : Operand -> AV} {h : Heap} {dd : Option Tmp} {t : TypeId} {p : String} {a : Array Edge} {g : Option (Nat × Bool)} (x : Operand) : opE Try.prog call ρ ⟨dd, .call ⟨.builtin .len,#[x],#[97]⟩,t,p,a,g⟩ h = th (okv (ρ x)) fun v => th (lenE Try.prog 97 v) fun v => some (v,h) := opE_len1 Try.underlying97 x
theorem lns97 (k o l c : Nat) : lenE Try.prog 97 (.slice k o l c) = some (.int .i64 (l : Int)) := len_slice Try.underlying97 k o l c
theorem lne97 (k o l c : Nat) : lenE Try.prog 97 (.eslice k o l c) = some (.int .i64 (c : Int)) := len_eslice Try.underlying97 k o l c
theorem lnn97 : lenE Try.prog 97 .nilslice = some (.int .i64 0) := len_nilslice Try.underlying97
theorem lnc98 {dd : Option Tmp} {t : TypeId} {p : String} {a : Array Edge} {g : Option (Nat × Bool)} (x : Operand) : cls Try.prog ⟨dd, .call ⟨.builtin .len,#[x],#[98]⟩,t,p,a,g⟩ = .p := cls_len1 Try.underlying98 x
theorem lno98 {call : CallK} {ρ : Operand -> AV} {h : Heap} {dd : Option Tmp} {t : TypeId} {p : String} {a : Array Edge} {g : Option (Nat × Bool)} (x : Operand) : opE Try.prog call ρ ⟨dd, .call ⟨.builtin .len,#[x],#[98]⟩,t,p,a,g⟩ h = th (okv (ρ x)) fun v => th (lenE Try.prog 98 v) fun v => some (v,h) := opE_len1 Try.underlying98 x
theorem lns98 (k o l c : Nat) : lenE Try.prog 98 (.slice k o l c) = some (.int .i64 (l : Int)) := len_slice Try.underlying98 k o l c
theorem lne98 (k o l c : Nat) : lenE Try.prog 98 (.eslice k o l c) = some (.int .i64 (c : Int)) := len_eslice Try.underlying98 k o l c
theorem lnn98 : lenE Try.prog 98 .nilslice = some (.int .i64 0) := len_nilslice Try.underlying98
theorem lnc109 {dd : Option Tmp} {t : TypeId} {p : String} {a : Array Edge} {g : Option (Nat × Bool)} (x : Operand) : cls Try.prog ⟨dd, .call ⟨.builtin .len,#[x],#[109]⟩,t,p,a,g⟩ = .p := cls_len1 Try.underlying109 x
theorem lno109 {call : CallK} {ρ : Operand -> AV} {h : Heap} {dd : Option Tmp} {t : TypeId} {p : String} {a : Array Edge} {g : Option (Nat × Bool)} (x : Operand) : opE Try.prog call ρ ⟨dd, .call ⟨.builtin .len,#[x],#[109]⟩,t,p,a,g⟩ h = th (okv (ρ x)) fun v => th (lenE Try.prog 109 v) fun v => some (v,h) := opE_len1 Try.underlying109 x
theorem lns109 (k o l c : Nat) : lenE Try.prog 109 (.slice k o l c) = some (.int .i64 (l : Int)) := len_slice Try.underlying109 k o l c
theorem lne109 (k o l c : Nat) : lenE Try.prog 109 (.eslice k o l c) = some (.int .i64 (c : Int)) := len_eslice Try.underlying109 k o l c
theorem lnn109 : lenE Try.prog 109 .nilslice = some (.int .i64 0) := len_nilslice Try.underlying109
theorem lnc110 {dd : Option Tmp} {t : TypeId} {p : String} {a : Array Edge} {g : Option (Nat × Bool)} (x : Operand) : cls Try.prog ⟨dd, .call ⟨.builtin .len,#[x],#[110]⟩,t,p,a,g⟩ = .p := cls_len1 Try.underlying110 x
theorem lno110 {call : CallK} {ρ : Operand -> AV} {h : Heap} {dd : Option Tmp} {t : TypeId} {p : String} {a : Array Edge} {g : Option (Nat × Bool)} (x : Operand) : opE Try.prog call ρ ⟨dd, .call ⟨.builtin .len,#[x],#[110]⟩,t,p,a,g⟩ h = th (okv (ρ x)) fun v => th (lenE Try.prog 110 v) fun v => some (v,h) := opE_len1 Try.underlying110 x
theorem lns110 (k o l c : Nat) : lenE Try.prog 110 (.slice k o l c) = some (.int .i64 (l : Int)) := len_slice Try.underlying110 k o l c
theorem lne110 (k o l c : Nat) : lenE Try.prog 110 (.eslice k o l c) = some (.int .i64 (c : Int)) := len_eslice Try.underlying110 k o l c
theorem lnn110 : lenE Try.prog 110 .nilslice = some (.int .i64 0) := len_nilslice Try.underlying110
theorem lnc113 {dd : Option Tmp} {t : TypeId} {p : String} {a : Array Edge} {g : Option (Nat × Bool)} (x : Operand) : cls Try.prog ⟨dd, .call ⟨.builtin .len,#[x],#[113]⟩,t,p,a,g⟩ = .p := cls_len1 Try.underlying113 x
theorem lno113 {call : CallK} {ρ : Operand -> AV} {h : Heap} {dd : Option Tmp} {t : TypeId} {p : String} {a : Array Edge} {g : Option (Nat × Bool)} (x : Operand) : opE Try.prog call ρ ⟨dd, .call ⟨.builtin .len,#[x],#[113]⟩,t,p,a,g⟩ h = th (okv (ρ x)) fun v => th (lenE Try.prog 113 v) fun v => some (v,h) := opE_len1 Try.underlying113 x
theorem lns113 (k o l c : Nat) : lenE Try.prog 113 (.slice k o l c) = some (.int .i64 (l : Int)) := len_slice Try.underlying113 k o l c
theorem lne113 (k o l c : Nat) : lenE Try.prog 113 (.eslice k o l c) = some (.int .i64 (c : Int)) := len_eslice Try.underlying113 k o l c
theorem lnn113 : lenE Try.prog 113 .nilslice = some (.int .i64 0) := len_nilslice Try.underlying113
theorem mk95 {call : CallK} {ρ : Operand -> AV} {h : Heap} {dd : Option Tmp} {t : TypeId} {p : String} {a : Array Edge} {g : Option (Nat × Bool)} : opE Try.prog call ρ ⟨dd, .makeMap 95 none,t,p,a,g⟩ h = some (.map h.next,h.new (.map [] false)) := opE_makeMap Try.underlying95
theorem mk96 {call : CallK} {ρ : Operand -> AV} {h : Heap} {dd : Option Tmp} {t : TypeId} {p : String} {a : Array Edge} {g : Option (Nat × Bool)} : opE Try.prog call ρ ⟨dd, .makeMap 96 none,t,p,a,g⟩ h = some (.map h.next,h.new (.map [] false)) := opE_makeMap Try.underlying96
def TL := PLift.up (And.intro @lnc33 (And.intro @lno33 (And.intro @lns33 (And.intro @lne33 (And.intro @lnn33 (And.intro @lnc34 (And.intro @lno34 (And.intro @lns34 (And.intro @lne34 (And.intro @lnn34 (And.intro @lnc39 (And.intro @lno39 (And.intro @lns39 (And.intro @lne39 (And.intro @lnn39 (And.intro @lnc49 (And.intro @lno49 (And.intro @lns49 (And.intro @lne49 (And.intro @lnn49 (And.intro @lnc50 (And.intro @lno50 (And.intro @lns50 (And.intro @lne50 (And.intro @lnn50 (And.intro @lnc70 (And.intro @lno70 (And.intro @lns70 (And.intro @lne70 (And.intro @lnn70 (And.intro @lnc72 (And.intro @lno72 (And.intro @lns72 (And.intro @lne72 (And.intro @lnn72 (And.intro @lnc73 (And.intro @lno73 (And.intro @lns73 (And.intro @lne73 (And.intro @lnn73 (And.intro @lnc90 (And.intro @lno90 (And.intro @lns90 (And.intro @lne90 (And.intro @lnn90 (And.intro @lnc97 (And.intro @lno97 (And.intro @lns97 (And.intro @lne97 (And.intro @lnn97 (And.intro @lnc98 (And.intro @lno98 (And.intro @lns98 (And.intro @lne98 (And.intro @lnn98 (And.intro @lnc109 (And.intro @lno109 (And.intro @lns109 (And.intro @lne109 (And.intro @lnn109 (And.intro @lnc110 (And.intro @lno110 (And.intro @lns110 (And.intro @lne110 (And.intro @lnn110 (And.intro @lnc113 (And.intro @lno113 (And.intro @lns113 (And.intro @lne113 (And.intro @lnn113 (And.intro @mk95 (And.intro @mk96 (And.intro @cls_bs (And.intro @opE_bs (And.intro @cls_makeMap @wrap_i64s)))))))))))))))))))))))))))))))))))))))))))))))))))))))))))))))))))))))))))
def TQ := PLift.up (And.intro TA.down (And.intro TL.down @same_nilslice))
theorem in61 (d : Nat) (h : Heap) (a0 : AV) : callD env (d + 1) 61 [a0] h = run ⟨env.P,callD env d,env.L,Try.f61.ntmps,[],Try.f61.results.toList⟩ [.code (match Try.f61.body with | some c => c | none => .skip)] (argS [a0]) h :=
 callD_run (E := env) [] (by kernel_rfl) Try.func61 rfl (by rw [Try.ntmps61]; simp) (by kernel_rfl)
theorem in43 (d : Nat) (h : Heap) (a0 : AV) : callD env (d + 1) 43 [a0] h = run ⟨env.P,callD env d,env.L,Try.f43.ntmps,[],Try.f43.results.toList⟩ [.code (match Try.f43.body with | some c => c | none => .skip)] (argS [a0]) h :=
 callD_run (E := env) [] (by kernel_rfl) Try.func43 rfl (by rw [Try.ntmps43]; simp) (by kernel_rfl)
theorem in44 (d : Nat) (h : Heap) (a0 : AV) : callD env (d + 1) 44 [a0] h = run ⟨env.P,callD env d,env.L,Try.f44.ntmps,[],Try.f44.results.toList⟩ [.code (match Try.f44.body with | some c => c | none => .skip)] (argS [a0]) h :=
 callD_run (E := env) [] (by kernel_rfl) Try.func44 rfl (by rw [Try.ntmps44]; simp) (by kernel_rfl)
theorem in31 (d : Nat) (h : Heap) (a0 : AV) : callD env (d + 1) 31 [a0] h = run ⟨env.P,callD env d,env.L,Try.f31.ntmps,[],Try.f31.results.toList⟩ [.code (match Try.f31.body with | some c => c | none => .skip)] (argS [a0]) h :=
 callD_run (E := env) [] (by kernel_rfl) Try.func31 rfl (by rw [Try.ntmps31]; simp) (by kernel_rfl)
theorem in36 (d : Nat) (h : Heap) (a0 : AV) : callD env (d + 1) 36 [a0] h = run ⟨env.P,callD env d,env.L,Try.f36.ntmps,[],Try.f36.results.toList⟩ [.code (match Try.f36.body with | some c => c | none => .skip)] (argS [a0]) h :=
 callD_run (E := env) [] (by kernel_rfl) Try.func36 rfl (by rw [Try.ntmps36]; simp) (by kernel_rfl)
def c33 : List AV := AV.int IntKind.u64 0 :: List.replicate 32 (b8 0)
theorem c33_fold : (AV.int IntKind.u64 0 :: List.replicate 32 (b8 0)) = c33 := rfl
theorem el97 : Elem Try.prog 97 103 64 ((Try.prog.info? 103).getD default) ((((Try.prog.info? 103).getD default).zero).getD default) := ⟨Try.underlying97,by kernel_rfl,by kernel_rfl,by kernel_rfl,by kernel_rfl,by decide +kernel⟩
theorem el49 : Elem Try.prog 49 64 69 ((Try.prog.info? 64).getD default) ((((Try.prog.info? 64).getD default).zero).getD default) := ⟨Try.underlying49,by kernel_rfl,by kernel_rfl,by kernel_rfl,by kernel_rfl,by decide +kernel⟩
theorem el50 : Elem Try.prog 50 134 67 ((Try.prog.info? 134).getD default) ((((Try.prog.info? 134).getD default).zero).getD default) := ⟨Try.underlying50,by kernel_rfl,by kernel_rfl,by kernel_rfl,by kernel_rfl,by decide +kernel⟩
theorem el39 : Elem Try.prog 39 47 0 ((Try.prog.info? 47).getD default) ((((Try.prog.info? 47).getD default).zero).getD default) := ⟨Try.underlying39,by kernel_rfl,by kernel_rfl,by kernel_rfl,by kernel_rfl,by decide +kernel⟩
theorem el33 : Elem Try.prog 33 5 0 ((Try.prog.info? 5).getD default) ((((Try.prog.info? 5).getD default).zero).getD default) := ⟨Try.underlying33,by kernel_rfl,by kernel_rfl,by kernel_rfl,by kernel_rfl,by decide +kernel⟩
def stepC (n : Nat) (s : List Nat) : List AV := [.int .i64 (n : Int), .int .i64 1, .int .i64 0, .int .i64 3, .int .i64 0] ++ (B s ++ [.nilslice])
def memC (a b : Nat) : List AV := [.int .i64 4, .map a, .map b, .nilslice, .nilslice, .bool false, .bool false]
theorem ap49 (call : CallK) (ρ : Operand -> AV) (dd : Option Tmp) (t : TypeId) (p : String) (a : Array Edge) (g : Option (Nat × Bool)) (h : Heap) (s x : Operand) : opE Try.prog call ρ ⟨dd, .call ⟨.builtin .append,#[s,x],#[49,49]⟩,t,p,a,g⟩ h = th (okv (ρ s)) fun u => th (okv (ρ x)) fun v => appE Try.prog 49 u v h := opE_append Try.underlying49 s x
theorem ap39 (call : CallK) (ρ : Operand -> AV) (dd : Option Tmp) (t : TypeId) (p : String) (a : Array Edge) (g : Option (Nat × Bool)) (h : Heap) (s x : Operand) : opE Try.prog call ρ ⟨dd, .call ⟨.builtin .append,#[s,x],#[39,39]⟩,t,p,a,g⟩ h = th (okv (ρ s)) fun u => th (okv (ρ x)) fun v => appE Try.prog 39 u v h := opE_append Try.underlying39 s x
theorem ap33 (call : CallK) (ρ : Operand -> AV) (dd : Option Tmp) (t : TypeId) (p : String) (a : Array Edge) (g : Option (Nat × Bool)) (h : Heap) (s x : Operand) : opE Try.prog call ρ ⟨dd, .call ⟨.builtin .append,#[s,x],#[33,33]⟩,t,p,a,g⟩ h = th (okv (ρ s)) fun u => th (okv (ρ x)) fun v => appE Try.prog 33 u v h := opE_append Try.underlying33 s x
theorem ap50 (call : CallK) (ρ : Operand -> AV) (dd : Option Tmp) (t : TypeId) (p : String) (a : Array Edge) (g : Option (Nat × Bool)) (h : Heap) (s x : Operand) : opE Try.prog call ρ ⟨dd, .call ⟨.builtin .append,#[s,x],#[50,50]⟩,t,p,a,g⟩ h = th (okv (ρ s)) fun u => th (okv (ρ x)) fun v => appE Try.prog 50 u v h := opE_append Try.underlying50 s x
theorem ap97 (call : CallK) (ρ : Operand -> AV) (dd : Option Tmp) (t : TypeId) (p : String) (a : Array Edge) (g : Option (Nat × Bool)) (h : Heap) (s x : Operand) : opE Try.prog call ρ ⟨dd, .call ⟨.builtin .append,#[s,x],#[97,97]⟩,t,p,a,g⟩ h = th (okv (ρ s)) fun u => th (okv (ρ x)) fun v => appE Try.prog 97 u v h := opE_append Try.underlying97 s x
theorem nq49 (q o l c : Nat) : binE Try.prog .eql 49 (.slice q o l c) .nilslice = some (.bool false) := by kernel_rfl
theorem nn49 : binE Try.prog .eql 49 .nilslice .nilslice = some (.bool true) := by kernel_rfl
theorem b043 (h : Heap) : bsE Try.prog 49 0 [] h = some (.slice h.next 0 0 0,h.new (.cells [] 0 false)) := bsE_of (fun K => by kernel_rfl) h
theorem nq33 (q o l c : Nat) : binE Try.prog .eql 33 (.slice q o l c) .nilslice = some (.bool false) := by kernel_rfl
theorem nn33 : binE Try.prog .eql 33 .nilslice .nilslice = some (.bool true) := by kernel_rfl
theorem b040 (h : Heap) : bsE Try.prog 33 0 [] h = some (.slice h.next 0 0 0,h.new (.cells [] 0 false)) := bsE_of (fun K => by kernel_rfl) h
theorem b050 (h : Heap) : bsE Try.prog 39 0 [] h = some (.slice h.next 0 0 0,h.new (.cells [] 0 false)) := bsE_of (fun K => by kernel_rfl) h
theorem in32 (d : Nat) (h : Heap) (a0 a1 : AV) : callD env (d + 1) 32 [a0,a1] h = run ⟨env.P,callD env d,env.L,Try.f32.ntmps,[],Try.f32.results.toList⟩ [.code (match Try.f32.body with | some c => c | none => .skip)] (argS [a0,a1]) h :=
 callD_run (E := env) [] (by kernel_rfl) Try.func32 rfl (by rw [Try.ntmps32]; simp) (by kernel_rfl)
def memH (a b : Nat) (hu : Bool) : List AV := [.int .i64 4, .map a, .map b, .nilslice, .nilslice, .bool false, .bool hu]
def mapS (s : List Nat) (z : Bool) : List (AV × AV) := match z with | true => [(.int .i64 3, .agg (B s))] | false => []
structure BI (h : Heap) (base β S Ms a b a1 a2 c n i : Nat) (s : List Nat) (lg : AV) (L : Nat) : Prop where
 bu : h.get β = some (.cells [.eslice Ms 0 0 2, .ptr c 0, .eslice S 0 0 1, .bool false,lg] 0 false)
 st : h.get S = some (.cells (stepC n s) 70 false)
 ms : h.get Ms = some (.cells [.ptr a 0, .ptr b 0] 1 false)
 m : h.get a = some (.cells (memH a1 a2 (decide (n < i))) 0 false)
 m1 : h.get a1 = some (.map (mapS s (decide (n < i))) false)
 m2 : h.get a2 = some (.map (mapS s (decide (n < i))) false)
 lt : β < h.next /\ S < h.next /\ Ms < h.next /\ a < h.next /\ a1 < h.next /\ a2 < h.next
 le : base <= β /\ base <= S /\ base <= Ms /\ base <= a /\ base <= a1 /\ base <= a2
 ne : β ≠ S /\ β ≠ Ms /\ β ≠ a /\ β ≠ a1 /\ β ≠ a2 /\ S ≠ Ms /\ S ≠ a /\ S ≠ a1 /\ S ≠ a2 /\ Ms ≠ a /\ Ms ≠ a1 /\ Ms ≠ a2 /\ a ≠ a1 /\ a ≠ a2 /\ a1 ≠ a2
 lo : (i = 0 /\ lg = .nilslice) \/ ∃ old,lg = .eslice L 0 0 i /\ h.get L = some (.cells old 68 false) /\ old.length = i * 68 /\ L ≠ β /\ L ≠ S /\ L ≠ Ms /\ L ≠ a /\ L ≠ a1 /\ L ≠ a2
 lL : base <= L /\ L < h.next
def zz : List Nat := List.replicate 64 0
theorem zz_len : zz.length = 64 := rfl
theorem zz_fold : List.replicate 64 (b8 0) = B zz := rfl
def entC (x : List Nat) : List AV := AV.int .i64 1 :: AV.int .i64 0 :: AV.int .i64 3 :: (B x ++ [AV.int .i64 0])
def entZ : List AV := List.replicate 3 (AV.int IntKind.i64 0) ++ B zz ++ [AV.int IntKind.i64 0]
theorem entZ_fold : List.replicate 3 (AV.int IntKind.i64 0) ++ B zz ++ [AV.int IntKind.i64 0] = entZ := rfl
theorem entZ_len : entZ.length = 68 := rfl
def stpZ : List AV := List.replicate 5 (AV.int IntKind.i64 0) ++ B zz ++ [AV.nilslice]
theorem stpZ_fold : List.replicate 5 (AV.int IntKind.i64 0) ++ B zz ++ [AV.nilslice] = stpZ := rfl
theorem stpZ_len : stpZ.length = 70 := rfl
theorem in57 (d : Nat) (h : Heap) (a0 a1 : AV) : callD env (d + 1) 57 [a0,a1] h = run ⟨env.P,callD env d,env.L,Try.f57.ntmps,[],Try.f57.results.toList⟩ [.code (match Try.f57.body with | some c => c | none => .skip)] (argS [a0,a1]) h :=
 callD_run (E := env) [] (by kernel_rfl) Try.func57 rfl (by rw [Try.ntmps57]; simp) (by kernel_rfl)
theorem eq25 (x y : List Nat) (hx : x.length = 64) (hy : y.length = 64) : eqlE Try.prog 59 (.agg (B x)) (.agg (B y)) = some (decide (M x = M y)) := eql_B Try.underlying59 rfl (by kernel_rfl) (by kernel_rfl) x y hx hy
theorem bz25 : buildE Try.prog 59 [] = some (.agg (B zz)) := by kernel_rfl
theorem del_nil (d : Nat) (h : Heap) (p : Nat) : callD env (d + 2) 33 [.nilslice, .func (.func 34) [] [.ptr p 0]] h = some (.nilslice,h) := by
 rw [callD_run (E := env) [] (by kernel_rfl) Try.func33 rfl (by rw [Try.ntmps33]; simp) (by kernel_rfl)]; simp (maxSteps := 2000000) (implicitDefEqProofs := false) (disch := first | omega | (simp only [SD.down,uA,uL] <;> omega) | fail) only [Try.ntmps33,Try.results33,env_P,env_L,in57,Try.f57,TA.down,TL.down,same_nilslice,resE,oneV, ↓reduceIte,reduceCtorEq,uB,uE,uL,uA,uM,uS,uN,uX,uO,vR,vD,vL,vK,vE,vA,vM,vT,vS,run_loop,run_it]
end Go.Proofs.Ytlnepbkeiianmaa
