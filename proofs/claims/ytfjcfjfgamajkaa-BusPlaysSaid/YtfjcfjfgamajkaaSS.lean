/- Of this program, for all inputs: contracts. No condition but those in the theorems. -/
import Derived.Test.YtfjcfjfgamajkaaAwM3
import Derived.Test.YtfjcfjfgamajkaaTy
import Derived.Test.YtfjcfjfgamajkaaAwStr
import Derived.Test.YtfjcfjfgamajkaaEL
import Derived.Test.YtfjcfjfgamajkaaEM
import Derived.Test.YtfjcfjfgamajkaaAiMemo2
import Derived.Test.YtfjcfjfgamajkaaSA
namespace Go.Proofs.Ytfjcfjfgamajkaa
open Go Go.Ai Go.Aw Go.Proofs
open Nat renaming reduceBEq -> uB,reduceEqDiff -> uE,reduceLT -> uL,reduceAdd -> uA,reduceMul -> uM,reduceSub -> uS,reduceAnd -> uN,reduceXor -> uX,reduceOr -> uO
open Int renaming reduceMod -> vR,reduceDiv -> vD,reduceLT -> vL,reduceLE -> vK,reduceEq -> vE,reduceAdd -> vA,reduceMul -> vM,reduceToNat -> vT,reduceSub -> vS
set_option linter.unusedSimpArgs false
set_option linter.unusedVariables false
set_option maxRecDepth 10000
theorem env_P : env.P = Try.prog := rfl
theorem env_L : env.L = 100000 := rfl
def Keeps (h h' : Heap) : Prop := h.next <= h'.next /\ ∀ j,j < h.next -> h'.get j = h.get j
theorem Keeps.trans {a b c : Heap} (x : Keeps a b) (y : Keeps b c) : Keeps a c := ⟨Nat.le_trans x.1 y.1,fun j hj => (y.2 j (Nat.lt_of_lt_of_le hj x.1)).trans (x.2 j hj)⟩
theorem Keeps.refl (a : Heap) : Keeps a a := ⟨Nat.le_refl _,fun _ _ => rfl⟩
theorem lno40 {call : CallK} {ρ : Operand -> AV} {h : Heap} {dd : Option Tmp} {t : TypeId} {p : String} {a : Array Edge} {g : Option (Nat × Bool)} (x : Operand) : opE Try.prog call ρ ⟨dd, .call ⟨.builtin .len,#[x],#[40]⟩,t,p,a,g⟩ h = th (okv (ρ x)) fun v => th (lenE Try.prog 40 v) fun v => some (v,h) := opE_len1 Try.underlying40 x
theorem lns40 (k o l c : Nat) : lenE Try.prog 40 (.slice k o l c) = some (.int .i64 (l : Int)) := len_slice Try.underlying40 k o l c
theorem lne40 (k o l c : Nat) : lenE Try.prog 40 (.eslice k o l c) = some (.int .i64 (c : Int)) := len_eslice Try.underlying40 k o l c
theorem lnn40 : lenE Try.prog 40 .nilslice = some (.int .i64 0) := len_nilslice Try.underlying40
theorem lno43 {call : CallK} {ρ : Operand -> AV} {h : Heap} {dd : Option Tmp} {t : TypeId} {p : String} {a : Array Edge} {g : Option (Nat × Bool)} (x : Operand) : opE Try.prog call ρ ⟨dd, .call ⟨.builtin .len,#[x],#[43]⟩,t,p,a,g⟩ h = th (okv (ρ x)) fun v => th (lenE Try.prog 43 v) fun v => some (v,h) := opE_len1 Try.underlying43 x
theorem lns43 (k o l c : Nat) : lenE Try.prog 43 (.slice k o l c) = some (.int .i64 (l : Int)) := len_slice Try.underlying43 k o l c
theorem lne43 (k o l c : Nat) : lenE Try.prog 43 (.eslice k o l c) = some (.int .i64 (c : Int)) := len_eslice Try.underlying43 k o l c
theorem lnn43 : lenE Try.prog 43 .nilslice = some (.int .i64 0) := len_nilslice Try.underlying43
theorem lno50 {call : CallK} {ρ : Operand -> AV} {h : Heap} {dd : Option Tmp} {t : TypeId} {p : String} {a : Array Edge} {g : Option (Nat × Bool)} (x : Operand) : opE Try.prog call ρ ⟨dd, .call ⟨.builtin .len,#[x],#[50]⟩,t,p,a,g⟩ h = th (okv (ρ x)) fun v => th (lenE Try.prog 50 v) fun v => some (v,h) := opE_len1 Try.underlying50 x
theorem lns50 (k o l c : Nat) : lenE Try.prog 50 (.slice k o l c) = some (.int .i64 (l : Int)) := len_slice Try.underlying50 k o l c
theorem lne50 (k o l c : Nat) : lenE Try.prog 50 (.eslice k o l c) = some (.int .i64 (c : Int)) := len_eslice Try.underlying50 k o l c
theorem lnn50 : lenE Try.prog 50 .nilslice = some (.int .i64 0) := len_nilslice Try.underlying50
theorem lno62 {call : CallK} {ρ : Operand -> AV} {h : Heap} {dd : Option Tmp} {t : TypeId} {p : String} {a : Array Edge} {g : Option (Nat × Bool)} (x : Operand) : opE Try.prog call ρ ⟨dd, .call ⟨.builtin .len,#[x],#[62]⟩,t,p,a,g⟩ h = th (okv (ρ x)) fun v => th (lenE Try.prog 62 v) fun v => some (v,h) := opE_len1 Try.underlying62 x
theorem lne62 (k o l c : Nat) : lenE Try.prog 62 (.eslice k o l c) = some (.int .i64 (c : Int)) := len_eslice Try.underlying62 k o l c
theorem lnn62 : lenE Try.prog 62 .nilslice = some (.int .i64 0) := len_nilslice Try.underlying62
theorem lno126 {call : CallK} {ρ : Operand -> AV} {h : Heap} {dd : Option Tmp} {t : TypeId} {p : String} {a : Array Edge} {g : Option (Nat × Bool)} (x : Operand) : opE Try.prog call ρ ⟨dd, .call ⟨.builtin .len,#[x],#[126]⟩,t,p,a,g⟩ h = th (okv (ρ x)) fun v => th (lenE Try.prog 126 v) fun v => some (v,h) := opE_len1 Try.underlying126 x
theorem lns126 (k o l c : Nat) : lenE Try.prog 126 (.slice k o l c) = some (.int .i64 (l : Int)) := len_slice Try.underlying126 k o l c
theorem lne126 (k o l c : Nat) : lenE Try.prog 126 (.eslice k o l c) = some (.int .i64 (c : Int)) := len_eslice Try.underlying126 k o l c
theorem lnn126 : lenE Try.prog 126 .nilslice = some (.int .i64 0) := len_nilslice Try.underlying126
theorem lno127 {call : CallK} {ρ : Operand -> AV} {h : Heap} {dd : Option Tmp} {t : TypeId} {p : String} {a : Array Edge} {g : Option (Nat × Bool)} (x : Operand) : opE Try.prog call ρ ⟨dd, .call ⟨.builtin .len,#[x],#[127]⟩,t,p,a,g⟩ h = th (okv (ρ x)) fun v => th (lenE Try.prog 127 v) fun v => some (v,h) := opE_len1 Try.underlying127 x
theorem lne127 (k o l c : Nat) : lenE Try.prog 127 (.eslice k o l c) = some (.int .i64 (c : Int)) := len_eslice Try.underlying127 k o l c
theorem lnn127 : lenE Try.prog 127 .nilslice = some (.int .i64 0) := len_nilslice Try.underlying127
theorem lno141 {call : CallK} {ρ : Operand -> AV} {h : Heap} {dd : Option Tmp} {t : TypeId} {p : String} {a : Array Edge} {g : Option (Nat × Bool)} (x : Operand) : opE Try.prog call ρ ⟨dd, .call ⟨.builtin .len,#[x],#[141]⟩,t,p,a,g⟩ h = th (okv (ρ x)) fun v => th (lenE Try.prog 141 v) fun v => some (v,h) := opE_len1 Try.underlying141 x
theorem lns141 (k o l c : Nat) : lenE Try.prog 141 (.slice k o l c) = some (.int .i64 (l : Int)) := len_slice Try.underlying141 k o l c
theorem lne141 (k o l c : Nat) : lenE Try.prog 141 (.eslice k o l c) = some (.int .i64 (c : Int)) := len_eslice Try.underlying141 k o l c
theorem mk125 {call : CallK} {ρ : Operand -> AV} {h : Heap} {dd : Option Tmp} {t : TypeId} {p : String} {a : Array Edge} {g : Option (Nat × Bool)} : opE Try.prog call ρ ⟨dd, .makeMap 125 none,t,p,a,g⟩ h = some (.map h.next,h.new (.map [] false)) := opE_makeMap Try.underlying125
def TL := PLift.up (And.intro @lno40 (And.intro @lno43 (And.intro @lne43 (And.intro @lnn43 (And.intro @lno50 (And.intro @lns50 (And.intro @lne50 (And.intro @lnn50 (And.intro @lno62 (And.intro @lno126 (And.intro @lns126 (And.intro @lne126 (And.intro @lnn126 (And.intro @lno127 (And.intro @lne127 (And.intro @lno141 (And.intro @lns141 (And.intro @lne141 (And.intro @mk125 (And.intro @cls_bs (And.intro @opE_bs @cls_makeMap)))))))))))))))))))))
def TQ := PLift.up (And.intro TA.down (And.intro TL.down @same_nilslice))
theorem in100 (d : Nat) (h : Heap) (a0 : AV) : callD env (d + 1) 100 [a0] h = run ⟨env.P,callD env d,env.L,Try.f100.ntmps,[],Try.f100.results.toList⟩ [.code (match Try.f100.body with | some c => c | none => .skip)] (argS [a0]) h :=
 callD_run (E := env) [] (by kernel_rfl) Try.func100 rfl (by rw [Try.ntmps100]; simp) (by kernel_rfl)
theorem in101 (d : Nat) (h : Heap) (a0 a1 : AV) : callD env (d + 1) 101 [a0,a1] h = run ⟨env.P,callD env d,env.L,Try.f101.ntmps,[],Try.f101.results.toList⟩ [.code (match Try.f101.body with | some c => c | none => .skip)] (argS [a0,a1]) h :=
 callD_run (E := env) [] (by kernel_rfl) Try.func101 rfl (by rw [Try.ntmps101]; simp) (by kernel_rfl)
theorem in77 (d : Nat) (h : Heap) (a0 : AV) : callD env (d + 1) 77 [a0] h = run ⟨env.P,callD env d,env.L,Try.f77.ntmps,[],Try.f77.results.toList⟩ [.code (match Try.f77.body with | some c => c | none => .skip)] (argS [a0]) h :=
 callD_run (E := env) [] (by kernel_rfl) Try.func77 rfl (by rw [Try.ntmps77]; simp) (by kernel_rfl)
theorem in50 (d : Nat) (h : Heap) (a0 : AV) : callD env (d + 1) 50 [a0] h = run ⟨env.P,callD env d,env.L,Try.f50.ntmps,[],Try.f50.results.toList⟩ [.code (match Try.f50.body with | some c => c | none => .skip)] (argS [a0]) h :=
 callD_run (E := env) [] (by kernel_rfl) Try.func50 rfl (by rw [Try.ntmps50]; simp) (by kernel_rfl)
theorem in59 (d : Nat) (h : Heap) (a0 : AV) : callD env (d + 1) 59 [a0] h = run ⟨env.P,callD env d,env.L,Try.f59.ntmps,[],Try.f59.results.toList⟩ [.code (match Try.f59.body with | some c => c | none => .skip)] (argS [a0]) h :=
 callD_run (E := env) [] (by kernel_rfl) Try.func59 rfl (by rw [Try.ntmps59]; simp) (by kernel_rfl)
theorem in56 (d : Nat) (h : Heap) (a0 : AV) : callD env (d + 1) 56 [a0] h = run ⟨env.P,callD env d,env.L,Try.f56.ntmps,[],Try.f56.results.toList⟩ [.code (match Try.f56.body with | some c => c | none => .skip)] (argS [a0]) h :=
 callD_run (E := env) [] (by kernel_rfl) Try.func56 rfl (by rw [Try.ntmps56]; simp) (by kernel_rfl)
def c33 : List AV := AV.int IntKind.u64 0 :: List.replicate 32 (b8 0)
theorem c33_fold : (AV.int IntKind.u64 0 :: List.replicate 32 (b8 0)) = c33 := rfl
theorem el126 : Elem Try.prog 126 133 64 ((Try.prog.info? 133).getD default) ((((Try.prog.info? 133).getD default).zero).getD default) := ⟨Try.underlying126,by kernel_rfl,by kernel_rfl,by kernel_rfl,by kernel_rfl,by decide +kernel⟩
theorem el43 : Elem Try.prog 43 42 69 ((Try.prog.info? 42).getD default) ((((Try.prog.info? 42).getD default).zero).getD default) := ⟨Try.underlying43,by kernel_rfl,by kernel_rfl,by kernel_rfl,by kernel_rfl,by decide +kernel⟩
theorem el62 : Elem Try.prog 62 65 67 ((Try.prog.info? 65).getD default) ((((Try.prog.info? 65).getD default).zero).getD default) := ⟨Try.underlying62,by kernel_rfl,by kernel_rfl,by kernel_rfl,by kernel_rfl,by decide +kernel⟩
theorem el50 : Elem Try.prog 50 37 0 ((Try.prog.info? 37).getD default) ((((Try.prog.info? 37).getD default).zero).getD default) := ⟨Try.underlying50,by kernel_rfl,by kernel_rfl,by kernel_rfl,by kernel_rfl,by decide +kernel⟩
theorem el40 : Elem Try.prog 40 5 0 ((Try.prog.info? 5).getD default) ((((Try.prog.info? 5).getD default).zero).getD default) := ⟨Try.underlying40,by kernel_rfl,by kernel_rfl,by kernel_rfl,by kernel_rfl,by decide +kernel⟩
def stepC (n : Nat) (s : List Nat) : List AV := [.int .i64 (n : Int), .int .i64 1, .int .i64 0, .int .i64 3, .int .i64 0] ++ (B s ++ [.nilslice])
def memC (a b : Nat) : List AV := [.int .i64 4, .map a, .map b, .nilslice, .nilslice, .bool false, .bool false]
theorem ap43 (call : CallK) (ρ : Operand -> AV) (dd : Option Tmp) (t : TypeId) (p : String) (a : Array Edge) (g : Option (Nat × Bool)) (h : Heap) (s x : Operand) : opE Try.prog call ρ ⟨dd, .call ⟨.builtin .append,#[s,x],#[43,43]⟩,t,p,a,g⟩ h = th (okv (ρ s)) fun u => th (okv (ρ x)) fun v => appE Try.prog 43 u v h := opE_append Try.underlying43 s x
theorem ap50 (call : CallK) (ρ : Operand -> AV) (dd : Option Tmp) (t : TypeId) (p : String) (a : Array Edge) (g : Option (Nat × Bool)) (h : Heap) (s x : Operand) : opE Try.prog call ρ ⟨dd, .call ⟨.builtin .append,#[s,x],#[50,50]⟩,t,p,a,g⟩ h = th (okv (ρ s)) fun u => th (okv (ρ x)) fun v => appE Try.prog 50 u v h := opE_append Try.underlying50 s x
theorem ap40 (call : CallK) (ρ : Operand -> AV) (dd : Option Tmp) (t : TypeId) (p : String) (a : Array Edge) (g : Option (Nat × Bool)) (h : Heap) (s x : Operand) : opE Try.prog call ρ ⟨dd, .call ⟨.builtin .append,#[s,x],#[40,40]⟩,t,p,a,g⟩ h = th (okv (ρ s)) fun u => th (okv (ρ x)) fun v => appE Try.prog 40 u v h := opE_append Try.underlying40 s x
theorem ap62 (call : CallK) (ρ : Operand -> AV) (dd : Option Tmp) (t : TypeId) (p : String) (a : Array Edge) (g : Option (Nat × Bool)) (h : Heap) (s x : Operand) : opE Try.prog call ρ ⟨dd, .call ⟨.builtin .append,#[s,x],#[62,62]⟩,t,p,a,g⟩ h = th (okv (ρ s)) fun u => th (okv (ρ x)) fun v => appE Try.prog 62 u v h := opE_append Try.underlying62 s x
theorem ap126 (call : CallK) (ρ : Operand -> AV) (dd : Option Tmp) (t : TypeId) (p : String) (a : Array Edge) (g : Option (Nat × Bool)) (h : Heap) (s x : Operand) : opE Try.prog call ρ ⟨dd, .call ⟨.builtin .append,#[s,x],#[126,126]⟩,t,p,a,g⟩ h = th (okv (ρ s)) fun u => th (okv (ρ x)) fun v => appE Try.prog 126 u v h := opE_append Try.underlying126 s x
theorem nq43 (q o l c : Nat) : binE Try.prog .eql 43 (.slice q o l c) .nilslice = some (.bool false) := by kernel_rfl
theorem nn43 : binE Try.prog .eql 43 .nilslice .nilslice = some (.bool true) := by kernel_rfl
theorem b043 (h : Heap) : bsE Try.prog 43 0 [] h = some (.slice h.next 0 0 0,h.new (.cells [] 0 false)) := bsE_of (fun K => by kernel_rfl) h
theorem nq40 (q o l c : Nat) : binE Try.prog .eql 40 (.slice q o l c) .nilslice = some (.bool false) := by kernel_rfl
theorem nn40 : binE Try.prog .eql 40 .nilslice .nilslice = some (.bool true) := by kernel_rfl
theorem b040 (h : Heap) : bsE Try.prog 40 0 [] h = some (.slice h.next 0 0 0,h.new (.cells [] 0 false)) := bsE_of (fun K => by kernel_rfl) h
theorem b050 (h : Heap) : bsE Try.prog 50 0 [] h = some (.slice h.next 0 0 0,h.new (.cells [] 0 false)) := bsE_of (fun K => by kernel_rfl) h
theorem in69 (d : Nat) (h : Heap) (a0 a1 : AV) : callD env (d + 1) 69 [a0,a1] h = run ⟨env.P,callD env d,env.L,Try.f69.ntmps,[],Try.f69.results.toList⟩ [.code (match Try.f69.body with | some c => c | none => .skip)] (argS [a0,a1]) h :=
 callD_run (E := env) [] (by kernel_rfl) Try.func69 rfl (by rw [Try.ntmps69]; simp) (by kernel_rfl)
def memH (a b : Nat) (hu : Bool) : List AV := [.int .i64 4, .map a, .map b, .nilslice, .nilslice, .bool false, .bool hu]
def mapS (s : List Nat) (z : Bool) : List (AV × AV) := match z with | true => [(.int .i64 3, .agg (B s))] | false => []
structure BI (h : Heap) (base β S Ms a b a1 a2 c n i : Nat) (s : List Nat) (lg : AV) (L : Nat) : Prop where
 bu : h.get β = some (.cells [.eslice Ms 0 0 2, .ptr c 0, .eslice S 0 0 1, .bool false,lg] 0 false)
 st : h.get S = some (.cells (stepC n s) 70 false)
 ms : h.get Ms = some (.cells [.ptr a 0, .ptr b 0] 1 false)
 m : h.get a = some (.cells (memH a1 a2 (decide (n < i))) 0 false)
 m1 : h.get a1 = some (.map (mapS s (decide (n < i))) false)
 m2 : h.get a2 = some (.map (mapS s (decide (n < i))) false)
 lt : β < h.next /\ S < h.next /\ Ms < h.next /\ a < h.next /\ a1 < h.next /\ a2 < h.next
 le : base <= β /\ base <= S /\ base <= Ms /\ base <= a /\ base <= a1 /\ base <= a2
 ne : β ≠ S /\ β ≠ Ms /\ β ≠ a /\ β ≠ a1 /\ β ≠ a2 /\ S ≠ Ms /\ S ≠ a /\ S ≠ a1 /\ S ≠ a2 /\ Ms ≠ a /\ Ms ≠ a1 /\ Ms ≠ a2 /\ a ≠ a1 /\ a ≠ a2 /\ a1 ≠ a2
 lo : (i = 0 /\ lg = .nilslice) \/ ∃ old,lg = .eslice L 0 0 i /\ h.get L = some (.cells old 68 false) /\ old.length = i * 68 /\ L ≠ β /\ L ≠ S /\ L ≠ Ms /\ L ≠ a /\ L ≠ a1 /\ L ≠ a2
 lL : base <= L /\ L < h.next
def zz : List Nat := List.replicate 64 0
theorem zz_len : zz.length = 64 := rfl
theorem zz_fold : List.replicate 64 (b8 0) = B zz := rfl
def entC (x : List Nat) : List AV := AV.int .i64 1 :: AV.int .i64 0 :: AV.int .i64 3 :: (B x ++ [AV.int .i64 0])
def entZ : List AV := List.replicate 3 (AV.int IntKind.i64 0) ++ B zz ++ [AV.int IntKind.i64 0]
theorem entZ_fold : List.replicate 3 (AV.int IntKind.i64 0) ++ B zz ++ [AV.int IntKind.i64 0] = entZ := rfl
theorem entZ_len : entZ.length = 68 := rfl
def stpZ : List AV := List.replicate 5 (AV.int IntKind.i64 0) ++ B zz ++ [AV.nilslice]
theorem stpZ_fold : List.replicate 5 (AV.int IntKind.i64 0) ++ B zz ++ [AV.nilslice] = stpZ := rfl
theorem stpZ_len : stpZ.length = 70 := rfl
theorem in152 (d : Nat) (h : Heap) (a0 a1 : AV) : callD env (d + 1) 152 [a0,a1] h = run ⟨env.P,callD env d,env.L,Try.f152.ntmps,[],Try.f152.results.toList⟩ [.code (match Try.f152.body with | some c => c | none => .skip)] (argS [a0,a1]) h :=
 callD_run (E := env) [] (by kernel_rfl) Try.func152 rfl (by rw [Try.ntmps152]; simp) (by kernel_rfl)
theorem eq25 (x y : List Nat) (hx : x.length = 64) (hy : y.length = 64) : eqlE Try.prog 25 (.agg (B x)) (.agg (B y)) = some (decide (M x = M y)) := eql_B Try.underlying25 rfl (by kernel_rfl) (by kernel_rfl) x y hx hy
theorem bz25 : buildE Try.prog 25 [] = some (.agg (B zz)) := by kernel_rfl
theorem del_nil (d : Nat) (h : Heap) (p : Nat) : callD env (d + 2) 145 [.nilslice, .func (.func 146) [] [.ptr p 0]] h = some (.nilslice,h) := by
 rw [callD_run (E := env) [] (by kernel_rfl) Try.func145 rfl (by rw [Try.ntmps145]; simp) (by kernel_rfl)]; simp (maxSteps := 2000000) (implicitDefEqProofs := false) (disch := first | omega | (simp only [SD.down,uA,uL] <;> omega) | fail) only [Try.ntmps145,Try.results145,env_P,env_L,in152,Try.f152,TA.down,TL.down,same_nilslice,resE,oneV, ↓reduceIte,reduceCtorEq,uB,uE,uL,uA,uM,uS,uN,uX,uO,vR,vD,vL,vK,vE,vA,vM,vT,vS,run_loop,run_it]
end Go.Proofs.Ytfjcfjfgamajkaa
