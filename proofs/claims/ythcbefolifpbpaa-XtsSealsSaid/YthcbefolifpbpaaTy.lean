/- Laws on this program's types, printed by a program of ours. No condition but those in the theorems. -/
import Derived.Test.YthcbefolifpbpaaProg
import Derived.Test.YthcbefolifpbpaaAwM3
namespace Go.Proofs.Ythcbefolifpbpaa
open Go Go.Ai Go.Aw
set_option maxRecDepth 100000
theorem sz23 : szE Try.prog 23 = some 32 := by kernel_rfl
theorem sz49 : szE Try.prog 49 = some 1 := by kernel_rfl
theorem sz53 : szE Try.prog 53 = some 64 := by kernel_rfl
theorem sz43 : szE Try.prog 43 = some 3 := by kernel_rfl
theorem sz83 : szE Try.prog 83 = some 240 := by kernel_rfl
theorem sz31 : szE Try.prog 31 = some 240 := by kernel_rfl
theorem sz24 : szE Try.prog 24 = some 16 := by kernel_rfl
theorem sz4 : szE Try.prog 4 = some 1 := by kernel_rfl
theorem sz30 : szE Try.prog 30 = some 256 := by kernel_rfl
theorem sz5 : szE Try.prog 5 = some 1 := by kernel_rfl
theorem sz82 : szE Try.prog 82 = some 4 := by kernel_rfl
theorem sz91 : szE Try.prog 91 = some 16 := by kernel_rfl
theorem sz78 : szE Try.prog 78 = some 128 := by kernel_rfl
theorem sz27 : szE Try.prog 27 = some 1 := by kernel_rfl
theorem sz63 : szE Try.prog 63 = some 1 := by kernel_rfl
theorem ze91 : zeroE Try.prog 91 = some (.agg (List.replicate 16 (b8 0 : AV))) := by kernel_rfl
theorem ze82 : zeroE Try.prog 82 = some (.agg (List.replicate 4 (b8 0 : AV))) := by kernel_rfl
theorem ze83 : zeroE Try.prog 83 = some (.agg (List.replicate 240 (b8 0 : AV))) := by kernel_rfl
theorem ze78 : zeroE Try.prog 78 = some (.agg (List.replicate 128 (.bool false : AV))) := by kernel_rfl
theorem ze67 : zeroE Try.prog 67 = some (.agg (List.replicate 2 (.nilptr : AV))) := by kernel_rfl
theorem ze53 : zeroE Try.prog 53 = some (.agg (List.replicate 64 (b8 0 : AV))) := by kernel_rfl
theorem ze45 : zeroE Try.prog 45 = some (.agg (List.replicate 752 (b8 0 : AV) ++ [.bool false] ++ [.int .u32 0] ++ [.int .i32 0] ++ [.int .u32 0])) := by kernel_rfl
theorem ze24 : zeroE Try.prog 24 = some (.agg (List.replicate 16 (b8 0 : AV))) := by kernel_rfl
theorem ze23 : zeroE Try.prog 23 = some (.agg (List.replicate 32 (b8 0 : AV))) := by kernel_rfl
theorem pt82 (cs : List AV) (off : Nat) : partE Try.prog 82 cs off = th (cutE off 4 cs) fun r => some (.agg r) := partE_agg Try.underlying82 rfl sz82 ..
theorem pt5 (cs : List AV) (off : Nat) : partE Try.prog 5 cs off = cs[off]? := partE_sc Try.underlying5 rfl ..
theorem ld63 (off : Nat) (cs : List AV) (e : Nat) (r : Bool) : loadB Try.prog 63 off (some (.cells cs e r)) = cs[off]? := loadB_sc Try.underlying63 rfl ..

theorem ia88 (k off l c : Nat) (q : IntKind) (i : Int) : indexAddrE Try.prog 88 (.slice k off l c) (.int q i) = th (idxE i l) fun i => some (.ptr k (off + i * 1)) := ia_slice Try.underlying88 sz63 ..
theorem ib88 (k off i0 l : Nat) (q : IntKind) (i : Int) : indexAddrE Try.prog 88 (.eslice k off i0 l) (.int q i) = th (idxE i l) fun i => some (.ptr k (off + i * 1)) := ia_eslice Try.underlying88 sz63 ..
theorem fa67_1 (k off : Nat) : fieldAddrE Try.prog 67 (.ptr k off) 1 = some (.ptr k (off + 1)) := fa_of 1 0 1 Try.underlying67 rfl rfl sz27 rfl ..
theorem ld78 (off : Nat) (cs : List AV) (e : Nat) (r : Bool) : loadB Try.prog 78 off (some (.cells cs e r)) = th (cutE off 128 cs) fun r => some (.agg r) := loadB_agg Try.underlying78 rfl sz78 ..

theorem ld91 (off : Nat) (cs : List AV) (e : Nat) (r : Bool) : loadB Try.prog 91 off (some (.cells cs e r)) = th (cutE off 16 cs) fun r => some (.agg r) := loadB_agg Try.underlying91 rfl sz91 ..

theorem ia91 (k off : Nat) (q : IntKind) (i : Int) : indexAddrE Try.prog 91 (.ptr k off) (.int q i) = th (idxE i 4) fun i => some (.ptr k (off + i * 4)) := ia_arr Try.underlying91 sz82 ..
theorem st91 (h : Heap) (k off : Nat) (v : AV) : storeE Try.prog h 91 (.ptr k off) v = if v.cells.length = 16 then storeB h k off v.cells (h.get k) else none := storeE_ptr sz91 ..
theorem cv49_5 (call : CallK) (ρ : Operand → AV) (dd : Option Tmp) (t : TypeId) (p : String) (a : Array Edge) (g : Option (Nat × Bool)) (h : Heap) (x : Operand) : opE Try.prog call ρ ⟨dd, .convert 49 5 x, t, p, a, g⟩ h = th (okv (ρ x)) fun v => th (convPureE Try.prog 49 5 v) fun v => some (v, h) := opE_conv Try.underlying49 Try.underlying5 rfl ..
theorem cx49_5 (dd : Option Tmp) (t : TypeId) (p : String) (a : Array Edge) (g : Option (Nat × Bool)) (x : Operand) : cls Try.prog ⟨dd, .convert 49 5 x, t, p, a, g⟩ = .p := cls_conv Try.underlying49 Try.underlying5 rfl ..
theorem cw49_5 (q : IntKind) (n : Int) (h : 0 ≤ n) : convPureE Try.prog 49 5 (.int q n) = some (b8 n.toNat) := by rw [conv_int Try.underlying49 Try.underlying5, int_u8 h]
theorem ix30 (cs : List AV) (q : IntKind) (i : Int) : indexE Try.prog 30 (.agg cs) (.int q i) = th (idxE i 256) fun i => partE Try.prog 5 cs (i * 1) := ix_arr Try.underlying30 sz5 ..
theorem ld30 (off : Nat) (cs : List AV) (e : Nat) (r : Bool) : loadB Try.prog 30 off (some (.cells cs e r)) = th (cutE off 256 cs) fun r => some (.agg r) := loadB_agg Try.underlying30 rfl sz30 ..

theorem ia63 (k off l c : Nat) (q : IntKind) (i : Int) : indexAddrE Try.prog 63 (.slice k off l c) (.int q i) = th (idxE i l) fun i => some (.ptr k (off + i * 1)) := ia_slice Try.underlying63 sz5 ..
theorem ib63 (k off i0 l : Nat) (q : IntKind) (i : Int) : indexAddrE Try.prog 63 (.eslice k off i0 l) (.int q i) = th (idxE i l) fun i => some (.ptr k (off + i * 1)) := ia_eslice Try.underlying63 sz5 ..
theorem fa45_3 (k off : Nat) : fieldAddrE Try.prog 45 (.ptr k off) 3 = some (.ptr k (off + 752)) := fa_of 3 0 752 Try.underlying45 rfl rfl sz4 rfl ..
theorem sl82 (k off : Nat) (q q' : IntKind) (l h : Int) : sliceE Try.prog 82 (.ptr k off) (some (.int q l)) (some (.int q' h)) none = th (idxE h (4 + 1)) fun h => th (idxE l (h + 1)) fun l => some (.slice k (offS 4 l off 1) (h - l) (4 - l)) := sl_arr Try.underlying82 sz5 ..
theorem slh82 (k off : Nat) (q' : IntKind) (h : Int) : sliceE Try.prog 82 (.ptr k off) none (some (.int q' h)) none = th (idxE h (4 + 1)) fun h => some (.slice k (offS 4 0 off 1) (h - 0) (4 - 0)) := sl_arr_h Try.underlying82 sz5 ..
theorem sll82 (k off : Nat) (q : IntKind) (l : Int) : sliceE Try.prog 82 (.ptr k off) (some (.int q l)) none none = th (idxE l (4 + 1)) fun l => some (.slice k (offS 4 l off 1) (4 - l) (4 - l)) := sl_arr_l Try.underlying82 sz5 ..
theorem slo82 (k off : Nat) : sliceE Try.prog 82 (.ptr k off) none none none = some (.slice k (offS 4 0 off 1) (4 - 0) (4 - 0)) := sl_arr_0 Try.underlying82 sz5 ..
theorem ia31 (k off : Nat) (q : IntKind) (i : Int) : indexAddrE Try.prog 31 (.ptr k off) (.int q i) = th (idxE i 15) fun i => some (.ptr k (off + i * 16)) := ia_arr Try.underlying31 sz24 ..
theorem fa45_2 (k off : Nat) : fieldAddrE Try.prog 45 (.ptr k off) 2 = some (.ptr k (off + 512)) := fa_of 2 239 512 Try.underlying45 rfl rfl sz31 rfl ..
theorem ix83 (cs : List AV) (q : IntKind) (i : Int) : indexE Try.prog 83 (.agg cs) (.int q i) = th (idxE i 60) fun i => partE Try.prog 82 cs (i * 4) := ix_arr Try.underlying83 sz82 ..
theorem ld83 (off : Nat) (cs : List AV) (e : Nat) (r : Bool) : loadB Try.prog 83 off (some (.cells cs e r)) = th (cutE off 240 cs) fun r => some (.agg r) := loadB_agg Try.underlying83 rfl sz83 ..

theorem bu82 (ps : List (Nat × AV)) (hi : (ps.all fun x => decide (x.1 < 4)) = true) : buildE Try.prog 82 ps = th (fillZ [(0, 1), (1, 1), (2, 1), (3, 1)] ps (match zeroE Try.prog 82 with | some z => z.cells | none => [])) fun cs => some (.agg cs) := build_arr Try.underlying82 sz5 ze82 rfl ps hi
theorem ia82 (k off : Nat) (q : IntKind) (i : Int) : indexAddrE Try.prog 82 (.ptr k off) (.int q i) = th (idxE i 4) fun i => some (.ptr k (off + i * 1)) := ia_arr Try.underlying82 sz5 ..
theorem st82 (h : Heap) (k off : Nat) (v : AV) : storeE Try.prog h 82 (.ptr k off) v = if v.cells.length = 4 then storeB h k off v.cells (h.get k) else none := storeE_ptr sz82 ..
theorem ia83 (k off : Nat) (q : IntKind) (i : Int) : indexAddrE Try.prog 83 (.ptr k off) (.int q i) = th (idxE i 60) fun i => some (.ptr k (off + i * 4)) := ia_arr Try.underlying83 sz82 ..
theorem ld82 (off : Nat) (cs : List AV) (e : Nat) (r : Bool) : loadB Try.prog 82 off (some (.cells cs e r)) = th (cutE off 4 cs) fun r => some (.agg r) := loadB_agg Try.underlying82 rfl sz82 ..

theorem aa82 (k off l c : Nat) (hl : 4 ≤ l) : arrayAtE Try.prog 82 (.slice k off l c) = some (.ptr k off) := aa_slice Try.underlying82 hl
theorem sl23 (k off : Nat) (q q' : IntKind) (l h : Int) : sliceE Try.prog 23 (.ptr k off) (some (.int q l)) (some (.int q' h)) none = th (idxE h (32 + 1)) fun h => th (idxE l (h + 1)) fun l => some (.slice k (offS 32 l off 1) (h - l) (32 - l)) := sl_arr Try.underlying23 sz5 ..
theorem slh23 (k off : Nat) (q' : IntKind) (h : Int) : sliceE Try.prog 23 (.ptr k off) none (some (.int q' h)) none = th (idxE h (32 + 1)) fun h => some (.slice k (offS 32 0 off 1) (h - 0) (32 - 0)) := sl_arr_h Try.underlying23 sz5 ..
theorem sll23 (k off : Nat) (q : IntKind) (l : Int) : sliceE Try.prog 23 (.ptr k off) (some (.int q l)) none none = th (idxE l (32 + 1)) fun l => some (.slice k (offS 32 l off 1) (32 - l) (32 - l)) := sl_arr_l Try.underlying23 sz5 ..
theorem slo23 (k off : Nat) : sliceE Try.prog 23 (.ptr k off) none none none = some (.slice k (offS 32 0 off 1) (32 - 0) (32 - 0)) := sl_arr_0 Try.underlying23 sz5 ..
theorem cv3_77 (call : CallK) (ρ : Operand → AV) (dd : Option Tmp) (t : TypeId) (p : String) (a : Array Edge) (g : Option (Nat × Bool)) (h : Heap) (x : Operand) : opE Try.prog call ρ ⟨dd, .convert 3 77 x, t, p, a, g⟩ h = th (okv (ρ x)) fun v => th (convPureE Try.prog 3 77 v) fun v => some (v, h) := opE_conv Try.underlying3 Try.underlying77 rfl ..
theorem cx3_77 (dd : Option Tmp) (t : TypeId) (p : String) (a : Array Edge) (g : Option (Nat × Bool)) (x : Operand) : cls Try.prog ⟨dd, .convert 3 77 x, t, p, a, g⟩ = .p := cls_conv Try.underlying3 Try.underlying77 rfl ..
theorem cw3_77 (q : IntKind) (n : Int) : convPureE Try.prog 3 77 (.int q n) = some (.int .u64 (wrapA .u64 n)) := conv_int Try.underlying3 Try.underlying77 ..
theorem st4 (h : Heap) (k off : Nat) (v : AV) : storeE Try.prog h 4 (.ptr k off) v = if v.cells.length = 1 then storeB h k off v.cells (h.get k) else none := storeE_ptr sz4 ..
theorem ld4 (off : Nat) (cs : List AV) (e : Nat) (r : Bool) : loadB Try.prog 4 off (some (.cells cs e r)) = cs[off]? := loadB_sc Try.underlying4 rfl ..

theorem ia78 (k off : Nat) (q : IntKind) (i : Int) : indexAddrE Try.prog 78 (.ptr k off) (.int q i) = th (idxE i 128) fun i => some (.ptr k (off + i * 1)) := ia_arr Try.underlying78 sz4 ..
theorem st78 (h : Heap) (k off : Nat) (v : AV) : storeE Try.prog h 78 (.ptr k off) v = if v.cells.length = 128 then storeB h k off v.cells (h.get k) else none := storeE_ptr sz78 ..
theorem pq27 (k o : Nat) : binE Try.prog .eql 27 (.ptr k o) .nilptr = some (.bool false) := eql_pn Try.underlying27 ..
theorem pn27 (k o : Nat) : binE Try.prog .neq 27 (.ptr k o) .nilptr = some (.bool true) := neq_pn Try.underlying27 ..
theorem qq27 : binE Try.prog .eql 27 .nilptr .nilptr = some (.bool true) := eql_nn Try.underlying27
theorem qn27 : binE Try.prog .neq 27 .nilptr .nilptr = some (.bool false) := neq_nn Try.underlying27
theorem fa67_0 (k off : Nat) : fieldAddrE Try.prog 67 (.ptr k off) 0 = some (.ptr k (off + 0)) := fa_of 0 0 0 Try.underlying67 rfl rfl sz27 rfl ..
theorem pq54 (k o : Nat) : binE Try.prog .eql 54 (.ptr k o) .nilptr = some (.bool false) := eql_pn Try.underlying54 ..
theorem pn54 (k o : Nat) : binE Try.prog .neq 54 (.ptr k o) .nilptr = some (.bool true) := neq_pn Try.underlying54 ..
theorem qq54 : binE Try.prog .eql 54 .nilptr .nilptr = some (.bool true) := eql_nn Try.underlying54
theorem qn54 : binE Try.prog .neq 54 .nilptr .nilptr = some (.bool false) := neq_nn Try.underlying54
theorem fa45_1 (k off : Nat) : fieldAddrE Try.prog 45 (.ptr k off) 1 = some (.ptr k (off + 256)) := fa_of 1 255 256 Try.underlying45 rfl rfl sz30 rfl ..
theorem ix24 (cs : List AV) (q : IntKind) (i : Int) : indexE Try.prog 24 (.agg cs) (.int q i) = th (idxE i 16) fun i => partE Try.prog 5 cs (i * 1) := ix_arr Try.underlying24 sz5 ..
theorem fa45_4 (k off : Nat) : fieldAddrE Try.prog 45 (.ptr k off) 4 = some (.ptr k (off + 753)) := fa_of 4 2 753 Try.underlying45 rfl rfl sz43 rfl ..
theorem ld27 (off : Nat) (cs : List AV) (e : Nat) (r : Bool) : loadB Try.prog 27 off (some (.cells cs e r)) = cs[off]? := loadB_sc Try.underlying27 rfl ..

theorem ia30 (k off : Nat) (q : IntKind) (i : Int) : indexAddrE Try.prog 30 (.ptr k off) (.int q i) = th (idxE i 256) fun i => some (.ptr k (off + i * 1)) := ia_arr Try.underlying30 sz5 ..
theorem fa45_0 (k off : Nat) : fieldAddrE Try.prog 45 (.ptr k off) 0 = some (.ptr k (off + 0)) := fa_of 0 255 0 Try.underlying45 rfl rfl sz30 rfl ..
theorem ia23 (k off : Nat) (q : IntKind) (i : Int) : indexAddrE Try.prog 23 (.ptr k off) (.int q i) = th (idxE i 32) fun i => some (.ptr k (off + i * 1)) := ia_arr Try.underlying23 sz5 ..
theorem cv3_5 (call : CallK) (ρ : Operand → AV) (dd : Option Tmp) (t : TypeId) (p : String) (a : Array Edge) (g : Option (Nat × Bool)) (h : Heap) (x : Operand) : opE Try.prog call ρ ⟨dd, .convert 3 5 x, t, p, a, g⟩ h = th (okv (ρ x)) fun v => th (convPureE Try.prog 3 5 v) fun v => some (v, h) := opE_conv Try.underlying3 Try.underlying5 rfl ..
theorem cx3_5 (dd : Option Tmp) (t : TypeId) (p : String) (a : Array Edge) (g : Option (Nat × Bool)) (x : Operand) : cls Try.prog ⟨dd, .convert 3 5 x, t, p, a, g⟩ = .p := cls_conv Try.underlying3 Try.underlying5 rfl ..
theorem cw3_5 (q : IntKind) (n : Int) (h : 0 ≤ n) : convPureE Try.prog 3 5 (.int q n) = some (b8 n.toNat) := by rw [conv_int Try.underlying3 Try.underlying5, int_u8 h]
theorem bu67 (ps : List (Nat × AV)) : buildE Try.prog 67 ps = th (fillZ [(0, 1), (1, 1)] ps (match zeroE Try.prog 67 with | some z => z.cells | none => [])) fun cs => some (.agg cs) := build_st Try.underlying67 ze67 (by kernel_rfl) (by kernel_rfl) ps
theorem st5 (h : Heap) (k off : Nat) (v : AV) : storeE Try.prog h 5 (.ptr k off) v = if v.cells.length = 1 then storeB h k off v.cells (h.get k) else none := storeE_ptr sz5 ..
theorem ia24 (k off : Nat) (q : IntKind) (i : Int) : indexAddrE Try.prog 24 (.ptr k off) (.int q i) = th (idxE i 16) fun i => some (.ptr k (off + i * 1)) := ia_arr Try.underlying24 sz5 ..
theorem ia53 (k off : Nat) (q : IntKind) (i : Int) : indexAddrE Try.prog 53 (.ptr k off) (.int q i) = th (idxE i 64) fun i => some (.ptr k (off + i * 1)) := ia_arr Try.underlying53 sz5 ..
theorem cp63 (h : Heap) (k off l c k2 off2 l2 c2 : Nat) (hp : 0 < l) (hp2 : 0 < l2) : copyE Try.prog h 63 (.slice k off l c) (.slice k2 off2 l2 c2) = th (atB (minS l2 l * 1) off2 (h.get k2)) fun cs => th (layB h k off cs (h.get k)) fun h => some (.int .i64 (minS l2 l : Nat), h) := copy_ss Try.underlying63 sz5 h hp hp2
theorem sl24 (k off : Nat) (q q' : IntKind) (l h : Int) : sliceE Try.prog 24 (.ptr k off) (some (.int q l)) (some (.int q' h)) none = th (idxE h (16 + 1)) fun h => th (idxE l (h + 1)) fun l => some (.slice k (offS 16 l off 1) (h - l) (16 - l)) := sl_arr Try.underlying24 sz5 ..
theorem slh24 (k off : Nat) (q' : IntKind) (h : Int) : sliceE Try.prog 24 (.ptr k off) none (some (.int q' h)) none = th (idxE h (16 + 1)) fun h => some (.slice k (offS 16 0 off 1) (h - 0) (16 - 0)) := sl_arr_h Try.underlying24 sz5 ..
theorem sll24 (k off : Nat) (q : IntKind) (l : Int) : sliceE Try.prog 24 (.ptr k off) (some (.int q l)) none none = th (idxE l (16 + 1)) fun l => some (.slice k (offS 16 l off 1) (16 - l) (16 - l)) := sl_arr_l Try.underlying24 sz5 ..
theorem slo24 (k off : Nat) : sliceE Try.prog 24 (.ptr k off) none none none = some (.slice k (offS 16 0 off 1) (16 - 0) (16 - 0)) := sl_arr_0 Try.underlying24 sz5 ..
theorem fa62_1 (k off : Nat) : fieldAddrE Try.prog 62 (.ptr k off) 1 = some (.ptr k (off + 1)) := fa_of 1 15 1 Try.underlying62 rfl rfl sz24 rfl ..
theorem sl53 (k off : Nat) (q q' : IntKind) (l h : Int) : sliceE Try.prog 53 (.ptr k off) (some (.int q l)) (some (.int q' h)) none = th (idxE h (64 + 1)) fun h => th (idxE l (h + 1)) fun l => some (.slice k (offS 64 l off 1) (h - l) (64 - l)) := sl_arr Try.underlying53 sz5 ..
theorem slh53 (k off : Nat) (q' : IntKind) (h : Int) : sliceE Try.prog 53 (.ptr k off) none (some (.int q' h)) none = th (idxE h (64 + 1)) fun h => some (.slice k (offS 64 0 off 1) (h - 0) (64 - 0)) := sl_arr_h Try.underlying53 sz5 ..
theorem sll53 (k off : Nat) (q : IntKind) (l : Int) : sliceE Try.prog 53 (.ptr k off) (some (.int q l)) none none = th (idxE l (64 + 1)) fun l => some (.slice k (offS 64 l off 1) (64 - l) (64 - l)) := sl_arr_l Try.underlying53 sz5 ..
theorem slo53 (k off : Nat) : sliceE Try.prog 53 (.ptr k off) none none none = some (.slice k (offS 64 0 off 1) (64 - 0) (64 - 0)) := sl_arr_0 Try.underlying53 sz5 ..
theorem cv5_3 (call : CallK) (ρ : Operand → AV) (dd : Option Tmp) (t : TypeId) (p : String) (a : Array Edge) (g : Option (Nat × Bool)) (h : Heap) (x : Operand) : opE Try.prog call ρ ⟨dd, .convert 5 3 x, t, p, a, g⟩ h = th (okv (ρ x)) fun v => th (convPureE Try.prog 5 3 v) fun v => some (v, h) := opE_conv Try.underlying5 Try.underlying3 rfl ..
theorem cx5_3 (dd : Option Tmp) (t : TypeId) (p : String) (a : Array Edge) (g : Option (Nat × Bool)) (x : Operand) : cls Try.prog ⟨dd, .convert 5 3 x, t, p, a, g⟩ = .p := cls_conv Try.underlying5 Try.underlying3 rfl ..
theorem cw5_3 (q : IntKind) (n : Int) : convPureE Try.prog 5 3 (.int q n) = some (.int .i64 (wrapA .i64 n)) := conv_int Try.underlying5 Try.underlying3 ..
theorem ld5 (off : Nat) (cs : List AV) (e : Nat) (r : Bool) : loadB Try.prog 5 off (some (.cells cs e r)) = cs[off]? := loadB_sc Try.underlying5 rfl ..

theorem fa62_0 (k off : Nat) : fieldAddrE Try.prog 62 (.ptr k off) 0 = some (.ptr k (off + 0)) := fa_of 0 0 0 Try.underlying62 rfl rfl sz5 rfl ..
theorem st53 (h : Heap) (k off : Nat) (v : AV) : storeE Try.prog h 53 (.ptr k off) v = if v.cells.length = 64 then storeB h k off v.cells (h.get k) else none := storeE_ptr sz53 ..
theorem ld53 (off : Nat) (cs : List AV) (e : Nat) (r : Bool) : loadB Try.prog 53 off (some (.cells cs e r)) = th (cutE off 64 cs) fun r => some (.agg r) := loadB_agg Try.underlying53 rfl sz53 ..

theorem ld49 (off : Nat) (cs : List AV) (e : Nat) (r : Bool) : loadB Try.prog 49 off (some (.cells cs e r)) = cs[off]? := loadB_sc Try.underlying49 rfl ..

theorem fa51_2 (k off : Nat) : fieldAddrE Try.prog 51 (.ptr k off) 2 = some (.ptr k (off + 64)) := fa_of 2 0 64 Try.underlying51 rfl rfl sz49 rfl ..
theorem fa51_1 (k off : Nat) : fieldAddrE Try.prog 51 (.ptr k off) 1 = some (.ptr k (off + 32)) := fa_of 1 31 32 Try.underlying51 rfl rfl sz23 rfl ..
theorem fa51_0 (k off : Nat) : fieldAddrE Try.prog 51 (.ptr k off) 0 = some (.ptr k (off + 0)) := fa_of 0 31 0 Try.underlying51 rfl rfl sz23 rfl ..
theorem ia47 (k off l c : Nat) (q : IntKind) (i : Int) : indexAddrE Try.prog 47 (.slice k off l c) (.int q i) = th (idxE i l) fun i => some (.ptr k (off + i * 16)) := ia_slice Try.underlying47 sz24 ..
theorem ib47 (k off i0 l : Nat) (q : IntKind) (i : Int) : indexAddrE Try.prog 47 (.eslice k off i0 l) (.int q i) = th (idxE i l) fun i => some (.ptr k (off + i * 16)) := ia_eslice Try.underlying47 sz24 ..
theorem ld24 (off : Nat) (cs : List AV) (e : Nat) (r : Bool) : loadB Try.prog 24 off (some (.cells cs e r)) = th (cutE off 16 cs) fun r => some (.agg r) := loadB_agg Try.underlying24 rfl sz24 ..

theorem bu45 (ps : List (Nat × AV)) : buildE Try.prog 45 ps = th (fillZ [(0, 256), (256, 256), (512, 240), (752, 1), (753, 3)] ps (match zeroE Try.prog 45 with | some z => z.cells | none => [])) fun cs => some (.agg cs) := build_st Try.underlying45 ze45 (by kernel_rfl) (by kernel_rfl) ps
theorem bu24 (ps : List (Nat × AV)) (hi : (ps.all fun x => decide (x.1 < 16)) = true) : buildE Try.prog 24 ps = th (fillZ [(0, 1), (1, 1), (2, 1), (3, 1), (4, 1), (5, 1), (6, 1), (7, 1), (8, 1), (9, 1), (10, 1), (11, 1), (12, 1), (13, 1), (14, 1), (15, 1)] ps (match zeroE Try.prog 24 with | some z => z.cells | none => [])) fun cs => some (.agg cs) := build_arr Try.underlying24 sz5 ze24 rfl ps hi
theorem ld23 (off : Nat) (cs : List AV) (e : Nat) (r : Bool) : loadB Try.prog 23 off (some (.cells cs e r)) = th (cutE off 32 cs) fun r => some (.agg r) := loadB_agg Try.underlying23 rfl sz23 ..

theorem st24 (h : Heap) (k off : Nat) (v : AV) : storeE Try.prog h 24 (.ptr k off) v = if v.cells.length = 16 then storeB h k off v.cells (h.get k) else none := storeE_ptr sz24 ..
theorem st23 (h : Heap) (k off : Nat) (v : AV) : storeE Try.prog h 23 (.ptr k off) v = if v.cells.length = 32 then storeB h k off v.cells (h.get k) else none := storeE_ptr sz23 ..
def TT1 := PLift.up (And.intro @pt82 (And.intro @pt5 (And.intro @ld63 (And.intro @ib88 (And.intro @ia88 (And.intro @fa67_1 (And.intro @ld78 (And.intro @ld91 (And.intro @ia91 (And.intro @st91 (And.intro @ze91 (And.intro @cx49_5 (And.intro @cw49_5 (And.intro @cv49_5 (And.intro @ix30 (And.intro @ld30 (And.intro @ib63 (And.intro @ia63 (And.intro @fa45_3 (And.intro @slo82 (And.intro @sll82 (And.intro @slh82 (And.intro @sl82 (And.intro @ia31 (And.intro @fa45_2 (And.intro @ix83 (And.intro @ld83 (And.intro @bu82 (And.intro @ia82 (And.intro @ze82 (And.intro @st82 (And.intro @ia83 (And.intro @ld82 (And.intro @aa82 (And.intro @slo23 (And.intro @sll23 (And.intro @slh23 (And.intro @sl23 (And.intro @ze83 (@cx3_77))))))))))))))))))))))))))))))))))))))))
def TT2 := PLift.up (And.intro @cw3_77 (And.intro @cv3_77 (And.intro @st4 (And.intro @ld4 (And.intro @ia78 (And.intro @st78 (And.intro @ze78 (And.intro @qq27 (And.intro @qn27 (And.intro @pn27 (And.intro @pq27 (And.intro @fa67_0 (And.intro @qq54 (And.intro @qn54 (And.intro @pn54 (And.intro @pq54 (And.intro @fa45_1 (And.intro @ix24 (And.intro @fa45_4 (And.intro @ld27 (And.intro @ia30 (And.intro @fa45_0 (And.intro @ia23 (And.intro @cx3_5 (And.intro @cw3_5 (And.intro @cv3_5 (And.intro @bu67 (And.intro @ze67 (And.intro @st5 (And.intro @ia24 (And.intro @ia53 (And.intro @cp63 (And.intro @slo24 (And.intro @sll24 (And.intro @slh24 (And.intro @sl24 (And.intro @fa62_1 (And.intro @slo53 (And.intro @sll53 (@slh53))))))))))))))))))))))))))))))))))))))))
def TT3 := PLift.up (And.intro @sl53 (And.intro @cx5_3 (And.intro @cw5_3 (And.intro @cv5_3 (And.intro @ld5 (And.intro @fa62_0 (And.intro @st53 (And.intro @ze53 (And.intro @ld53 (And.intro @ld49 (And.intro @fa51_2 (And.intro @fa51_1 (And.intro @fa51_0 (And.intro @ib47 (And.intro @ia47 (And.intro @ld24 (And.intro @bu45 (And.intro @ze45 (And.intro @bu24 (And.intro @ld23 (And.intro @st24 (And.intro @st23 (And.intro @ze24 (@ze23))))))))))))))))))))))))
/-- all laws of the walk at this program -/
def TA := PLift.up (And.intro SA.down (And.intro SL.down (And.intro SM.down (And.intro TT1.down (And.intro TT2.down TT3.down)))))
end Go.Proofs.Ythcbefolifpbpaa
