/- Laws on this program's types, printed by a program of ours. No condition but those in the theorems. -/
import Derived.Test.YtlnepbkeiianmaaProg
import Derived.Test.YtlnepbkeiianmaaAwM3
namespace Go.Proofs.Ytlnepbkeiianmaa
open Go Go.Ai Go.Aw
set_option maxRecDepth 100000
theorem sz54 : szE Try.prog 54 = some 2 := by kernel_rfl
theorem sz41 : szE Try.prog 41 = some 1 := by kernel_rfl
theorem sz70 : szE Try.prog 70 = some 1 := by kernel_rfl
theorem sz71 : szE Try.prog 71 = some 1 := by kernel_rfl
theorem sz64 : szE Try.prog 64 = some 70 := by kernel_rfl
theorem sz33 : szE Try.prog 33 = some 1 := by kernel_rfl
theorem sz72 : szE Try.prog 72 = some 1 := by kernel_rfl
theorem sz88 : szE Try.prog 88 = some 4 := by kernel_rfl
theorem sz97 : szE Try.prog 97 = some 1 := by kernel_rfl
theorem sz28 : szE Try.prog 28 = some 1 := by kernel_rfl
theorem sz30 : szE Try.prog 30 = some 32 := by kernel_rfl
theorem sz38 : szE Try.prog 38 = some 1 := by kernel_rfl
theorem sz23 : szE Try.prog 23 = some 2 := by kernel_rfl
theorem sz5 : szE Try.prog 5 = some 1 := by kernel_rfl
theorem sz103 : szE Try.prog 103 = some 65 := by kernel_rfl
theorem sz40 : szE Try.prog 40 = some 1 := by kernel_rfl
theorem sz113 : szE Try.prog 113 = some 1 := by kernel_rfl
theorem sz32 : szE Try.prog 32 = some 33 := by kernel_rfl
theorem sz39 : szE Try.prog 39 = some 1 := by kernel_rfl
theorem sz59 : szE Try.prog 59 = some 64 := by kernel_rfl
theorem sz134 : szE Try.prog 134 = some 68 := by kernel_rfl
theorem sz49 : szE Try.prog 49 = some 1 := by kernel_rfl
theorem sz4 : szE Try.prog 4 = some 1 := by kernel_rfl
theorem sz35 : szE Try.prog 35 = some 1 := by kernel_rfl
theorem sz50 : szE Try.prog 50 = some 1 := by kernel_rfl
theorem sz3 : szE Try.prog 3 = some 1 := by kernel_rfl
theorem sz143 : szE Try.prog 143 = some 6 := by kernel_rfl
theorem sz47 : szE Try.prog 47 = some 1 := by kernel_rfl
theorem sz1 : szE Try.prog 1 = some 1 := by kernel_rfl
theorem sz98 : szE Try.prog 98 = some 1 := by kernel_rfl
theorem sz96 : szE Try.prog 96 = some 1 := by kernel_rfl
theorem ze148 : zeroE Try.prog 148 = some (.agg (List.replicate 6 (.nilfunc : AV))) := by kernel_rfl
theorem ze47 : zeroE Try.prog 47 = some (.nilptr) := by kernel_rfl
theorem ze143 : zeroE Try.prog 143 = some (.agg (List.replicate 6 (.int .i64 0 : AV))) := by kernel_rfl
theorem ze134 : zeroE Try.prog 134 = some (.agg (List.replicate 3 (.int .i64 0 : AV) ++ List.replicate 64 (b8 0 : AV) ++ [.int .i64 0])) := by kernel_rfl
theorem ze103 : zeroE Try.prog 103 = some (.agg ([.int .i64 0] ++ List.replicate 64 (b8 0 : AV))) := by kernel_rfl
theorem ze117 : zeroE Try.prog 117 = some (.agg ([.int .u64 0] ++ List.replicate 32 (b8 0 : AV) ++ [.nilslice])) := by kernel_rfl
theorem ze115 : zeroE Try.prog 115 = some (.agg ([.nilslice])) := by kernel_rfl
theorem ze112 : zeroE Try.prog 112 = some (.agg ([.int .i64 0] ++ List.replicate 3 (.nilslice : AV) ++ List.replicate 2 (.bool false : AV))) := by kernel_rfl
theorem ze100 : zeroE Try.prog 100 = some (.agg ([.int .i64 0] ++ List.replicate 2 (.nilmap : AV) ++ List.replicate 2 (.nilslice : AV) ++ List.replicate 2 (.bool false : AV))) := by kernel_rfl
theorem ze88 : zeroE Try.prog 88 = some (.agg ([.nilptr] ++ List.replicate 3 (.int .i64 0 : AV))) := by kernel_rfl
theorem ze84 : zeroE Try.prog 84 = some (.agg (List.replicate 5 (.int .i64 0 : AV) ++ List.replicate 64 (b8 0 : AV) ++ [.nilslice])) := by kernel_rfl
theorem ze43 : zeroE Try.prog 43 = some (.agg ([.nilptr] ++ [.nilslice] ++ List.replicate 2 (.nilptr : AV))) := by kernel_rfl
theorem ze75 : zeroE Try.prog 75 = some (.agg ([.nilslice, .nilptr, .nilslice, .bool false, .nilslice])) := by kernel_rfl
theorem ze64 : zeroE Try.prog 64 = some (.agg (List.replicate 5 (.int .i64 0 : AV) ++ List.replicate 64 (b8 0 : AV) ++ [.nilslice])) := by kernel_rfl
theorem ze59 : zeroE Try.prog 59 = some (.agg (List.replicate 64 (b8 0 : AV))) := by kernel_rfl
theorem ze52 : zeroE Try.prog 52 = some (.agg ([.nilslice, .nilptr, .nilslice, .bool false, .nilslice])) := by kernel_rfl
theorem ze32 : zeroE Try.prog 32 = some (.agg ([.int .u64 0] ++ List.replicate 32 (b8 0 : AV))) := by kernel_rfl
theorem ze23 : zeroE Try.prog 23 = some (.agg (List.replicate 2 (.int .i64 0 : AV))) := by kernel_rfl
theorem pt35 (cs : List AV) (off : Nat) : partE Try.prog 35 cs off = cs[off]? := partE_sc Try.underlying35 rfl ..
theorem pt1 (cs : List AV) (off : Nat) : partE Try.prog 1 cs off = cs[off]? := partE_sc Try.underlying1 rfl ..
theorem ia98 (k off l c : Nat) (q : IntKind) (i : Int) : indexAddrE Try.prog 98 (.slice k off l c) (.int q i) = th (idxE i l) fun i => some (.ptr k (off + i * 1)) := ia_slice Try.underlying98 sz96 ..
theorem ib98 (k off i0 l : Nat) (q : IntKind) (i : Int) : indexAddrE Try.prog 98 (.eslice k off i0 l) (.int q i) = th (idxE i l) fun i => some (.ptr k (off + i * 1)) := ia_eslice Try.underlying98 sz96 ..
theorem st98 (h : Heap) (k off : Nat) (v : AV) : storeE Try.prog h 98 (.ptr k off) v = if v.cells.length = 1 then storeB h k off v.cells (h.get k) else none := storeE_ptr sz98 ..
theorem ld98 (off : Nat) (cs : List AV) (e : Nat) (r : Bool) : loadB Try.prog 98 off (some (.cells cs e r)) = cs[off]? := loadB_sc Try.underlying98 rfl ..
theorem fa100_4 (k off : Nat) : fieldAddrE Try.prog 100 (.ptr k off) 4 = some (.ptr k (off + 4)) := fa_of 4 0 4 Try.underlying100 rfl rfl sz98 rfl ..
theorem ix148 (cs : List AV) (q : IntKind) (i : Int) : indexE Try.prog 148 (.agg cs) (.int q i) = th (idxE i 6) fun i => partE Try.prog 1 cs (i * 1) := ix_arr Try.underlying148 sz1 ..
theorem bu148 (ps : List (Nat × AV)) (hi : (ps.all fun x => decide (x.1 < 6)) = true) : buildE Try.prog 148 ps = th (fillZ [(0,1),(1,1),(2,1),(3,1),(4,1),(5,1)] ps (match zeroE Try.prog 148 with | some z => z.cells | none => [])) fun cs => some (.agg cs) := build_arr Try.underlying148 sz1 ze148 rfl ps hi
theorem st47 (h : Heap) (k off : Nat) (v : AV) : storeE Try.prog h 47 (.ptr k off) v = if v.cells.length = 1 then storeB h k off v.cells (h.get k) else none := storeE_ptr sz47 ..
theorem ld143 (off : Nat) (cs : List AV) (e : Nat) (r : Bool) : loadB Try.prog 143 off (some (.cells cs e r)) = th (cutE off 6 cs) fun r => some (.agg r) := loadB_agg Try.underlying143 rfl sz143 ..
theorem st3 (h : Heap) (k off : Nat) (v : AV) : storeE Try.prog h 3 (.ptr k off) v = if v.cells.length = 1 then storeB h k off v.cells (h.get k) else none := storeE_ptr sz3 ..
theorem ld137 (off : Nat) (cs : List AV) (e : Nat) (r : Bool) : loadB Try.prog 137 off (some (.cells cs e r)) = cs[off]? := loadB_sc Try.underlying137 rfl ..
theorem fa134_1 (k off : Nat) : fieldAddrE Try.prog 134 (.ptr k off) 1 = some (.ptr k (off + 1)) := fa_of 1 0 1 Try.underlying134 rfl rfl sz3 rfl ..
theorem st50 (h : Heap) (k off : Nat) (v : AV) : storeE Try.prog h 50 (.ptr k off) v = if v.cells.length = 1 then storeB h k off v.cells (h.get k) else none := storeE_ptr sz50 ..
theorem st35 (h : Heap) (k off : Nat) (v : AV) : storeE Try.prog h 35 (.ptr k off) v = if v.cells.length = 1 then storeB h k off v.cells (h.get k) else none := storeE_ptr sz35 ..
theorem fa52_3 (k off : Nat) : fieldAddrE Try.prog 52 (.ptr k off) 3 = some (.ptr k (off + 3)) := fa_of 3 0 3 Try.underlying52 rfl rfl sz4 rfl ..
theorem ld49 (off : Nat) (cs : List AV) (e : Nat) (r : Bool) : loadB Try.prog 49 off (some (.cells cs e r)) = cs[off]? := loadB_sc Try.underlying49 rfl ..
theorem fa52_2 (k off : Nat) : fieldAddrE Try.prog 52 (.ptr k off) 2 = some (.ptr k (off + 2)) := fa_of 2 0 2 Try.underlying52 rfl rfl sz49 rfl ..
theorem ia143 (k off : Nat) (q : IntKind) (i : Int) : indexAddrE Try.prog 143 (.ptr k off) (.int q i) = th (idxE i 6) fun i => some (.ptr k (off + i * 1)) := ia_arr Try.underlying143 sz3 ..
theorem st143 (h : Heap) (k off : Nat) (v : AV) : storeE Try.prog h 143 (.ptr k off) v = if v.cells.length = 6 then storeB h k off v.cells (h.get k) else none := storeE_ptr sz143 ..
theorem bu103 (ps : List (Nat × AV)) : buildE Try.prog 103 ps = th (fillZ [(0,1),(1,64)] ps (match zeroE Try.prog 103 with | some z => z.cells | none => [])) fun cs => some (.agg cs) := build_st Try.underlying103 ze103 (by kernel_rfl) (by kernel_rfl) ps
theorem fa134_2 (k off : Nat) : fieldAddrE Try.prog 134 (.ptr k off) 2 = some (.ptr k (off + 2)) := fa_of 2 0 2 Try.underlying134 rfl rfl sz3 rfl ..
theorem ld134 (off : Nat) (cs : List AV) (e : Nat) (r : Bool) : loadB Try.prog 134 off (some (.cells cs e r)) = th (cutE off 68 cs) fun r => some (.agg r) := loadB_agg Try.underlying134 rfl sz134 ..
theorem ld35 (off : Nat) (cs : List AV) (e : Nat) (r : Bool) : loadB Try.prog 35 off (some (.cells cs e r)) = cs[off]? := loadB_sc Try.underlying35 rfl ..
theorem fa134_4 (k off : Nat) : fieldAddrE Try.prog 134 (.ptr k off) 4 = some (.ptr k (off + 67)) := fa_of 4 0 67 Try.underlying134 rfl rfl sz35 rfl ..
theorem fa134_3 (k off : Nat) : fieldAddrE Try.prog 134 (.ptr k off) 3 = some (.ptr k (off + 3)) := fa_of 3 63 3 Try.underlying134 rfl rfl sz59 rfl ..
theorem st134 (h : Heap) (k off : Nat) (v : AV) : storeE Try.prog h 134 (.ptr k off) v = if v.cells.length = 68 then storeB h k off v.cells (h.get k) else none := storeE_ptr sz134 ..
theorem fe134_4 (cs : List AV) : fieldE Try.prog 134 (.agg cs) 4 = partE Try.prog 35 cs 67 := fieldE_of 4 67 Try.underlying134 rfl rfl rfl ..
theorem bu134 (ps : List (Nat × AV)) : buildE Try.prog 134 ps = th (fillZ [(0,1),(1,1),(2,1),(3,64),(67,1)] ps (match zeroE Try.prog 134 with | some z => z.cells | none => [])) fun cs => some (.agg cs) := build_st Try.underlying134 ze134 (by kernel_rfl) (by kernel_rfl) ps
theorem fa52_0 (k off : Nat) : fieldAddrE Try.prog 52 (.ptr k off) 0 = some (.ptr k (off + 0)) := fa_of 0 0 0 Try.underlying52 rfl rfl sz39 rfl ..
theorem ia113 (k off l c : Nat) (q : IntKind) (i : Int) : indexAddrE Try.prog 113 (.slice k off l c) (.int q i) = th (idxE i l) fun i => some (.ptr k (off + i * 33)) := ia_slice Try.underlying113 sz32 ..
theorem ib113 (k off i0 l : Nat) (q : IntKind) (i : Int) : indexAddrE Try.prog 113 (.eslice k off i0 l) (.int q i) = th (idxE i l) fun i => some (.ptr k (off + i * 33)) := ia_eslice Try.underlying113 sz32 ..
theorem ld113 (off : Nat) (cs : List AV) (e : Nat) (r : Bool) : loadB Try.prog 113 off (some (.cells cs e r)) = cs[off]? := loadB_sc Try.underlying113 rfl ..
theorem fa115_0 (k off : Nat) : fieldAddrE Try.prog 115 (.ptr k off) 0 = some (.ptr k (off + 0)) := fa_of 0 0 0 Try.underlying115 rfl rfl sz113 rfl ..
theorem fa23_1 (k off : Nat) : fieldAddrE Try.prog 23 (.ptr k off) 1 = some (.ptr k (off + 1)) := fa_of 1 0 1 Try.underlying23 rfl rfl sz3 rfl ..
theorem st96 (h : Heap) (k off : Nat) (v : AV) : storeE Try.prog h 96 (.ptr k off) v = if v.cells.length = 1 then storeB h k off v.cells (h.get k) else none := storeE_ptr sz96 ..
theorem fa103_1 (k off : Nat) : fieldAddrE Try.prog 103 (.ptr k off) 1 = some (.ptr k (off + 1)) := fa_of 1 63 1 Try.underlying103 rfl rfl sz59 rfl ..
theorem pq40 (k o : Nat) : binE Try.prog .eql 40 (.ptr k o) .nilptr = some (.bool false) := eql_pn Try.underlying40 ..
theorem pn40 (k o : Nat) : binE Try.prog .neq 40 (.ptr k o) .nilptr = some (.bool true) := neq_pn Try.underlying40 ..
theorem qq40 : binE Try.prog .eql 40 .nilptr .nilptr = some (.bool true) := eql_nn Try.underlying40
theorem qn40 : binE Try.prog .neq 40 .nilptr .nilptr = some (.bool false) := neq_nn Try.underlying40
theorem ld40 (off : Nat) (cs : List AV) (e : Nat) (r : Bool) : loadB Try.prog 40 off (some (.cells cs e r)) = cs[off]? := loadB_sc Try.underlying40 rfl ..
theorem fa52_1 (k off : Nat) : fieldAddrE Try.prog 52 (.ptr k off) 1 = some (.ptr k (off + 1)) := fa_of 1 0 1 Try.underlying52 rfl rfl sz40 rfl ..
theorem fa103_0 (k off : Nat) : fieldAddrE Try.prog 103 (.ptr k off) 0 = some (.ptr k (off + 0)) := fa_of 0 0 0 Try.underlying103 rfl rfl sz3 rfl ..
theorem st103 (h : Heap) (k off : Nat) (v : AV) : storeE Try.prog h 103 (.ptr k off) v = if v.cells.length = 65 then storeB h k off v.cells (h.get k) else none := storeE_ptr sz103 ..
theorem ld103 (off : Nat) (cs : List AV) (e : Nat) (r : Bool) : loadB Try.prog 103 off (some (.cells cs e r)) = th (cutE off 65 cs) fun r => some (.agg r) := loadB_agg Try.underlying103 rfl sz103 ..
theorem ia97 (k off l c : Nat) (q : IntKind) (i : Int) : indexAddrE Try.prog 97 (.slice k off l c) (.int q i) = th (idxE i l) fun i => some (.ptr k (off + i * 65)) := ia_slice Try.underlying97 sz103 ..
theorem ib97 (k off i0 l : Nat) (q : IntKind) (i : Int) : indexAddrE Try.prog 97 (.eslice k off i0 l) (.int q i) = th (idxE i l) fun i => some (.ptr k (off + i * 65)) := ia_eslice Try.underlying97 sz103 ..
theorem fa100_0 (k off : Nat) : fieldAddrE Try.prog 100 (.ptr k off) 0 = some (.ptr k (off + 0)) := fa_of 0 0 0 Try.underlying100 rfl rfl sz3 rfl ..
theorem pq47 (k o : Nat) : binE Try.prog .eql 47 (.ptr k o) .nilptr = some (.bool false) := eql_pn Try.underlying47 ..
theorem pn47 (k o : Nat) : binE Try.prog .neq 47 (.ptr k o) .nilptr = some (.bool true) := neq_pn Try.underlying47 ..
theorem qq47 : binE Try.prog .eql 47 .nilptr .nilptr = some (.bool true) := eql_nn Try.underlying47
theorem qn47 : binE Try.prog .neq 47 .nilptr .nilptr = some (.bool false) := neq_nn Try.underlying47
theorem ia90 (k off l c : Nat) (q : IntKind) (i : Int) : indexAddrE Try.prog 90 (.slice k off l c) (.int q i) = th (idxE i l) fun i => some (.ptr k (off + i * 64)) := ia_slice Try.underlying90 sz59 ..
theorem ib90 (k off i0 l : Nat) (q : IntKind) (i : Int) : indexAddrE Try.prog 90 (.eslice k off i0 l) (.int q i) = th (idxE i l) fun i => some (.ptr k (off + i * 64)) := ia_eslice Try.underlying90 sz59 ..
theorem cp33 (h : Heap) (k off l c k2 off2 l2 c2 : Nat) (hp : 0 < l) (hp2 : 0 < l2) : copyE Try.prog h 33 (.slice k off l c) (.slice k2 off2 l2 c2) = th (atB (minS l2 l * 1) off2 (h.get k2)) fun cs => th (layB h k off cs (h.get k)) fun h => some (.int .i64 (minS l2 l : Nat),h) := copy_ss Try.underlying33 sz5 h hp hp2
theorem sl59 (k off : Nat) (q q' : IntKind) (l h : Int) : sliceE Try.prog 59 (.ptr k off) (some (.int q l)) (some (.int q' h)) none = th (idxE h (64 + 1)) fun h => th (idxE l (h + 1)) fun l => some (.slice k (offS 64 l off 1) (h - l) (64 - l)) := sl_arr Try.underlying59 sz5 ..
theorem slh59 (k off : Nat) (q' : IntKind) (h : Int) : sliceE Try.prog 59 (.ptr k off) none (some (.int q' h)) none = th (idxE h (64 + 1)) fun h => some (.slice k (offS 64 0 off 1) (h - 0) (64 - 0)) := sl_arr_h Try.underlying59 sz5 ..
theorem sll59 (k off : Nat) (q : IntKind) (l : Int) : sliceE Try.prog 59 (.ptr k off) (some (.int q l)) none none = th (idxE l (64 + 1)) fun l => some (.slice k (offS 64 l off 1) (64 - l) (64 - l)) := sl_arr_l Try.underlying59 sz5 ..
theorem slo59 (k off : Nat) : sliceE Try.prog 59 (.ptr k off) none none none = some (.slice k (offS 64 0 off 1) (64 - 0) (64 - 0)) := sl_arr_0 Try.underlying59 sz5 ..
theorem fa88_2 (k off : Nat) : fieldAddrE Try.prog 88 (.ptr k off) 2 = some (.ptr k (off + 3)) := fa_of 2 0 3 Try.underlying88 rfl rfl sz3 rfl ..
theorem fa88_1 (k off : Nat) : fieldAddrE Try.prog 88 (.ptr k off) 1 = some (.ptr k (off + 1)) := fa_of 1 1 1 Try.underlying88 rfl rfl sz23 rfl ..
theorem pq38 (k o : Nat) : binE Try.prog .eql 38 (.ptr k o) .nilptr = some (.bool false) := eql_pn Try.underlying38 ..
theorem pn38 (k o : Nat) : binE Try.prog .neq 38 (.ptr k o) .nilptr = some (.bool true) := neq_pn Try.underlying38 ..
theorem qq38 : binE Try.prog .eql 38 .nilptr .nilptr = some (.bool true) := eql_nn Try.underlying38
theorem qn38 : binE Try.prog .neq 38 .nilptr .nilptr = some (.bool false) := neq_nn Try.underlying38
theorem fa88_0 (k off : Nat) : fieldAddrE Try.prog 88 (.ptr k off) 0 = some (.ptr k (off + 0)) := fa_of 0 0 0 Try.underlying88 rfl rfl sz38 rfl ..
theorem st32 (h : Heap) (k off : Nat) (v : AV) : storeE Try.prog h 32 (.ptr k off) v = if v.cells.length = 33 then storeB h k off v.cells (h.get k) else none := storeE_ptr sz32 ..
theorem bu117 (ps : List (Nat × AV)) : buildE Try.prog 117 ps = th (fillZ [(0,1),(1,32),(33,1)] ps (match zeroE Try.prog 117 with | some z => z.cells | none => [])) fun cs => some (.agg cs) := build_st Try.underlying117 ze117 (by kernel_rfl) (by kernel_rfl) ps
theorem ld30 (off : Nat) (cs : List AV) (e : Nat) (r : Bool) : loadB Try.prog 30 off (some (.cells cs e r)) = th (cutE off 32 cs) fun r => some (.agg r) := loadB_agg Try.underlying30 rfl sz30 ..
theorem fa32_1 (k off : Nat) : fieldAddrE Try.prog 32 (.ptr k off) 1 = some (.ptr k (off + 1)) := fa_of 1 31 1 Try.underlying32 rfl rfl sz30 rfl ..
theorem bu115 (ps : List (Nat × AV)) : buildE Try.prog 115 ps = th (fillZ [(0,1)] ps (match zeroE Try.prog 115 with | some z => z.cells | none => [])) fun cs => some (.agg cs) := build_st Try.underlying115 ze115 (by kernel_rfl) (by kernel_rfl) ps
theorem ld28 (off : Nat) (cs : List AV) (e : Nat) (r : Bool) : loadB Try.prog 28 off (some (.cells cs e r)) = cs[off]? := loadB_sc Try.underlying28 rfl ..
theorem fa32_0 (k off : Nat) : fieldAddrE Try.prog 32 (.ptr k off) 0 = some (.ptr k (off + 0)) := fa_of 0 0 0 Try.underlying32 rfl rfl sz28 rfl ..
theorem bu112 (ps : List (Nat × AV)) : buildE Try.prog 112 ps = th (fillZ [(0,1),(1,1),(2,1),(3,1),(4,1),(5,1)] ps (match zeroE Try.prog 112 with | some z => z.cells | none => [])) fun cs => some (.agg cs) := build_st Try.underlying112 ze112 (by kernel_rfl) (by kernel_rfl) ps
theorem bu100 (ps : List (Nat × AV)) : buildE Try.prog 100 ps = th (fillZ [(0,1),(1,1),(2,1),(3,1),(4,1),(5,1),(6,1)] ps (match zeroE Try.prog 100 with | some z => z.cells | none => [])) fun cs => some (.agg cs) := build_st Try.underlying100 ze100 (by kernel_rfl) (by kernel_rfl) ps
theorem ld50 (off : Nat) (cs : List AV) (e : Nat) (r : Bool) : loadB Try.prog 50 off (some (.cells cs e r)) = cs[off]? := loadB_sc Try.underlying50 rfl ..
theorem fa52_4 (k off : Nat) : fieldAddrE Try.prog 52 (.ptr k off) 4 = some (.ptr k (off + 4)) := fa_of 4 0 4 Try.underlying52 rfl rfl sz50 rfl ..
theorem fa100_1 (k off : Nat) : fieldAddrE Try.prog 100 (.ptr k off) 1 = some (.ptr k (off + 1)) := fa_of 1 0 1 Try.underlying100 rfl rfl sz96 rfl ..
theorem st97 (h : Heap) (k off : Nat) (v : AV) : storeE Try.prog h 97 (.ptr k off) v = if v.cells.length = 1 then storeB h k off v.cells (h.get k) else none := storeE_ptr sz97 ..
theorem ld97 (off : Nat) (cs : List AV) (e : Nat) (r : Bool) : loadB Try.prog 97 off (some (.cells cs e r)) = cs[off]? := loadB_sc Try.underlying97 rfl ..
theorem fa100_3 (k off : Nat) : fieldAddrE Try.prog 100 (.ptr k off) 3 = some (.ptr k (off + 3)) := fa_of 3 0 3 Try.underlying100 rfl rfl sz97 rfl ..
theorem ld96 (off : Nat) (cs : List AV) (e : Nat) (r : Bool) : loadB Try.prog 96 off (some (.cells cs e r)) = cs[off]? := loadB_sc Try.underlying96 rfl ..
theorem fa100_2 (k off : Nat) : fieldAddrE Try.prog 100 (.ptr k off) 2 = some (.ptr k (off + 2)) := fa_of 2 0 2 Try.underlying100 rfl rfl sz96 rfl ..
theorem ld4 (off : Nat) (cs : List AV) (e : Nat) (r : Bool) : loadB Try.prog 4 off (some (.cells cs e r)) = cs[off]? := loadB_sc Try.underlying4 rfl ..
theorem fa100_6 (k off : Nat) : fieldAddrE Try.prog 100 (.ptr k off) 6 = some (.ptr k (off + 6)) := fa_of 6 0 6 Try.underlying100 rfl rfl sz4 rfl ..
theorem st4 (h : Heap) (k off : Nat) (v : AV) : storeE Try.prog h 4 (.ptr k off) v = if v.cells.length = 1 then storeB h k off v.cells (h.get k) else none := storeE_ptr sz4 ..
theorem fa100_5 (k off : Nat) : fieldAddrE Try.prog 100 (.ptr k off) 5 = some (.ptr k (off + 5)) := fa_of 5 0 5 Try.underlying100 rfl rfl sz4 rfl ..
theorem fa23_0 (k off : Nat) : fieldAddrE Try.prog 23 (.ptr k off) 0 = some (.ptr k (off + 0)) := fa_of 0 0 0 Try.underlying23 rfl rfl sz3 rfl ..
theorem ld88 (off : Nat) (cs : List AV) (e : Nat) (r : Bool) : loadB Try.prog 88 off (some (.cells cs e r)) = th (cutE off 4 cs) fun r => some (.agg r) := loadB_agg Try.underlying88 rfl sz88 ..
theorem st88 (h : Heap) (k off : Nat) (v : AV) : storeE Try.prog h 88 (.ptr k off) v = if v.cells.length = 4 then storeB h k off v.cells (h.get k) else none := storeE_ptr sz88 ..
theorem bu88 (ps : List (Nat × AV)) : buildE Try.prog 88 ps = th (fillZ [(0,1),(1,2),(3,1)] ps (match zeroE Try.prog 88 with | some z => z.cells | none => [])) fun cs => some (.agg cs) := build_st Try.underlying88 ze88 (by kernel_rfl) (by kernel_rfl) ps
theorem st38 (h : Heap) (k off : Nat) (v : AV) : storeE Try.prog h 38 (.ptr k off) v = if v.cells.length = 1 then storeB h k off v.cells (h.get k) else none := storeE_ptr sz38 ..
theorem st72 (h : Heap) (k off : Nat) (v : AV) : storeE Try.prog h 72 (.ptr k off) v = if v.cells.length = 1 then storeB h k off v.cells (h.get k) else none := storeE_ptr sz72 ..
theorem bu84 (ps : List (Nat × AV)) : buildE Try.prog 84 ps = th (fillZ [(0,1),(1,1),(2,1),(3,1),(4,1),(5,64),(69,1)] ps (match zeroE Try.prog 84 with | some z => z.cells | none => [])) fun cs => some (.agg cs) := build_st Try.underlying84 ze84 (by kernel_rfl) (by kernel_rfl) ps
theorem fa64_5 (k off : Nat) : fieldAddrE Try.prog 64 (.ptr k off) 5 = some (.ptr k (off + 5)) := fa_of 5 63 5 Try.underlying64 rfl rfl sz59 rfl ..
theorem fa64_4 (k off : Nat) : fieldAddrE Try.prog 64 (.ptr k off) 4 = some (.ptr k (off + 4)) := fa_of 4 0 4 Try.underlying64 rfl rfl sz3 rfl ..
theorem fa64_3 (k off : Nat) : fieldAddrE Try.prog 64 (.ptr k off) 3 = some (.ptr k (off + 3)) := fa_of 3 0 3 Try.underlying64 rfl rfl sz3 rfl ..
theorem fa64_2 (k off : Nat) : fieldAddrE Try.prog 64 (.ptr k off) 2 = some (.ptr k (off + 2)) := fa_of 2 0 2 Try.underlying64 rfl rfl sz3 rfl ..
theorem fa64_1 (k off : Nat) : fieldAddrE Try.prog 64 (.ptr k off) 1 = some (.ptr k (off + 1)) := fa_of 1 0 1 Try.underlying64 rfl rfl sz3 rfl ..
theorem fa64_0 (k off : Nat) : fieldAddrE Try.prog 64 (.ptr k off) 0 = some (.ptr k (off + 0)) := fa_of 0 0 0 Try.underlying64 rfl rfl sz3 rfl ..
theorem ld72 (off : Nat) (cs : List AV) (e : Nat) (r : Bool) : loadB Try.prog 72 off (some (.cells cs e r)) = cs[off]? := loadB_sc Try.underlying72 rfl ..
theorem fa75_2 (k off : Nat) : fieldAddrE Try.prog 75 (.ptr k off) 2 = some (.ptr k (off + 2)) := fa_of 2 0 2 Try.underlying75 rfl rfl sz72 rfl ..
theorem st33 (h : Heap) (k off : Nat) (v : AV) : storeE Try.prog h 33 (.ptr k off) v = if v.cells.length = 1 then storeB h k off v.cells (h.get k) else none := storeE_ptr sz33 ..
theorem ld33 (off : Nat) (cs : List AV) (e : Nat) (r : Bool) : loadB Try.prog 33 off (some (.cells cs e r)) = cs[off]? := loadB_sc Try.underlying33 rfl ..
theorem fa64_6 (k off : Nat) : fieldAddrE Try.prog 64 (.ptr k off) 6 = some (.ptr k (off + 69)) := fa_of 6 0 69 Try.underlying64 rfl rfl sz33 rfl ..
theorem st64 (h : Heap) (k off : Nat) (v : AV) : storeE Try.prog h 64 (.ptr k off) v = if v.cells.length = 70 then storeB h k off v.cells (h.get k) else none := storeE_ptr sz64 ..
theorem ld64 (off : Nat) (cs : List AV) (e : Nat) (r : Bool) : loadB Try.prog 64 off (some (.cells cs e r)) = th (cutE off 70 cs) fun r => some (.agg r) := loadB_agg Try.underlying64 rfl sz64 ..
theorem ia49 (k off l c : Nat) (q : IntKind) (i : Int) : indexAddrE Try.prog 49 (.slice k off l c) (.int q i) = th (idxE i l) fun i => some (.ptr k (off + i * 70)) := ia_slice Try.underlying49 sz64 ..
theorem ib49 (k off i0 l : Nat) (q : IntKind) (i : Int) : indexAddrE Try.prog 49 (.eslice k off i0 l) (.int q i) = th (idxE i l) fun i => some (.ptr k (off + i * 70)) := ia_eslice Try.underlying49 sz64 ..
theorem st71 (h : Heap) (k off : Nat) (v : AV) : storeE Try.prog h 71 (.ptr k off) v = if v.cells.length = 1 then storeB h k off v.cells (h.get k) else none := storeE_ptr sz71 ..
theorem fa75_1 (k off : Nat) : fieldAddrE Try.prog 75 (.ptr k off) 1 = some (.ptr k (off + 1)) := fa_of 1 0 1 Try.underlying75 rfl rfl sz71 rfl ..
theorem st40 (h : Heap) (k off : Nat) (v : AV) : storeE Try.prog h 40 (.ptr k off) v = if v.cells.length = 1 then storeB h k off v.cells (h.get k) else none := storeE_ptr sz40 ..
theorem fa43_2 (k off : Nat) : fieldAddrE Try.prog 43 (.ptr k off) 2 = some (.ptr k (off + 2)) := fa_of 2 0 2 Try.underlying43 rfl rfl sz40 rfl ..
theorem ld32 (off : Nat) (cs : List AV) (e : Nat) (r : Bool) : loadB Try.prog 32 off (some (.cells cs e r)) = th (cutE off 33 cs) fun r => some (.agg r) := loadB_agg Try.underlying32 rfl sz32 ..
theorem st70 (h : Heap) (k off : Nat) (v : AV) : storeE Try.prog h 70 (.ptr k off) v = if v.cells.length = 1 then storeB h k off v.cells (h.get k) else none := storeE_ptr sz70 ..
theorem ld70 (off : Nat) (cs : List AV) (e : Nat) (r : Bool) : loadB Try.prog 70 off (some (.cells cs e r)) = cs[off]? := loadB_sc Try.underlying70 rfl ..
theorem fa75_0 (k off : Nat) : fieldAddrE Try.prog 75 (.ptr k off) 0 = some (.ptr k (off + 0)) := fa_of 0 0 0 Try.underlying75 rfl rfl sz70 rfl ..
theorem ld41 (off : Nat) (cs : List AV) (e : Nat) (r : Bool) : loadB Try.prog 41 off (some (.cells cs e r)) = cs[off]? := loadB_sc Try.underlying41 rfl ..
theorem fa43_3 (k off : Nat) : fieldAddrE Try.prog 43 (.ptr k off) 3 = some (.ptr k (off + 3)) := fa_of 3 0 3 Try.underlying43 rfl rfl sz41 rfl ..
theorem st39 (h : Heap) (k off : Nat) (v : AV) : storeE Try.prog h 39 (.ptr k off) v = if v.cells.length = 1 then storeB h k off v.cells (h.get k) else none := storeE_ptr sz39 ..
theorem bu43 (ps : List (Nat × AV)) : buildE Try.prog 43 ps = th (fillZ [(0,1),(1,1),(2,1),(3,1)] ps (match zeroE Try.prog 43 with | some z => z.cells | none => [])) fun cs => some (.agg cs) := build_st Try.underlying43 ze43 (by kernel_rfl) (by kernel_rfl) ps
theorem bu75 (ps : List (Nat × AV)) : buildE Try.prog 75 ps = th (fillZ [(0,1),(1,1),(2,1),(3,1),(4,1)] ps (match zeroE Try.prog 75 with | some z => z.cells | none => [])) fun cs => some (.agg cs) := build_st Try.underlying75 ze75 (by kernel_rfl) (by kernel_rfl) ps
theorem fa56_0 (k off : Nat) : fieldAddrE Try.prog 56 (.ptr k off) 0 = some (.ptr k (off + 0)) := fa_of 0 0 0 Try.underlying56 rfl rfl sz5 rfl ..
theorem ia59 (k off : Nat) (q : IntKind) (i : Int) : indexAddrE Try.prog 59 (.ptr k off) (.int q i) = th (idxE i 64) fun i => some (.ptr k (off + i * 1)) := ia_arr Try.underlying59 sz5 ..
theorem cv3_5 (call : CallK) (ρ : Operand -> AV) (dd : Option Tmp) (t : TypeId) (p : String) (a : Array Edge) (g : Option (Nat × Bool)) (h : Heap) (x : Operand) : opE Try.prog call ρ ⟨dd, .convert 3 5 x,t,p,a,g⟩ h = th (okv (ρ x)) fun v => th (convPureE Try.prog 3 5 v) fun v => some (v,h) := opE_conv Try.underlying3 Try.underlying5 rfl ..
theorem cx3_5 (dd : Option Tmp) (t : TypeId) (p : String) (a : Array Edge) (g : Option (Nat × Bool)) (x : Operand) : cls Try.prog ⟨dd, .convert 3 5 x,t,p,a,g⟩ = .p := cls_conv Try.underlying3 Try.underlying5 rfl ..
theorem cw3_5 (q : IntKind) (n : Int) (h : 0 <= n) : convPureE Try.prog 3 5 (.int q n) = some (b8 n.toNat) := by rw [conv_int Try.underlying3 Try.underlying5,int_u8 h]
theorem bu64 (ps : List (Nat × AV)) : buildE Try.prog 64 ps = th (fillZ [(0,1),(1,1),(2,1),(3,1),(4,1),(5,64),(69,1)] ps (match zeroE Try.prog 64 with | some z => z.cells | none => [])) fun cs => some (.agg cs) := build_st Try.underlying64 ze64 (by kernel_rfl) (by kernel_rfl) ps
theorem ld59 (off : Nat) (cs : List AV) (e : Nat) (r : Bool) : loadB Try.prog 59 off (some (.cells cs e r)) = th (cutE off 64 cs) fun r => some (.agg r) := loadB_agg Try.underlying59 rfl sz59 ..
theorem st59 (h : Heap) (k off : Nat) (v : AV) : storeE Try.prog h 59 (.ptr k off) v = if v.cells.length = 64 then storeB h k off v.cells (h.get k) else none := storeE_ptr sz59 ..
theorem cv5_3 (call : CallK) (ρ : Operand -> AV) (dd : Option Tmp) (t : TypeId) (p : String) (a : Array Edge) (g : Option (Nat × Bool)) (h : Heap) (x : Operand) : opE Try.prog call ρ ⟨dd, .convert 5 3 x,t,p,a,g⟩ h = th (okv (ρ x)) fun v => th (convPureE Try.prog 5 3 v) fun v => some (v,h) := opE_conv Try.underlying5 Try.underlying3 rfl ..
theorem cx5_3 (dd : Option Tmp) (t : TypeId) (p : String) (a : Array Edge) (g : Option (Nat × Bool)) (x : Operand) : cls Try.prog ⟨dd, .convert 5 3 x,t,p,a,g⟩ = .p := cls_conv Try.underlying5 Try.underlying3 rfl ..
theorem cw5_3 (q : IntKind) (n : Int) : convPureE Try.prog 5 3 (.int q n) = some (.int .i64 (wrapA .i64 n)) := conv_int Try.underlying5 Try.underlying3 ..
theorem ia54 (k off : Nat) (q : IntKind) (i : Int) : indexAddrE Try.prog 54 (.ptr k off) (.int q i) = th (idxE i 2) fun i => some (.ptr k (off + i * 1)) := ia_arr Try.underlying54 sz5 ..
theorem fa56_2 (k off : Nat) : fieldAddrE Try.prog 56 (.ptr k off) 2 = some (.ptr k (off + 2)) := fa_of 2 1 2 Try.underlying56 rfl rfl sz54 rfl ..
theorem ld5 (off : Nat) (cs : List AV) (e : Nat) (r : Bool) : loadB Try.prog 5 off (some (.cells cs e r)) = cs[off]? := loadB_sc Try.underlying5 rfl ..
theorem fa56_1 (k off : Nat) : fieldAddrE Try.prog 56 (.ptr k off) 1 = some (.ptr k (off + 1)) := fa_of 1 0 1 Try.underlying56 rfl rfl sz5 rfl ..
theorem ld3 (off : Nat) (cs : List AV) (e : Nat) (r : Bool) : loadB Try.prog 3 off (some (.cells cs e r)) = cs[off]? := loadB_sc Try.underlying3 rfl ..
theorem ia34 (k off l c : Nat) (q : IntKind) (i : Int) : indexAddrE Try.prog 34 (.slice k off l c) (.int q i) = th (idxE i l) fun i => some (.ptr k (off + i * 1)) := ia_slice Try.underlying34 sz3 ..
theorem ib34 (k off i0 l : Nat) (q : IntKind) (i : Int) : indexAddrE Try.prog 34 (.eslice k off i0 l) (.int q i) = th (idxE i l) fun i => some (.ptr k (off + i * 1)) := ia_eslice Try.underlying34 sz3 ..
theorem bu23 (ps : List (Nat × AV)) : buildE Try.prog 23 ps = th (fillZ [(0,1),(1,1)] ps (match zeroE Try.prog 23 with | some z => z.cells | none => [])) fun cs => some (.agg cs) := build_st Try.underlying23 ze23 (by kernel_rfl) (by kernel_rfl) ps
theorem bu52 (ps : List (Nat × AV)) : buildE Try.prog 52 ps = th (fillZ [(0,1),(1,1),(2,1),(3,1),(4,1)] ps (match zeroE Try.prog 52 with | some z => z.cells | none => [])) fun cs => some (.agg cs) := build_st Try.underlying52 ze52 (by kernel_rfl) (by kernel_rfl) ps
theorem ld47 (off : Nat) (cs : List AV) (e : Nat) (r : Bool) : loadB Try.prog 47 off (some (.cells cs e r)) = cs[off]? := loadB_sc Try.underlying47 rfl ..
theorem ia39 (k off l c : Nat) (q : IntKind) (i : Int) : indexAddrE Try.prog 39 (.slice k off l c) (.int q i) = th (idxE i l) fun i => some (.ptr k (off + i * 1)) := ia_slice Try.underlying39 sz47 ..
theorem ib39 (k off i0 l : Nat) (q : IntKind) (i : Int) : indexAddrE Try.prog 39 (.eslice k off i0 l) (.int q i) = th (idxE i l) fun i => some (.ptr k (off + i * 1)) := ia_eslice Try.underlying39 sz47 ..
theorem ld39 (off : Nat) (cs : List AV) (e : Nat) (r : Bool) : loadB Try.prog 39 off (some (.cells cs e r)) = cs[off]? := loadB_sc Try.underlying39 rfl ..
theorem fa43_1 (k off : Nat) : fieldAddrE Try.prog 43 (.ptr k off) 1 = some (.ptr k (off + 1)) := fa_of 1 0 1 Try.underlying43 rfl rfl sz39 rfl ..
theorem ld23 (off : Nat) (cs : List AV) (e : Nat) (r : Bool) : loadB Try.prog 23 off (some (.cells cs e r)) = th (cutE off 2 cs) fun r => some (.agg r) := loadB_agg Try.underlying23 rfl sz23 ..
theorem ld38 (off : Nat) (cs : List AV) (e : Nat) (r : Bool) : loadB Try.prog 38 off (some (.cells cs e r)) = cs[off]? := loadB_sc Try.underlying38 rfl ..
theorem fa43_0 (k off : Nat) : fieldAddrE Try.prog 43 (.ptr k off) 0 = some (.ptr k (off + 0)) := fa_of 0 0 0 Try.underlying43 rfl rfl sz38 rfl ..
theorem st5 (h : Heap) (k off : Nat) (v : AV) : storeE Try.prog h 5 (.ptr k off) v = if v.cells.length = 1 then storeB h k off v.cells (h.get k) else none := storeE_ptr sz5 ..
theorem ia33 (k off l c : Nat) (q : IntKind) (i : Int) : indexAddrE Try.prog 33 (.slice k off l c) (.int q i) = th (idxE i l) fun i => some (.ptr k (off + i * 1)) := ia_slice Try.underlying33 sz5 ..
theorem ib33 (k off i0 l : Nat) (q : IntKind) (i : Int) : indexAddrE Try.prog 33 (.eslice k off i0 l) (.int q i) = th (idxE i l) fun i => some (.ptr k (off + i * 1)) := ia_eslice Try.underlying33 sz5 ..
theorem pq26 (k o : Nat) : binE Try.prog .eql 26 (.ptr k o) .nilptr = some (.bool false) := eql_pn Try.underlying26 ..
theorem pn26 (k o : Nat) : binE Try.prog .neq 26 (.ptr k o) .nilptr = some (.bool true) := neq_pn Try.underlying26 ..
theorem qq26 : binE Try.prog .eql 26 .nilptr .nilptr = some (.bool true) := eql_nn Try.underlying26
theorem qn26 : binE Try.prog .neq 26 .nilptr .nilptr = some (.bool false) := neq_nn Try.underlying26
theorem bu32 (ps : List (Nat × AV)) : buildE Try.prog 32 ps = th (fillZ [(0,1),(1,32)] ps (match zeroE Try.prog 32 with | some z => z.cells | none => [])) fun cs => some (.agg cs) := build_st Try.underlying32 ze32 (by kernel_rfl) (by kernel_rfl) ps
theorem st23 (h : Heap) (k off : Nat) (v : AV) : storeE Try.prog h 23 (.ptr k off) v = if v.cells.length = 2 then storeB h k off v.cells (h.get k) else none := storeE_ptr sz23 ..
def TT1 := PLift.up (And.intro @pt35 (And.intro @pt1 (And.intro @ib98 (And.intro @ia98 (And.intro @st98 (And.intro @ld98 (And.intro @fa100_4 (And.intro @ix148 (And.intro @bu148 (And.intro @ze148 (And.intro @st47 (And.intro @ze47 (And.intro @ld143 (And.intro @st3 (And.intro @ld137 (And.intro @fa134_1 (And.intro @st50 (And.intro @st35 (And.intro @fa52_3 (And.intro @ld49 (And.intro @fa52_2 (And.intro @ia143 (And.intro @st143 (And.intro @ze143 (And.intro @bu103 (And.intro @fa134_2 (And.intro @ld134 (And.intro @ld35 (And.intro @fa134_4 (And.intro @fa134_3 (And.intro @st134 (And.intro @fe134_4 (And.intro @bu134 (And.intro @ze134 (And.intro @fa52_0 (And.intro @ib113 (And.intro @ia113 (And.intro @ld113 (And.intro @fa115_0 (@fa23_1))))))))))))))))))))))))))))))))))))))))
def TT2 := PLift.up (And.intro @st96 (And.intro @fa103_1 (And.intro @qq40 (And.intro @qn40 (And.intro @pn40 (And.intro @pq40 (And.intro @ld40 (And.intro @fa52_1 (And.intro @fa103_0 (And.intro @st103 (And.intro @ze103 (And.intro @ld103 (And.intro @ib97 (And.intro @ia97 (And.intro @fa100_0 (And.intro @qq47 (And.intro @qn47 (And.intro @pn47 (And.intro @pq47 (And.intro @ib90 (And.intro @ia90 (And.intro @cp33 (And.intro @slo59 (And.intro @sll59 (And.intro @slh59 (And.intro @sl59 (And.intro @fa88_2 (And.intro @fa88_1 (And.intro @qq38 (And.intro @qn38 (And.intro @pn38 (And.intro @pq38 (And.intro @fa88_0 (And.intro @st32 (And.intro @bu117 (And.intro @ze117 (And.intro @ld30 (And.intro @fa32_1 (And.intro @bu115 (@ze115))))))))))))))))))))))))))))))))))))))))
def TT3 := PLift.up (And.intro @ld28 (And.intro @fa32_0 (And.intro @bu112 (And.intro @ze112 (And.intro @bu100 (And.intro @ze100 (And.intro @ld50 (And.intro @fa52_4 (And.intro @fa100_1 (And.intro @st97 (And.intro @ld97 (And.intro @fa100_3 (And.intro @ld96 (And.intro @fa100_2 (And.intro @ld4 (And.intro @fa100_6 (And.intro @st4 (And.intro @fa100_5 (And.intro @fa23_0 (And.intro @ld88 (And.intro @st88 (And.intro @bu88 (And.intro @ze88 (And.intro @st38 (And.intro @st72 (And.intro @bu84 (And.intro @ze84 (And.intro @fa64_5 (And.intro @fa64_4 (And.intro @fa64_3 (And.intro @fa64_2 (And.intro @fa64_1 (And.intro @fa64_0 (And.intro @ld72 (And.intro @fa75_2 (And.intro @st33 (And.intro @ld33 (And.intro @fa64_6 (And.intro @st64 (@ld64))))))))))))))))))))))))))))))))))))))))
def TT4 := PLift.up (And.intro @ib49 (And.intro @ia49 (And.intro @st71 (And.intro @fa75_1 (And.intro @st40 (And.intro @fa43_2 (And.intro @ld32 (And.intro @st70 (And.intro @ld70 (And.intro @fa75_0 (And.intro @ld41 (And.intro @fa43_3 (And.intro @st39 (And.intro @bu43 (And.intro @ze43 (And.intro @bu75 (And.intro @ze75 (And.intro @fa56_0 (And.intro @ia59 (And.intro @cx3_5 (And.intro @cw3_5 (And.intro @cv3_5 (And.intro @bu64 (And.intro @ze64 (And.intro @ld59 (And.intro @st59 (And.intro @ze59 (And.intro @cx5_3 (And.intro @cw5_3 (And.intro @cv5_3 (And.intro @ia54 (And.intro @fa56_2 (And.intro @ld5 (And.intro @fa56_1 (And.intro @ld3 (And.intro @ib34 (And.intro @ia34 (And.intro @bu23 (And.intro @bu52 (@ze52))))))))))))))))))))))))))))))))))))))))
def TT5 := PLift.up (And.intro @ld47 (And.intro @ib39 (And.intro @ia39 (And.intro @ld39 (And.intro @fa43_1 (And.intro @ld23 (And.intro @ld38 (And.intro @fa43_0 (And.intro @st5 (And.intro @ib33 (And.intro @ia33 (And.intro @qq26 (And.intro @qn26 (And.intro @pn26 (And.intro @pq26 (And.intro @bu32 (And.intro @ze32 (And.intro @st23 (@ze23)))))))))))))))))))
def TA := PLift.up (And.intro SA.down (And.intro SL.down (And.intro SM.down (And.intro TT1.down (And.intro TT2.down (And.intro TT3.down (And.intro TT4.down (TT5.down))))))))
end Go.Proofs.Ytlnepbkeiianmaa
