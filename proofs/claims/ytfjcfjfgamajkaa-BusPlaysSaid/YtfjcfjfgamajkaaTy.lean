/- Laws on this program's types, printed by a program of ours. No condition but those in the theorems. -/
import Derived.Test.YtfjcfjfgamajkaaProg
import Derived.Test.YtfjcfjfgamajkaaAwM3
namespace Go.Proofs.Ytfjcfjfgamajkaa
open Go Go.Ai Go.Aw
set_option maxRecDepth 100000
theorem sz54 : szE Try.prog 54 = some 99 := by kernel_rfl
theorem sz89 : szE Try.prog 89 = some 35 := by kernel_rfl
theorem sz65 : szE Try.prog 65 = some 68 := by kernel_rfl
theorem sz103 : szE Try.prog 103 = some 68 := by kernel_rfl
theorem sz28 : szE Try.prog 28 = some 1 := by kernel_rfl
theorem sz129 : szE Try.prog 129 = some 7 := by kernel_rfl
theorem sz126 : szE Try.prog 126 = some 1 := by kernel_rfl
theorem sz127 : szE Try.prog 127 = some 1 := by kernel_rfl
theorem sz50 : szE Try.prog 50 = some 1 := by kernel_rfl
theorem sz96 : szE Try.prog 96 = some 1 := by kernel_rfl
theorem sz42 : szE Try.prog 42 = some 70 := by kernel_rfl
theorem sz98 : szE Try.prog 98 = some 1 := by kernel_rfl
theorem sz97 : szE Try.prog 97 = some 1 := by kernel_rfl
theorem sz149 : szE Try.prog 149 = some 1 := by kernel_rfl
theorem sz44 : szE Try.prog 44 = some 1 := by kernel_rfl
theorem sz27 : szE Try.prog 27 = some 66 := by kernel_rfl
theorem sz78 : szE Try.prog 78 = some 1 := by kernel_rfl
theorem sz43 : szE Try.prog 43 = some 1 := by kernel_rfl
theorem sz62 : szE Try.prog 62 = some 1 := by kernel_rfl
theorem sz70 : szE Try.prog 70 = some 33 := by kernel_rfl
theorem sz99 : szE Try.prog 99 = some 1 := by kernel_rfl
theorem sz68 : szE Try.prog 68 = some 1 := by kernel_rfl
theorem sz37 : szE Try.prog 37 = some 1 := by kernel_rfl
theorem sz1 : szE Try.prog 1 = some 1 := by kernel_rfl
theorem sz151 : szE Try.prog 151 = some 70 := by kernel_rfl
theorem sz40 : szE Try.prog 40 = some 1 := by kernel_rfl
theorem sz4 : szE Try.prog 4 = some 1 := by kernel_rfl
theorem sz52 : szE Try.prog 52 = some 32 := by kernel_rfl
theorem sz141 : szE Try.prog 141 = some 1 := by kernel_rfl
theorem sz25 : szE Try.prog 25 = some 64 := by kernel_rfl
theorem sz3 : szE Try.prog 3 = some 1 := by kernel_rfl
theorem sz125 : szE Try.prog 125 = some 1 := by kernel_rfl
theorem sz5 : szE Try.prog 5 = some 1 := by kernel_rfl
theorem sz163 : szE Try.prog 163 = some 1 := by kernel_rfl
theorem sz162 : szE Try.prog 162 = some 1 := by kernel_rfl
theorem sz133 : szE Try.prog 133 = some 65 := by kernel_rfl
theorem sz195 : szE Try.prog 195 = some 65 := by kernel_rfl
theorem ze195 : zeroE Try.prog 195 = some (.agg ([.int .i64 0] ++ List.replicate 64 (b8 0 : AV))) := by kernel_rfl
theorem ze190 : zeroE Try.prog 190 = some (.agg (List.replicate 6 (.nilfunc : AV))) := by kernel_rfl
theorem ze37 : zeroE Try.prog 37 = some (.nilptr) := by kernel_rfl
theorem ze177 : zeroE Try.prog 177 = some (.agg ([.int .u64 0] ++ List.replicate 32 (b8 0 : AV) ++ [.nilslice])) := by kernel_rfl
theorem ze165 : zeroE Try.prog 165 = some (.agg ([.int .i64 0] ++ List.replicate 3 (.nilslice : AV) ++ List.replicate 2 (.bool false : AV))) := by kernel_rfl
theorem ze151 : zeroE Try.prog 151 = some (.agg (List.replicate 5 (.int .i64 0 : AV) ++ List.replicate 64 (b8 0 : AV) ++ [.nilslice])) := by kernel_rfl
theorem ze101 : zeroE Try.prog 101 = some (.agg ([.nilslice, .nilptr, .nilslice, .bool false, .nilslice])) := by kernel_rfl
theorem ze143 : zeroE Try.prog 143 = some (.agg ([.nilslice])) := by kernel_rfl
theorem ze68 : zeroE Try.prog 68 = some (.int .u64 0) := by kernel_rfl
theorem ze133 : zeroE Try.prog 133 = some (.agg ([.int .i64 0] ++ List.replicate 64 (b8 0 : AV))) := by kernel_rfl
theorem ze129 : zeroE Try.prog 129 = some (.agg ([.int .i64 0] ++ List.replicate 2 (.nilmap : AV) ++ List.replicate 2 (.nilslice : AV) ++ List.replicate 2 (.bool false : AV))) := by kernel_rfl
theorem ze103 : zeroE Try.prog 103 = some (.agg (List.replicate 3 (.int .i64 0 : AV) ++ List.replicate 64 (b8 0 : AV) ++ [.int .i64 0])) := by kernel_rfl
theorem ze80 : zeroE Try.prog 80 = some (.agg ([.nilslice, .nilptr, .nilslice, .bool false, .nilslice])) := by kernel_rfl
theorem ze65 : zeroE Try.prog 65 = some (.agg (List.replicate 3 (.int .i64 0 : AV) ++ List.replicate 64 (b8 0 : AV) ++ [.int .i64 0])) := by kernel_rfl
theorem ze70 : zeroE Try.prog 70 = some (.agg ([.int .u64 0] ++ List.replicate 32 (b8 0 : AV))) := by kernel_rfl
theorem ze54 : zeroE Try.prog 54 = some (.agg (List.replicate 3 (.int .i64 0 : AV) ++ List.replicate 96 (b8 0 : AV))) := by kernel_rfl
theorem ze42 : zeroE Try.prog 42 = some (.agg (List.replicate 5 (.int .i64 0 : AV) ++ List.replicate 64 (b8 0 : AV) ++ [.nilslice])) := by kernel_rfl
theorem ze25 : zeroE Try.prog 25 = some (.agg (List.replicate 64 (b8 0 : AV))) := by kernel_rfl
theorem pt44 (cs : List AV) (off : Nat) : partE Try.prog 44 cs off = cs[off]? := partE_sc Try.underlying44 rfl ..
theorem pt1 (cs : List AV) (off : Nat) : partE Try.prog 1 cs off = cs[off]? := partE_sc Try.underlying1 rfl ..
theorem ib163 (k off i0 l : Nat) (q : IntKind) (i : Int) : indexAddrE Try.prog 163 (.eslice k off i0 l) (.int q i) = th (idxE i l) fun i => some (.ptr k (off + i * 1)) := ia_eslice Try.underlying163 sz162 ..
theorem st163 (h : Heap) (k off : Nat) (v : AV) : storeE Try.prog h 163 (.ptr k off) v = if v.cells.length = 1 then storeB h k off v.cells (h.get k) else none := storeE_ptr sz163 ..
theorem ld163 (off : Nat) (cs : List AV) (e : Nat) (r : Bool) : loadB Try.prog 163 off (some (.cells cs e r)) = cs[off]? := loadB_sc Try.underlying163 rfl ..
theorem fa165_3 (k off : Nat) : fieldAddrE Try.prog 165 (.ptr k off) 3 = some (.ptr k (off + 3)) := fa_of 3 0 3 Try.underlying165 rfl rfl sz163 rfl ..
theorem ld195 (off : Nat) (cs : List AV) (e : Nat) (r : Bool) : loadB Try.prog 195 off (some (.cells cs e r)) = th (cutE off 65 cs) fun r => some (.agg r) := loadB_agg Try.underlying195 rfl sz195 ..
theorem ia40 (k off l c : Nat) (q : IntKind) (i : Int) : indexAddrE Try.prog 40 (.slice k off l c) (.int q i) = th (idxE i l) fun i => some (.ptr k (off + i * 1)) := ia_slice Try.underlying40 sz5 ..
theorem ib40 (k off i0 l : Nat) (q : IntKind) (i : Int) : indexAddrE Try.prog 40 (.eslice k off i0 l) (.int q i) = th (idxE i l) fun i => some (.ptr k (off + i * 1)) := ia_eslice Try.underlying40 sz5 ..
theorem ib127 (k off i0 l : Nat) (q : IntKind) (i : Int) : indexAddrE Try.prog 127 (.eslice k off i0 l) (.int q i) = th (idxE i l) fun i => some (.ptr k (off + i * 1)) := ia_eslice Try.underlying127 sz125 ..
theorem fa195_1 (k off : Nat) : fieldAddrE Try.prog 195 (.ptr k off) 1 = some (.ptr k (off + 1)) := fa_of 1 63 1 Try.underlying195 rfl rfl sz25 rfl ..
theorem fa195_0 (k off : Nat) : fieldAddrE Try.prog 195 (.ptr k off) 0 = some (.ptr k (off + 0)) := fa_of 0 0 0 Try.underlying195 rfl rfl sz3 rfl ..
theorem ib162 (k off i0 l : Nat) (q : IntKind) (i : Int) : indexAddrE Try.prog 162 (.eslice k off i0 l) (.int q i) = th (idxE i l) fun i => some (.ptr k (off + i * 65)) := ia_eslice Try.underlying162 sz195 ..
theorem fa177_2 (k off : Nat) : fieldAddrE Try.prog 177 (.ptr k off) 2 = some (.ptr k (off + 33)) := fa_of 2 0 33 Try.underlying177 rfl rfl sz141 rfl ..
theorem st52 (h : Heap) (k off : Nat) (v : AV) : storeE Try.prog h 52 (.ptr k off) v = if v.cells.length = 32 then storeB h k off v.cells (h.get k) else none := storeE_ptr sz52 ..
theorem ld5 (off : Nat) (cs : List AV) (e : Nat) (r : Bool) : loadB Try.prog 5 off (some (.cells cs e r)) = cs[off]? := loadB_sc Try.underlying5 rfl ..
theorem ia52 (k off : Nat) (q : IntKind) (i : Int) : indexAddrE Try.prog 52 (.ptr k off) (.int q i) = th (idxE i 32) fun i => some (.ptr k (off + i * 1)) := ia_arr Try.underlying52 sz5 ..
theorem st162 (h : Heap) (k off : Nat) (v : AV) : storeE Try.prog h 162 (.ptr k off) v = if v.cells.length = 1 then storeB h k off v.cells (h.get k) else none := storeE_ptr sz162 ..
theorem bu195 (ps : List (Nat × AV)) : buildE Try.prog 195 ps = th (fillZ [(0,1),(1,64)] ps (match zeroE Try.prog 195 with | some z => z.cells | none => [])) fun cs => some (.agg cs) := build_st Try.underlying195 ze195 (by kernel_rfl) (by kernel_rfl) ps
theorem fa165_4 (k off : Nat) : fieldAddrE Try.prog 165 (.ptr k off) 4 = some (.ptr k (off + 4)) := fa_of 4 0 4 Try.underlying165 rfl rfl sz4 rfl ..
theorem fa151_4 (k off : Nat) : fieldAddrE Try.prog 151 (.ptr k off) 4 = some (.ptr k (off + 4)) := fa_of 4 0 4 Try.underlying151 rfl rfl sz3 rfl ..
theorem fa151_5 (k off : Nat) : fieldAddrE Try.prog 151 (.ptr k off) 5 = some (.ptr k (off + 5)) := fa_of 5 63 5 Try.underlying151 rfl rfl sz25 rfl ..
theorem fa151_3 (k off : Nat) : fieldAddrE Try.prog 151 (.ptr k off) 3 = some (.ptr k (off + 3)) := fa_of 3 0 3 Try.underlying151 rfl rfl sz3 rfl ..
theorem fa151_2 (k off : Nat) : fieldAddrE Try.prog 151 (.ptr k off) 2 = some (.ptr k (off + 2)) := fa_of 2 0 2 Try.underlying151 rfl rfl sz3 rfl ..
theorem fa151_6 (k off : Nat) : fieldAddrE Try.prog 151 (.ptr k off) 6 = some (.ptr k (off + 69)) := fa_of 6 0 69 Try.underlying151 rfl rfl sz40 rfl ..
theorem fa151_1 (k off : Nat) : fieldAddrE Try.prog 151 (.ptr k off) 1 = some (.ptr k (off + 1)) := fa_of 1 0 1 Try.underlying151 rfl rfl sz3 rfl ..
theorem fa151_0 (k off : Nat) : fieldAddrE Try.prog 151 (.ptr k off) 0 = some (.ptr k (off + 0)) := fa_of 0 0 0 Try.underlying151 rfl rfl sz3 rfl ..
theorem st151 (h : Heap) (k off : Nat) (v : AV) : storeE Try.prog h 151 (.ptr k off) v = if v.cells.length = 70 then storeB h k off v.cells (h.get k) else none := storeE_ptr sz151 ..
theorem ld151 (off : Nat) (cs : List AV) (e : Nat) (r : Bool) : loadB Try.prog 151 off (some (.cells cs e r)) = th (cutE off 70 cs) fun r => some (.agg r) := loadB_agg Try.underlying151 rfl sz151 ..
theorem ib98 (k off i0 l : Nat) (q : IntKind) (i : Int) : indexAddrE Try.prog 98 (.eslice k off i0 l) (.int q i) = th (idxE i l) fun i => some (.ptr k (off + i * 70)) := ia_eslice Try.underlying98 sz151 ..
theorem ix190 (cs : List AV) (q : IntKind) (i : Int) : indexE Try.prog 190 (.agg cs) (.int q i) = th (idxE i 6) fun i => partE Try.prog 1 cs (i * 1) := ix_arr Try.underlying190 sz1 ..
theorem bu190 (ps : List (Nat × AV)) (hi : (ps.all fun x => decide (x.1 < 6)) = true) : buildE Try.prog 190 ps = th (fillZ [(0,1),(1,1),(2,1),(3,1),(4,1),(5,1)] ps (match zeroE Try.prog 190 with | some z => z.cells | none => [])) fun cs => some (.agg cs) := build_arr Try.underlying190 sz1 ze190 rfl ps hi
theorem st37 (h : Heap) (k off : Nat) (v : AV) : storeE Try.prog h 37 (.ptr k off) v = if v.cells.length = 1 then storeB h k off v.cells (h.get k) else none := storeE_ptr sz37 ..
theorem ld123 (off : Nat) (cs : List AV) (e : Nat) (r : Bool) : loadB Try.prog 123 off (some (.cells cs e r)) = cs[off]? := loadB_sc Try.underlying123 rfl ..
theorem fa165_1 (k off : Nat) : fieldAddrE Try.prog 165 (.ptr k off) 1 = some (.ptr k (off + 1)) := fa_of 1 0 1 Try.underlying165 rfl rfl sz162 rfl ..
theorem fa177_1 (k off : Nat) : fieldAddrE Try.prog 177 (.ptr k off) 1 = some (.ptr k (off + 1)) := fa_of 1 31 1 Try.underlying177 rfl rfl sz52 rfl ..
theorem fa177_0 (k off : Nat) : fieldAddrE Try.prog 177 (.ptr k off) 0 = some (.ptr k (off + 0)) := fa_of 0 0 0 Try.underlying177 rfl rfl sz68 rfl ..
theorem st99 (h : Heap) (k off : Nat) (v : AV) : storeE Try.prog h 99 (.ptr k off) v = if v.cells.length = 1 then storeB h k off v.cells (h.get k) else none := storeE_ptr sz99 ..
theorem bu103 (ps : List (Nat × AV)) : buildE Try.prog 103 ps = th (fillZ [(0,1),(1,1),(2,1),(3,64),(67,1)] ps (match zeroE Try.prog 103 with | some z => z.cells | none => [])) fun cs => some (.agg cs) := build_st Try.underlying103 ze103 (by kernel_rfl) (by kernel_rfl) ps
theorem bu177 (ps : List (Nat × AV)) : buildE Try.prog 177 ps = th (fillZ [(0,1),(1,32),(33,1)] ps (match zeroE Try.prog 177 with | some z => z.cells | none => [])) fun cs => some (.agg cs) := build_st Try.underlying177 ze177 (by kernel_rfl) (by kernel_rfl) ps
theorem bu165 (ps : List (Nat × AV)) : buildE Try.prog 165 ps = th (fillZ [(0,1),(1,1),(2,1),(3,1),(4,1),(5,1)] ps (match zeroE Try.prog 165 with | some z => z.cells | none => [])) fun cs => some (.agg cs) := build_st Try.underlying165 ze165 (by kernel_rfl) (by kernel_rfl) ps
theorem st141 (h : Heap) (k off : Nat) (v : AV) : storeE Try.prog h 141 (.ptr k off) v = if v.cells.length = 1 then storeB h k off v.cells (h.get k) else none := storeE_ptr sz141 ..
theorem ia141 (k off l c : Nat) (q : IntKind) (i : Int) : indexAddrE Try.prog 141 (.slice k off l c) (.int q i) = th (idxE i l) fun i => some (.ptr k (off + i * 33)) := ia_slice Try.underlying141 sz70 ..
theorem ib141 (k off i0 l : Nat) (q : IntKind) (i : Int) : indexAddrE Try.prog 141 (.eslice k off i0 l) (.int q i) = th (idxE i l) fun i => some (.ptr k (off + i * 33)) := ia_eslice Try.underlying141 sz70 ..
theorem ld141 (off : Nat) (cs : List AV) (e : Nat) (r : Bool) : loadB Try.prog 141 off (some (.cells cs e r)) = cs[off]? := loadB_sc Try.underlying141 rfl ..
theorem fa143_0 (k off : Nat) : fieldAddrE Try.prog 143 (.ptr k off) 0 = some (.ptr k (off + 0)) := fa_of 0 0 0 Try.underlying143 rfl rfl sz141 rfl ..
theorem fa70_1 (k off : Nat) : fieldAddrE Try.prog 70 (.ptr k off) 1 = some (.ptr k (off + 1)) := fa_of 1 31 1 Try.underlying70 rfl rfl sz52 rfl ..
theorem st62 (h : Heap) (k off : Nat) (v : AV) : storeE Try.prog h 62 (.ptr k off) v = if v.cells.length = 1 then storeB h k off v.cells (h.get k) else none := storeE_ptr sz62 ..
theorem fa80_2 (k off : Nat) : fieldAddrE Try.prog 80 (.ptr k off) 2 = some (.ptr k (off + 2)) := fa_of 2 0 2 Try.underlying80 rfl rfl sz43 rfl ..
theorem fa133_1 (k off : Nat) : fieldAddrE Try.prog 133 (.ptr k off) 1 = some (.ptr k (off + 1)) := fa_of 1 63 1 Try.underlying133 rfl rfl sz25 rfl ..
theorem fa133_0 (k off : Nat) : fieldAddrE Try.prog 133 (.ptr k off) 0 = some (.ptr k (off + 0)) := fa_of 0 0 0 Try.underlying133 rfl rfl sz3 rfl ..
theorem st133 (h : Heap) (k off : Nat) (v : AV) : storeE Try.prog h 133 (.ptr k off) v = if v.cells.length = 65 then storeB h k off v.cells (h.get k) else none := storeE_ptr sz133 ..
theorem ld133 (off : Nat) (cs : List AV) (e : Nat) (r : Bool) : loadB Try.prog 133 off (some (.cells cs e r)) = th (cutE off 65 cs) fun r => some (.agg r) := loadB_agg Try.underlying133 rfl sz133 ..
theorem ib126 (k off i0 l : Nat) (q : IntKind) (i : Int) : indexAddrE Try.prog 126 (.eslice k off i0 l) (.int q i) = th (idxE i l) fun i => some (.ptr k (off + i * 65)) := ia_eslice Try.underlying126 sz133 ..
theorem fa129_5 (k off : Nat) : fieldAddrE Try.prog 129 (.ptr k off) 5 = some (.ptr k (off + 5)) := fa_of 5 0 5 Try.underlying129 rfl rfl sz4 rfl ..
theorem pn37 (k o : Nat) : binE Try.prog .neq 37 (.ptr k o) .nilptr = some (.bool true) := neq_pn Try.underlying37 ..
theorem ld78 (off : Nat) (cs : List AV) (e : Nat) (r : Bool) : loadB Try.prog 78 off (some (.cells cs e r)) = cs[off]? := loadB_sc Try.underlying78 rfl ..
theorem fa80_1 (k off : Nat) : fieldAddrE Try.prog 80 (.ptr k off) 1 = some (.ptr k (off + 1)) := fa_of 1 0 1 Try.underlying80 rfl rfl sz78 rfl ..
theorem fa129_0 (k off : Nat) : fieldAddrE Try.prog 129 (.ptr k off) 0 = some (.ptr k (off + 0)) := fa_of 0 0 0 Try.underlying129 rfl rfl sz3 rfl ..
theorem st44 (h : Heap) (k off : Nat) (v : AV) : storeE Try.prog h 44 (.ptr k off) v = if v.cells.length = 1 then storeB h k off v.cells (h.get k) else none := storeE_ptr sz44 ..
theorem ld162 (off : Nat) (cs : List AV) (e : Nat) (r : Bool) : loadB Try.prog 162 off (some (.cells cs e r)) = cs[off]? := loadB_sc Try.underlying162 rfl ..
theorem fa165_2 (k off : Nat) : fieldAddrE Try.prog 165 (.ptr k off) 2 = some (.ptr k (off + 2)) := fa_of 2 0 2 Try.underlying165 rfl rfl sz162 rfl ..
theorem fa165_5 (k off : Nat) : fieldAddrE Try.prog 165 (.ptr k off) 5 = some (.ptr k (off + 5)) := fa_of 5 0 5 Try.underlying165 rfl rfl sz4 rfl ..
theorem fa165_0 (k off : Nat) : fieldAddrE Try.prog 165 (.ptr k off) 0 = some (.ptr k (off + 0)) := fa_of 0 0 0 Try.underlying165 rfl rfl sz3 rfl ..
theorem ld149 (off : Nat) (cs : List AV) (e : Nat) (r : Bool) : loadB Try.prog 149 off (some (.cells cs e r)) = cs[off]? := loadB_sc Try.underlying149 rfl ..
theorem ib96 (k off i0 l : Nat) (q : IntKind) (i : Int) : indexAddrE Try.prog 96 (.eslice k off i0 l) (.int q i) = th (idxE i l) fun i => some (.ptr k (off + i * 1)) := ia_eslice Try.underlying96 sz149 ..
theorem ld97 (off : Nat) (cs : List AV) (e : Nat) (r : Bool) : loadB Try.prog 97 off (some (.cells cs e r)) = cs[off]? := loadB_sc Try.underlying97 rfl ..
theorem fa101_3 (k off : Nat) : fieldAddrE Try.prog 101 (.ptr k off) 3 = some (.ptr k (off + 3)) := fa_of 3 0 3 Try.underlying101 rfl rfl sz4 rfl ..
theorem st97 (h : Heap) (k off : Nat) (v : AV) : storeE Try.prog h 97 (.ptr k off) v = if v.cells.length = 1 then storeB h k off v.cells (h.get k) else none := storeE_ptr sz97 ..
theorem fa101_1 (k off : Nat) : fieldAddrE Try.prog 101 (.ptr k off) 1 = some (.ptr k (off + 1)) := fa_of 1 0 1 Try.underlying101 rfl rfl sz97 rfl ..
theorem fa89_1 (k off : Nat) : fieldAddrE Try.prog 89 (.ptr k off) 1 = some (.ptr k (off + 1)) := fa_of 1 32 1 Try.underlying89 rfl rfl sz70 rfl ..
theorem st98 (h : Heap) (k off : Nat) (v : AV) : storeE Try.prog h 98 (.ptr k off) v = if v.cells.length = 1 then storeB h k off v.cells (h.get k) else none := storeE_ptr sz98 ..
theorem bu151 (ps : List (Nat × AV)) : buildE Try.prog 151 ps = th (fillZ [(0,1),(1,1),(2,1),(3,1),(4,1),(5,64),(69,1)] ps (match zeroE Try.prog 151 with | some z => z.cells | none => [])) fun cs => some (.agg cs) := build_st Try.underlying151 ze151 (by kernel_rfl) (by kernel_rfl) ps
theorem fa42_5 (k off : Nat) : fieldAddrE Try.prog 42 (.ptr k off) 5 = some (.ptr k (off + 5)) := fa_of 5 63 5 Try.underlying42 rfl rfl sz25 rfl ..
theorem fa42_4 (k off : Nat) : fieldAddrE Try.prog 42 (.ptr k off) 4 = some (.ptr k (off + 4)) := fa_of 4 0 4 Try.underlying42 rfl rfl sz3 rfl ..
theorem fa42_3 (k off : Nat) : fieldAddrE Try.prog 42 (.ptr k off) 3 = some (.ptr k (off + 3)) := fa_of 3 0 3 Try.underlying42 rfl rfl sz3 rfl ..
theorem fa42_2 (k off : Nat) : fieldAddrE Try.prog 42 (.ptr k off) 2 = some (.ptr k (off + 2)) := fa_of 2 0 2 Try.underlying42 rfl rfl sz3 rfl ..
theorem fa42_1 (k off : Nat) : fieldAddrE Try.prog 42 (.ptr k off) 1 = some (.ptr k (off + 1)) := fa_of 1 0 1 Try.underlying42 rfl rfl sz3 rfl ..
theorem ld98 (off : Nat) (cs : List AV) (e : Nat) (r : Bool) : loadB Try.prog 98 off (some (.cells cs e r)) = cs[off]? := loadB_sc Try.underlying98 rfl ..
theorem fa101_2 (k off : Nat) : fieldAddrE Try.prog 101 (.ptr k off) 2 = some (.ptr k (off + 2)) := fa_of 2 0 2 Try.underlying101 rfl rfl sz98 rfl ..
theorem st42 (h : Heap) (k off : Nat) (v : AV) : storeE Try.prog h 42 (.ptr k off) v = if v.cells.length = 70 then storeB h k off v.cells (h.get k) else none := storeE_ptr sz42 ..
theorem ld42 (off : Nat) (cs : List AV) (e : Nat) (r : Bool) : loadB Try.prog 42 off (some (.cells cs e r)) = th (cutE off 70 cs) fun r => some (.agg r) := loadB_agg Try.underlying42 rfl sz42 ..
theorem st96 (h : Heap) (k off : Nat) (v : AV) : storeE Try.prog h 96 (.ptr k off) v = if v.cells.length = 1 then storeB h k off v.cells (h.get k) else none := storeE_ptr sz96 ..
theorem ld96 (off : Nat) (cs : List AV) (e : Nat) (r : Bool) : loadB Try.prog 96 off (some (.cells cs e r)) = cs[off]? := loadB_sc Try.underlying96 rfl ..
theorem fa101_0 (k off : Nat) : fieldAddrE Try.prog 101 (.ptr k off) 0 = some (.ptr k (off + 0)) := fa_of 0 0 0 Try.underlying101 rfl rfl sz96 rfl ..
theorem bu101 (ps : List (Nat × AV)) : buildE Try.prog 101 ps = th (fillZ [(0,1),(1,1),(2,1),(3,1),(4,1)] ps (match zeroE Try.prog 101 with | some z => z.cells | none => [])) fun cs => some (.agg cs) := build_st Try.underlying101 ze101 (by kernel_rfl) (by kernel_rfl) ps
theorem ld43 (off : Nat) (cs : List AV) (e : Nat) (r : Bool) : loadB Try.prog 43 off (some (.cells cs e r)) = cs[off]? := loadB_sc Try.underlying43 rfl ..
theorem fa89_2 (k off : Nat) : fieldAddrE Try.prog 89 (.ptr k off) 2 = some (.ptr k (off + 34)) := fa_of 2 0 34 Try.underlying89 rfl rfl sz43 rfl ..
theorem ld50 (off : Nat) (cs : List AV) (e : Nat) (r : Bool) : loadB Try.prog 50 off (some (.cells cs e r)) = cs[off]? := loadB_sc Try.underlying50 rfl ..
theorem fa80_0 (k off : Nat) : fieldAddrE Try.prog 80 (.ptr k off) 0 = some (.ptr k (off + 0)) := fa_of 0 0 0 Try.underlying80 rfl rfl sz50 rfl ..
theorem st40 (h : Heap) (k off : Nat) (v : AV) : storeE Try.prog h 40 (.ptr k off) v = if v.cells.length = 1 then storeB h k off v.cells (h.get k) else none := storeE_ptr sz40 ..
theorem ld40 (off : Nat) (cs : List AV) (e : Nat) (r : Bool) : loadB Try.prog 40 off (some (.cells cs e r)) = cs[off]? := loadB_sc Try.underlying40 rfl ..
theorem fa42_6 (k off : Nat) : fieldAddrE Try.prog 42 (.ptr k off) 6 = some (.ptr k (off + 69)) := fa_of 6 0 69 Try.underlying42 rfl rfl sz40 rfl ..
theorem bu129 (ps : List (Nat × AV)) : buildE Try.prog 129 ps = th (fillZ [(0,1),(1,1),(2,1),(3,1),(4,1),(5,1),(6,1)] ps (match zeroE Try.prog 129 with | some z => z.cells | none => [])) fun cs => some (.agg cs) := build_st Try.underlying129 ze129 (by kernel_rfl) (by kernel_rfl) ps
theorem bu143 (ps : List (Nat × AV)) : buildE Try.prog 143 ps = th (fillZ [(0,1)] ps (match zeroE Try.prog 143 with | some z => z.cells | none => [])) fun cs => some (.agg cs) := build_st Try.underlying143 ze143 (by kernel_rfl) (by kernel_rfl) ps
theorem fa70_0 (k off : Nat) : fieldAddrE Try.prog 70 (.ptr k off) 0 = some (.ptr k (off + 0)) := fa_of 0 0 0 Try.underlying70 rfl rfl sz68 rfl ..
theorem ld68 (off : Nat) (cs : List AV) (e : Nat) (r : Bool) : loadB Try.prog 68 off (some (.cells cs e r)) = cs[off]? := loadB_sc Try.underlying68 rfl ..
theorem cp40 (h : Heap) (k off l c k2 off2 l2 c2 : Nat) (hp : 0 < l) (hp2 : 0 < l2) : copyE Try.prog h 40 (.slice k off l c) (.slice k2 off2 l2 c2) = th (atB (minS l2 l * 1) off2 (h.get k2)) fun cs => th (layB h k off cs (h.get k)) fun h => some (.int .i64 (minS l2 l : Nat),h) := copy_ss Try.underlying40 sz5 h hp hp2
theorem slo52 (k off : Nat) : sliceE Try.prog 52 (.ptr k off) none none none = some (.slice k (offS 32 0 off 1) (32 - 0) (32 - 0)) := sl_arr_0 Try.underlying52 sz5 ..
theorem slo25 (k off : Nat) : sliceE Try.prog 25 (.ptr k off) none none none = some (.slice k (offS 64 0 off 1) (64 - 0) (64 - 0)) := sl_arr_0 Try.underlying25 sz5 ..
theorem st68 (h : Heap) (k off : Nat) (v : AV) : storeE Try.prog h 68 (.ptr k off) v = if v.cells.length = 1 then storeB h k off v.cells (h.get k) else none := storeE_ptr sz68 ..
theorem st5 (h : Heap) (k off : Nat) (v : AV) : storeE Try.prog h 5 (.ptr k off) v = if v.cells.length = 1 then storeB h k off v.cells (h.get k) else none := storeE_ptr sz5 ..
theorem ia25 (k off : Nat) (q : IntKind) (i : Int) : indexAddrE Try.prog 25 (.ptr k off) (.int q i) = th (idxE i 64) fun i => some (.ptr k (off + i * 1)) := ia_arr Try.underlying25 sz5 ..
theorem st4 (h : Heap) (k off : Nat) (v : AV) : storeE Try.prog h 4 (.ptr k off) v = if v.cells.length = 1 then storeB h k off v.cells (h.get k) else none := storeE_ptr sz4 ..
theorem ld36 (off : Nat) (cs : List AV) (e : Nat) (r : Bool) : loadB Try.prog 36 off (some (.cells cs e r)) = cs[off]? := loadB_sc Try.underlying36 rfl ..
theorem ld62 (off : Nat) (cs : List AV) (e : Nat) (r : Bool) : loadB Try.prog 62 off (some (.cells cs e r)) = cs[off]? := loadB_sc Try.underlying62 rfl ..
theorem fa80_4 (k off : Nat) : fieldAddrE Try.prog 80 (.ptr k off) 4 = some (.ptr k (off + 4)) := fa_of 4 0 4 Try.underlying80 rfl rfl sz62 rfl ..
theorem ld52 (off : Nat) (cs : List AV) (e : Nat) (r : Bool) : loadB Try.prog 52 off (some (.cells cs e r)) = th (cutE off 32 cs) fun r => some (.agg r) := loadB_agg Try.underlying52 rfl sz52 ..
theorem fa54_4 (k off : Nat) : fieldAddrE Try.prog 54 (.ptr k off) 4 = some (.ptr k (off + 67)) := fa_of 4 31 67 Try.underlying54 rfl rfl sz52 rfl ..
theorem fa80_3 (k off : Nat) : fieldAddrE Try.prog 80 (.ptr k off) 3 = some (.ptr k (off + 3)) := fa_of 3 0 3 Try.underlying80 rfl rfl sz4 rfl ..
theorem bu133 (ps : List (Nat × AV)) : buildE Try.prog 133 ps = th (fillZ [(0,1),(1,64)] ps (match zeroE Try.prog 133 with | some z => z.cells | none => [])) fun cs => some (.agg cs) := build_st Try.underlying133 ze133 (by kernel_rfl) (by kernel_rfl) ps
theorem fe65_4 (cs : List AV) : fieldE Try.prog 65 (.agg cs) 4 = partE Try.prog 44 cs 67 := fieldE_of 4 67 Try.underlying65 rfl rfl rfl ..
theorem st127 (h : Heap) (k off : Nat) (v : AV) : storeE Try.prog h 127 (.ptr k off) v = if v.cells.length = 1 then storeB h k off v.cells (h.get k) else none := storeE_ptr sz127 ..
theorem ld127 (off : Nat) (cs : List AV) (e : Nat) (r : Bool) : loadB Try.prog 127 off (some (.cells cs e r)) = cs[off]? := loadB_sc Try.underlying127 rfl ..
theorem fa129_4 (k off : Nat) : fieldAddrE Try.prog 129 (.ptr k off) 4 = some (.ptr k (off + 4)) := fa_of 4 0 4 Try.underlying129 rfl rfl sz127 rfl ..
theorem st126 (h : Heap) (k off : Nat) (v : AV) : storeE Try.prog h 126 (.ptr k off) v = if v.cells.length = 1 then storeB h k off v.cells (h.get k) else none := storeE_ptr sz126 ..
theorem st125 (h : Heap) (k off : Nat) (v : AV) : storeE Try.prog h 125 (.ptr k off) v = if v.cells.length = 1 then storeB h k off v.cells (h.get k) else none := storeE_ptr sz125 ..
theorem ld126 (off : Nat) (cs : List AV) (e : Nat) (r : Bool) : loadB Try.prog 126 off (some (.cells cs e r)) = cs[off]? := loadB_sc Try.underlying126 rfl ..
theorem fa129_3 (k off : Nat) : fieldAddrE Try.prog 129 (.ptr k off) 3 = some (.ptr k (off + 3)) := fa_of 3 0 3 Try.underlying129 rfl rfl sz126 rfl ..
theorem fa129_2 (k off : Nat) : fieldAddrE Try.prog 129 (.ptr k off) 2 = some (.ptr k (off + 2)) := fa_of 2 0 2 Try.underlying129 rfl rfl sz125 rfl ..
theorem ld125 (off : Nat) (cs : List AV) (e : Nat) (r : Bool) : loadB Try.prog 125 off (some (.cells cs e r)) = cs[off]? := loadB_sc Try.underlying125 rfl ..
theorem fa129_1 (k off : Nat) : fieldAddrE Try.prog 129 (.ptr k off) 1 = some (.ptr k (off + 1)) := fa_of 1 0 1 Try.underlying129 rfl rfl sz125 rfl ..
theorem st129 (h : Heap) (k off : Nat) (v : AV) : storeE Try.prog h 129 (.ptr k off) v = if v.cells.length = 7 then storeB h k off v.cells (h.get k) else none := storeE_ptr sz129 ..
theorem ld129 (off : Nat) (cs : List AV) (e : Nat) (r : Bool) : loadB Try.prog 129 off (some (.cells cs e r)) = th (cutE off 7 cs) fun r => some (.agg r) := loadB_agg Try.underlying129 rfl sz129 ..
theorem ld4 (off : Nat) (cs : List AV) (e : Nat) (r : Bool) : loadB Try.prog 4 off (some (.cells cs e r)) = cs[off]? := loadB_sc Try.underlying4 rfl ..
theorem fa129_6 (k off : Nat) : fieldAddrE Try.prog 129 (.ptr k off) 6 = some (.ptr k (off + 6)) := fa_of 6 0 6 Try.underlying129 rfl rfl sz4 rfl ..
theorem ia28 (k off l c : Nat) (q : IntKind) (i : Int) : indexAddrE Try.prog 28 (.slice k off l c) (.int q i) = th (idxE i l) fun i => some (.ptr k (off + i * 1)) := ia_slice Try.underlying28 sz3 ..
theorem fa103_4 (k off : Nat) : fieldAddrE Try.prog 103 (.ptr k off) 4 = some (.ptr k (off + 67)) := fa_of 4 0 67 Try.underlying103 rfl rfl sz3 rfl ..
theorem fa103_3 (k off : Nat) : fieldAddrE Try.prog 103 (.ptr k off) 3 = some (.ptr k (off + 3)) := fa_of 3 63 3 Try.underlying103 rfl rfl sz25 rfl ..
theorem fa103_2 (k off : Nat) : fieldAddrE Try.prog 103 (.ptr k off) 2 = some (.ptr k (off + 2)) := fa_of 2 0 2 Try.underlying103 rfl rfl sz3 rfl ..
theorem fa103_1 (k off : Nat) : fieldAddrE Try.prog 103 (.ptr k off) 1 = some (.ptr k (off + 1)) := fa_of 1 0 1 Try.underlying103 rfl rfl sz3 rfl ..
theorem fa103_0 (k off : Nat) : fieldAddrE Try.prog 103 (.ptr k off) 0 = some (.ptr k (off + 0)) := fa_of 0 0 0 Try.underlying103 rfl rfl sz3 rfl ..
theorem st103 (h : Heap) (k off : Nat) (v : AV) : storeE Try.prog h 103 (.ptr k off) v = if v.cells.length = 68 then storeB h k off v.cells (h.get k) else none := storeE_ptr sz103 ..
theorem st65 (h : Heap) (k off : Nat) (v : AV) : storeE Try.prog h 65 (.ptr k off) v = if v.cells.length = 68 then storeB h k off v.cells (h.get k) else none := storeE_ptr sz65 ..
theorem ld103 (off : Nat) (cs : List AV) (e : Nat) (r : Bool) : loadB Try.prog 103 off (some (.cells cs e r)) = th (cutE off 68 cs) fun r => some (.agg r) := loadB_agg Try.underlying103 rfl sz103 ..
theorem ib99 (k off i0 l : Nat) (q : IntKind) (i : Int) : indexAddrE Try.prog 99 (.eslice k off i0 l) (.int q i) = th (idxE i l) fun i => some (.ptr k (off + i * 68)) := ia_eslice Try.underlying99 sz103 ..
theorem ld99 (off : Nat) (cs : List AV) (e : Nat) (r : Bool) : loadB Try.prog 99 off (some (.cells cs e r)) = cs[off]? := loadB_sc Try.underlying99 rfl ..
theorem fa101_4 (k off : Nat) : fieldAddrE Try.prog 101 (.ptr k off) 4 = some (.ptr k (off + 4)) := fa_of 4 0 4 Try.underlying101 rfl rfl sz99 rfl ..
theorem ld28 (off : Nat) (cs : List AV) (e : Nat) (r : Bool) : loadB Try.prog 28 off (some (.cells cs e r)) = cs[off]? := loadB_sc Try.underlying28 rfl ..
theorem fa89_0 (k off : Nat) : fieldAddrE Try.prog 89 (.ptr k off) 0 = some (.ptr k (off + 0)) := fa_of 0 0 0 Try.underlying89 rfl rfl sz28 rfl ..
theorem pq78 (k o : Nat) : binE Try.prog .eql 78 (.ptr k o) .nilptr = some (.bool false) := eql_pn Try.underlying78 ..
theorem pn78 (k o : Nat) : binE Try.prog .neq 78 (.ptr k o) .nilptr = some (.bool true) := neq_pn Try.underlying78 ..
theorem qq78 : binE Try.prog .eql 78 .nilptr .nilptr = some (.bool true) := eql_nn Try.underlying78
theorem ld89 (off : Nat) (cs : List AV) (e : Nat) (r : Bool) : loadB Try.prog 89 off (some (.cells cs e r)) = th (cutE off 35 cs) fun r => some (.agg r) := loadB_agg Try.underlying89 rfl sz89 ..
theorem bu80 (ps : List (Nat × AV)) : buildE Try.prog 80 ps = th (fillZ [(0,1),(1,1),(2,1),(3,1),(4,1)] ps (match zeroE Try.prog 80 with | some z => z.cells | none => [])) fun cs => some (.agg cs) := build_st Try.underlying80 ze80 (by kernel_rfl) (by kernel_rfl) ps
theorem bu65 (ps : List (Nat × AV)) : buildE Try.prog 65 ps = th (fillZ [(0,1),(1,1),(2,1),(3,64),(67,1)] ps (match zeroE Try.prog 65 with | some z => z.cells | none => [])) fun cs => some (.agg cs) := build_st Try.underlying65 ze65 (by kernel_rfl) (by kernel_rfl) ps
theorem ld65 (off : Nat) (cs : List AV) (e : Nat) (r : Bool) : loadB Try.prog 65 off (some (.cells cs e r)) = th (cutE off 68 cs) fun r => some (.agg r) := loadB_agg Try.underlying65 rfl sz65 ..
theorem bu70 (ps : List (Nat × AV)) : buildE Try.prog 70 ps = th (fillZ [(0,1),(1,32)] ps (match zeroE Try.prog 70 with | some z => z.cells | none => [])) fun cs => some (.agg cs) := build_st Try.underlying70 ze70 (by kernel_rfl) (by kernel_rfl) ps
theorem ld70 (off : Nat) (cs : List AV) (e : Nat) (r : Bool) : loadB Try.prog 70 off (some (.cells cs e r)) = th (cutE off 33 cs) fun r => some (.agg r) := loadB_agg Try.underlying70 rfl sz70 ..
theorem st70 (h : Heap) (k off : Nat) (v : AV) : storeE Try.prog h 70 (.ptr k off) v = if v.cells.length = 33 then storeB h k off v.cells (h.get k) else none := storeE_ptr sz70 ..
theorem fa65_3 (k off : Nat) : fieldAddrE Try.prog 65 (.ptr k off) 3 = some (.ptr k (off + 3)) := fa_of 3 63 3 Try.underlying65 rfl rfl sz25 rfl ..
theorem fa65_2 (k off : Nat) : fieldAddrE Try.prog 65 (.ptr k off) 2 = some (.ptr k (off + 2)) := fa_of 2 0 2 Try.underlying65 rfl rfl sz3 rfl ..
theorem fa65_1 (k off : Nat) : fieldAddrE Try.prog 65 (.ptr k off) 1 = some (.ptr k (off + 1)) := fa_of 1 0 1 Try.underlying65 rfl rfl sz3 rfl ..
theorem fa65_0 (k off : Nat) : fieldAddrE Try.prog 65 (.ptr k off) 0 = some (.ptr k (off + 0)) := fa_of 0 0 0 Try.underlying65 rfl rfl sz3 rfl ..
theorem ld44 (off : Nat) (cs : List AV) (e : Nat) (r : Bool) : loadB Try.prog 44 off (some (.cells cs e r)) = cs[off]? := loadB_sc Try.underlying44 rfl ..
theorem fa65_4 (k off : Nat) : fieldAddrE Try.prog 65 (.ptr k off) 4 = some (.ptr k (off + 67)) := fa_of 4 0 67 Try.underlying65 rfl rfl sz44 rfl ..
theorem ib62 (k off i0 l : Nat) (q : IntKind) (i : Int) : indexAddrE Try.prog 62 (.eslice k off i0 l) (.int q i) = th (idxE i l) fun i => some (.ptr k (off + i * 68)) := ia_eslice Try.underlying62 sz65 ..
theorem fa54_3 (k off : Nat) : fieldAddrE Try.prog 54 (.ptr k off) 3 = some (.ptr k (off + 3)) := fa_of 3 63 3 Try.underlying54 rfl rfl sz25 rfl ..
theorem fa54_2 (k off : Nat) : fieldAddrE Try.prog 54 (.ptr k off) 2 = some (.ptr k (off + 2)) := fa_of 2 0 2 Try.underlying54 rfl rfl sz3 rfl ..
theorem fa54_0 (k off : Nat) : fieldAddrE Try.prog 54 (.ptr k off) 0 = some (.ptr k (off + 0)) := fa_of 0 0 0 Try.underlying54 rfl rfl sz3 rfl ..
theorem ld37 (off : Nat) (cs : List AV) (e : Nat) (r : Bool) : loadB Try.prog 37 off (some (.cells cs e r)) = cs[off]? := loadB_sc Try.underlying37 rfl ..
theorem ia50 (k off l c : Nat) (q : IntKind) (i : Int) : indexAddrE Try.prog 50 (.slice k off l c) (.int q i) = th (idxE i l) fun i => some (.ptr k (off + i * 1)) := ia_slice Try.underlying50 sz37 ..
theorem ib50 (k off i0 l : Nat) (q : IntKind) (i : Int) : indexAddrE Try.prog 50 (.eslice k off i0 l) (.int q i) = th (idxE i l) fun i => some (.ptr k (off + i * 1)) := ia_eslice Try.underlying50 sz37 ..
theorem ld3 (off : Nat) (cs : List AV) (e : Nat) (r : Bool) : loadB Try.prog 3 off (some (.cells cs e r)) = cs[off]? := loadB_sc Try.underlying3 rfl ..
theorem fa54_1 (k off : Nat) : fieldAddrE Try.prog 54 (.ptr k off) 1 = some (.ptr k (off + 1)) := fa_of 1 0 1 Try.underlying54 rfl rfl sz3 rfl ..
theorem st54 (h : Heap) (k off : Nat) (v : AV) : storeE Try.prog h 54 (.ptr k off) v = if v.cells.length = 99 then storeB h k off v.cells (h.get k) else none := storeE_ptr sz54 ..
theorem ld54 (off : Nat) (cs : List AV) (e : Nat) (r : Bool) : loadB Try.prog 54 off (some (.cells cs e r)) = th (cutE off 99 cs) fun r => some (.agg r) := loadB_agg Try.underlying54 rfl sz54 ..
theorem ia48 (k off l c : Nat) (q : IntKind) (i : Int) : indexAddrE Try.prog 48 (.slice k off l c) (.int q i) = th (idxE i l) fun i => some (.ptr k (off + i * 99)) := ia_slice Try.underlying48 sz54 ..
theorem st3 (h : Heap) (k off : Nat) (v : AV) : storeE Try.prog h 3 (.ptr k off) v = if v.cells.length = 1 then storeB h k off v.cells (h.get k) else none := storeE_ptr sz3 ..
theorem fa42_0 (k off : Nat) : fieldAddrE Try.prog 42 (.ptr k off) 0 = some (.ptr k (off + 0)) := fa_of 0 0 0 Try.underlying42 rfl rfl sz3 rfl ..
theorem ib43 (k off i0 l : Nat) (q : IntKind) (i : Int) : indexAddrE Try.prog 43 (.eslice k off i0 l) (.int q i) = th (idxE i l) fun i => some (.ptr k (off + i * 70)) := ia_eslice Try.underlying43 sz42 ..
theorem st25 (h : Heap) (k off : Nat) (v : AV) : storeE Try.prog h 25 (.ptr k off) v = if v.cells.length = 64 then storeB h k off v.cells (h.get k) else none := storeE_ptr sz25 ..
theorem pq36 (k o : Nat) : binE Try.prog .eql 36 (.ptr k o) .nilptr = some (.bool false) := eql_pn Try.underlying36 ..
theorem pn36 (k o : Nat) : binE Try.prog .neq 36 (.ptr k o) .nilptr = some (.bool true) := neq_pn Try.underlying36 ..
theorem qq36 : binE Try.prog .eql 36 .nilptr .nilptr = some (.bool true) := eql_nn Try.underlying36
theorem bu42 (ps : List (Nat × AV)) : buildE Try.prog 42 ps = th (fillZ [(0,1),(1,1),(2,1),(3,1),(4,1),(5,64),(69,1)] ps (match zeroE Try.prog 42 with | some z => z.cells | none => [])) fun cs => some (.agg cs) := build_st Try.underlying42 ze42 (by kernel_rfl) (by kernel_rfl) ps
theorem ld25 (off : Nat) (cs : List AV) (e : Nat) (r : Bool) : loadB Try.prog 25 off (some (.cells cs e r)) = th (cutE off 64 cs) fun r => some (.agg r) := loadB_agg Try.underlying25 rfl sz25 ..
theorem ld27 (off : Nat) (cs : List AV) (e : Nat) (r : Bool) : loadB Try.prog 27 off (some (.cells cs e r)) = th (cutE off 66 cs) fun r => some (.agg r) := loadB_agg Try.underlying27 rfl sz27 ..
def TT1 := PLift.up (And.intro @pt44 (And.intro @pt1 (And.intro @ib163 (And.intro @st163 (And.intro @ld163 (And.intro @fa165_3 (And.intro @ld195 (And.intro @ib40 (And.intro @ia40 (And.intro @ib127 (And.intro @fa195_1 (And.intro @fa195_0 (And.intro @ib162 (And.intro @fa177_2 (And.intro @st52 (And.intro @ld5 (And.intro @ia52 (And.intro @st162 (And.intro @bu195 (And.intro @ze195 (And.intro @fa165_4 (And.intro @fa151_4 (And.intro @fa151_5 (And.intro @fa151_3 (And.intro @fa151_2 (And.intro @fa151_6 (And.intro @fa151_1 (And.intro @fa151_0 (And.intro @st151 (And.intro @ld151 (And.intro @ib98 @ix190)))))))))))))))))))))))))))))))
def TT2 := PLift.up (And.intro @bu190 (And.intro @ze190 (And.intro @st37 (And.intro @ze37 (And.intro @ld123 (And.intro @fa165_1 (And.intro @fa177_1 (And.intro @fa177_0 (And.intro @st99 (And.intro @bu103 (And.intro @bu177 (And.intro @ze177 (And.intro @bu165 (And.intro @ze165 (And.intro @st141 (And.intro @ib141 (And.intro @ia141 (And.intro @ld141 (And.intro @fa143_0 (And.intro @fa70_1 (And.intro @st62 (And.intro @fa80_2 (And.intro @fa133_1 (And.intro @fa133_0 (And.intro @st133 (And.intro @ld133 (And.intro @ib126 (And.intro @fa129_5 (And.intro @pn37 (And.intro @ld78 (And.intro @fa80_1 (And.intro @fa129_0 @st44))))))))))))))))))))))))))))))))
def TT3 := PLift.up (And.intro @ld162 (And.intro @fa165_2 (And.intro @fa165_5 (And.intro @fa165_0 (And.intro @ld149 (And.intro @ib96 (And.intro @ld97 (And.intro @fa101_3 (And.intro @st97 (And.intro @fa101_1 (And.intro @fa89_1 (And.intro @st98 (And.intro @bu151 (And.intro @ze151 (And.intro @fa42_5 (And.intro @fa42_4 (And.intro @fa42_3 (And.intro @fa42_2 (And.intro @fa42_1 (And.intro @ld98 (And.intro @fa101_2 (And.intro @st42 (And.intro @ld42 (And.intro @st96 (And.intro @ld96 (And.intro @fa101_0 (And.intro @bu101 (And.intro @ze101 (And.intro @ld43 (And.intro @fa89_2 (And.intro @ld50 (And.intro @fa80_0 (And.intro @st40 (And.intro @ld40 (And.intro @fa42_6 (And.intro @bu129 (And.intro @bu143 @ze143)))))))))))))))))))))))))))))))))))))
def TT4 := PLift.up (And.intro @fa70_0 (And.intro @ld68 (And.intro @cp40 (And.intro @slo52 (And.intro @slo25 (And.intro @st68 (And.intro @ze68 (And.intro @st5 (And.intro @ia25 (And.intro @st4 (And.intro @ld36 (And.intro @ld62 (And.intro @fa80_4 (And.intro @ld52 (And.intro @fa54_4 (And.intro @fa80_3 (And.intro @bu133 (And.intro @ze133 (And.intro @fe65_4 (And.intro @st127 (And.intro @ld127 (And.intro @fa129_4 (And.intro @st126 (And.intro @st125 (And.intro @ld126 (And.intro @fa129_3 (And.intro @fa129_2 (And.intro @ld125 (And.intro @fa129_1 (And.intro @st129 (And.intro @ze129 (And.intro @ld129 (And.intro @ld4 @fa129_6)))))))))))))))))))))))))))))))))
def TT5 := PLift.up (And.intro @ia28 (And.intro @fa103_4 (And.intro @fa103_3 (And.intro @fa103_2 (And.intro @fa103_1 (And.intro @fa103_0 (And.intro @st103 (And.intro @st65 (And.intro @ze103 (And.intro @ld103 (And.intro @ib99 (And.intro @ld99 (And.intro @fa101_4 (And.intro @ld28 (And.intro @fa89_0 (And.intro @qq78 (And.intro @pn78 (And.intro @pq78 (And.intro @ld89 (And.intro @bu80 (And.intro @ze80 (And.intro @bu65 (And.intro @ze65 (And.intro @ld65 @bu70))))))))))))))))))))))))
def TT6 := PLift.up (And.intro @ld70 (And.intro @st70 (And.intro @ze70 (And.intro @fa65_3 (And.intro @fa65_2 (And.intro @fa65_1 (And.intro @fa65_0 (And.intro @ld44 (And.intro @fa65_4 (And.intro @ib62 (And.intro @fa54_3 (And.intro @fa54_2 (And.intro @fa54_0 (And.intro @ld37 (And.intro @ib50 (And.intro @ia50 (And.intro @ld3 (And.intro @fa54_1 (And.intro @st54 (And.intro @ze54 (And.intro @ld54 (And.intro @ia48 (And.intro @st3 (And.intro @fa42_0 (And.intro @ib43 (And.intro @st25 (And.intro @qq36 (And.intro @pn36 (And.intro @pq36 (And.intro @bu42 (And.intro @ze42 (And.intro @ze25 @ld25))))))))))))))))))))))))))))))))
def TT7 := PLift.up @ld27
def TA := PLift.up (And.intro SA.down (And.intro SL.down (And.intro SM.down (And.intro TT1.down (And.intro TT2.down (And.intro TT3.down (And.intro TT4.down (And.intro TT5.down (And.intro TT6.down TT7.down)))))))))
end Go.Proofs.Ytfjcfjfgamajkaa
