/- Closed facts on the types of the operations: numbers only. Printed by facts.py. -/
import Derived.Test.YtbdefaebbicfjaaGreatProg
import Derived.Test.YtbdefaebbicfjaaGreatA7
import Derived.KernelRfl
set_option linter.all false
namespace Go.Proofs.YtbdefaebbicfjaaGreat
open Go Go.Ab

@[go_sem] theorem F.ap23 : apOf Tryz.prog [23, 23] = some (5, 1, 1) := by kernel_rfl
@[go_sem] theorem F.ap36 : apOf Tryz.prog [36, 36] = some (3, 1, 8) := by kernel_rfl
@[go_sem] theorem F.ap37 : apOf Tryz.prog [37, 37] = some (63, 10, 176) := by kernel_rfl
@[go_sem] theorem F.ap54 : apOf Tryz.prog [54, 54] = some (65, 6, 48) := by kernel_rfl
@[go_sem] theorem F.ap57 : apOf Tryz.prog [57, 57] = some (56, 3, 56) := by kernel_rfl
@[go_sem] theorem F.ap58 : apOf Tryz.prog [58, 58] = some (36, 1, 24) := by kernel_rfl
@[go_sem] theorem F.ap61 : apOf Tryz.prog [61, 61] = some (67, 2, 16) := by kernel_rfl
@[go_sem] theorem F.aps23_9 : apsOf Tryz.prog [23, 9] = some 5 := by kernel_rfl
@[go_sem] theorem F.as247 : asOf Tryz.prog 247 = some (some (.agg [.d (.int .i64 0)])) := by kernel_rfl
@[go_sem] theorem F.as86 : asOf Tryz.prog 86 = some (some (.agg [.d (.int .i64 0), .d (.int .i64 0)])) := by kernel_rfl
@[go_sem] theorem F.bk20 : bkOf Tryz.prog 20 = some .iface := by kernel_rfl
@[go_sem] theorem F.bk223 : bkOf Tryz.prog 223 = some (.struct [(0, .int), (1, .int)]) := by kernel_rfl
@[go_sem] theorem F.bk36 : bkOf Tryz.prog 36 = some .slice := by kernel_rfl
@[go_sem] theorem F.bk37 : bkOf Tryz.prog 37 = some .slice := by kernel_rfl
@[go_sem] theorem F.bk4 : bkOf Tryz.prog 4 = some .bool := by kernel_rfl
@[go_sem] theorem F.bk65 : bkOf Tryz.prog 65 = some (.struct [(0, .int), (1, .int), (2, .int), (3, .int), (4, .int), (5, .int)]) := by kernel_rfl
@[go_sem] theorem F.bk67 : bkOf Tryz.prog 67 = some (.struct [(0, .int), (1, .int)]) := by kernel_rfl
@[go_sem] theorem F.bl100 : blOf Tryz.prog 100 = some (.struct [.d (.cst (.pointer none)), .d .nilsl] [(0, 2)]) := by kernel_rfl
@[go_sem] theorem F.bl185 : blOf Tryz.prog 185 = some (.struct [.d (.int .i64 0), .d .nilsl] [(0, 2)]) := by kernel_rfl
@[go_sem] theorem F.bl223 : blOf Tryz.prog 223 = some (.struct [.d (.int .i64 0), .d (.int .i64 0)] [(0, 1), (1, 1)]) := by kernel_rfl
@[go_sem] theorem F.bl225 : blOf Tryz.prog 225 = some (.struct [.d (.int .i64 0), .d (.int .i64 0), .d (.cst .nilFunc)] [(0, 2), (2, 1)]) := by kernel_rfl
@[go_sem] theorem F.bl226 : blOf Tryz.prog 226 = some (.arr [.d (.int .i64 0), .d (.int .i64 0), .d (.cst .nilFunc), .d (.int .i64 0), .d (.int .i64 0), .d (.cst .nilFunc), .d (.int .i64 0), .d (.int .i64 0), .d (.cst .nilFunc), .d (.int .i64 0), .d (.int .i64 0), .d (.cst .nilFunc)] 3) := by kernel_rfl
@[go_sem] theorem F.bl244 : blOf Tryz.prog 244 = some (.struct [.d (.int .i64 0), .d (.int .i64 0), .d (.int .i64 0), .d (.int .i64 0), .d (.int .i64 0), .d (.int .i64 0), .d (.int .i64 0), .d (.bool false)] [(0, 6), (6, 1), (7, 1)]) := by kernel_rfl
@[go_sem] theorem F.bl247 : blOf Tryz.prog 247 = some (.struct [.d (.int .i64 0)] [(0, 1)]) := by kernel_rfl
@[go_sem] theorem F.bl252 : blOf Tryz.prog 252 = some (.arr [.d (.int .i64 0), .d (.int .i64 0), .d (.int .i64 0)] 1) := by kernel_rfl
@[go_sem] theorem F.bl39 : blOf Tryz.prog 39 = some (.struct [.d (.int .i64 0), .d .nilsl] [(0, 1), (1, 1)]) := by kernel_rfl
@[go_sem] theorem F.bl41 : blOf Tryz.prog 41 = some (.struct [.d (.str []), .d (.int .i64 0), .d (.str []), .d .nilsl, .d (.int .i64 0), .d .nilsl] [(0, 1), (1, 1), (2, 1), (3, 1), (4, 2)]) := by kernel_rfl
@[go_sem] theorem F.bl44 : blOf Tryz.prog 44 = some (.struct [.d (.str []), .d (.int .i64 0)] [(0, 1), (1, 1)]) := by kernel_rfl
@[go_sem] theorem F.bl45 : blOf Tryz.prog 45 = some (.arr [.d (.str []), .d (.int .i64 0), .d (.str []), .d (.int .i64 0), .d (.str []), .d (.int .i64 0), .d (.str []), .d (.int .i64 0), .d (.str []), .d (.int .i64 0), .d (.str []), .d (.int .i64 0)] 2) := by kernel_rfl
@[go_sem] theorem F.bl56 : blOf Tryz.prog 56 = some (.struct [.d (.int .i64 0), .d .nilsl, .d .nilsl] [(0, 1), (1, 1), (2, 1)]) := by kernel_rfl
@[go_sem] theorem F.bl60 : blOf Tryz.prog 60 = some (.struct [.d .nilsl, .d (.int .i64 0), .d .nilsl] [(0, 1), (1, 1), (2, 1)]) := by kernel_rfl
@[go_sem] theorem F.bl63 : blOf Tryz.prog 63 = some (.struct [.d (.int .i64 0), .d .nilsl, .d .nilsl, .d .nilsl, .d .nilsl, .d (.int .i64 0), .d .nilsl, .d .nilsl, .d (.int .i64 0), .d (.int .i64 0)] [(0, 1), (1, 1), (2, 1), (3, 1), (4, 3), (7, 1), (8, 1), (9, 1)]) := by kernel_rfl
@[go_sem] theorem F.bl65 : blOf Tryz.prog 65 = some (.struct [.d (.int .i64 0), .d (.int .i64 0), .d (.int .i64 0), .d (.int .i64 0), .d (.int .i64 0), .d (.int .i64 0)] [(0, 1), (1, 1), (2, 1), (3, 1), (4, 1), (5, 1)]) := by kernel_rfl
@[go_sem] theorem F.bl67 : blOf Tryz.prog 67 = some (.struct [.d (.int .i64 0), .d (.int .i64 0)] [(0, 1), (1, 1)]) := by kernel_rfl
@[go_sem] theorem F.bl69 : blOf Tryz.prog 69 = some (.struct [.d (.str []), .d (.int .i64 0), .d (.int .i64 0)] [(0, 1), (1, 1), (2, 1)]) := by kernel_rfl
@[go_sem] theorem F.bl78 : blOf Tryz.prog 78 = some (.arr [.d (.str []), .d (.int .i64 0), .d (.str []), .d .nilsl, .d (.int .i64 0), .d .nilsl, .d (.str []), .d (.int .i64 0), .d (.str []), .d .nilsl, .d (.int .i64 0), .d .nilsl, .d (.str []), .d (.int .i64 0), .d (.str []), .d .nilsl, .d (.int .i64 0), .d .nilsl] 6) := by kernel_rfl
@[go_sem] theorem F.bl86 : blOf Tryz.prog 86 = some (.struct [.d (.int .i64 0), .d (.int .i64 0)] [(0, 1), (1, 1)]) := by kernel_rfl
@[go_sem] theorem F.bl90 : blOf Tryz.prog 90 = some (.struct [.d (.str []), .d (.int .i64 0)] [(0, 1), (1, 1)]) := by kernel_rfl
@[go_sem] theorem F.bl92 : blOf Tryz.prog 92 = some (.struct [.d (.str []), .d (.int .i64 0), .d (.int .i64 0), .d (.int .i64 0)] [(0, 1), (1, 1), (2, 1), (3, 1)]) := by kernel_rfl
@[go_sem] theorem F.bp96 : bpOf Tryz.prog 96 = true := by kernel_rfl
@[go_sem] theorem F.bs23 : bsOf Tryz.prog 23 = some 1 := by kernel_rfl
@[go_sem] theorem F.bs36 : bsOf Tryz.prog 36 = some 1 := by kernel_rfl
@[go_sem] theorem F.bs37 : bsOf Tryz.prog 37 = some 10 := by kernel_rfl
@[go_sem] theorem F.bs54 : bsOf Tryz.prog 54 = some 6 := by kernel_rfl
@[go_sem] theorem F.bs57 : bsOf Tryz.prog 57 = some 3 := by kernel_rfl
@[go_sem] theorem F.bs58 : bsOf Tryz.prog 58 = some 1 := by kernel_rfl
@[go_sem] theorem F.bs61 : bsOf Tryz.prog 61 = some 2 := by kernel_rfl
@[go_sem] theorem F.bs70 : bsOf Tryz.prog 70 = some 3 := by kernel_rfl
@[go_sem] theorem F.cp23_23 : cpOf Tryz.prog [23, 23] = true := by kernel_rfl
@[go_sem] theorem F.cp23_9 : cpOf Tryz.prog [23, 9] = true := by kernel_rfl
@[go_sem] theorem F.cp36_36 : cpOf Tryz.prog [36, 36] = true := by kernel_rfl
@[go_sem] theorem F.cs23_23 : slSzs Tryz.prog [23, 23] = some 1 := by kernel_rfl
@[go_sem] theorem F.cs23_9 : slSzs Tryz.prog [23, 9] = some 1 := by kernel_rfl
@[go_sem] theorem F.cs36_36 : slSzs Tryz.prog [36, 36] = some 1 := by kernel_rfl
@[go_sem] theorem F.cs61_61 : slSzs Tryz.prog [61, 61] = some 2 := by kernel_rfl
@[go_sem] theorem F.cv107_141 : cvOf Tryz.prog 107 141 = some (.int .u32) := by kernel_rfl
@[go_sem] theorem F.cv107_3 : cvOf Tryz.prog 107 3 = some (.int .i64) := by kernel_rfl
@[go_sem] theorem F.cv141_107 : cvOf Tryz.prog 141 107 = some (.int .u64) := by kernel_rfl
@[go_sem] theorem F.cv141_144 : cvOf Tryz.prog 141 144 = some (.int .u64) := by kernel_rfl
@[go_sem] theorem F.cv144_141 : cvOf Tryz.prog 144 141 = some (.int .u32) := by kernel_rfl
@[go_sem] theorem F.cv158_3 : cvOf Tryz.prog 158 3 = some (.int .i64) := by kernel_rfl
@[go_sem] theorem F.cv21_3 : cvOf Tryz.prog 21 3 = some (.int .i64) := by kernel_rfl
@[go_sem] theorem F.cv22_3 : cvOf Tryz.prog 22 3 = some (.int .i64) := by kernel_rfl
@[go_sem] theorem F.cv23_9 : cvOf Tryz.prog 23 9 = some .bytes := by kernel_rfl
@[go_sem] theorem F.cv3_107 : cvOf Tryz.prog 3 107 = some (.int .u64) := by kernel_rfl
@[go_sem] theorem F.cv3_21 : cvOf Tryz.prog 3 21 = some (.int .i32) := by kernel_rfl
@[go_sem] theorem F.cv3_22 : cvOf Tryz.prog 3 22 = some (.int .u16) := by kernel_rfl
@[go_sem] theorem F.cv3_5 : cvOf Tryz.prog 3 5 = some (.int .u8) := by kernel_rfl
@[go_sem] theorem F.cv5_3 : cvOf Tryz.prog 5 3 = some (.int .i64) := by kernel_rfl
@[go_sem] theorem F.fld100_0 : fldOf Tryz.prog 100 0 = some 0 := by kernel_rfl
@[go_sem] theorem F.fld156_0 : fldOf Tryz.prog 156 0 = some 0 := by kernel_rfl
@[go_sem] theorem F.fld156_1 : fldOf Tryz.prog 156 1 = some 1 := by kernel_rfl
@[go_sem] theorem F.fld156_2 : fldOf Tryz.prog 156 2 = some 2 := by kernel_rfl
@[go_sem] theorem F.fld156_3 : fldOf Tryz.prog 156 3 = some 3 := by kernel_rfl
@[go_sem] theorem F.fld156_4 : fldOf Tryz.prog 156 4 = some 4 := by kernel_rfl
@[go_sem] theorem F.fld162_0 : fldOf Tryz.prog 162 0 = some 0 := by kernel_rfl
@[go_sem] theorem F.fld162_2 : fldOf Tryz.prog 162 2 = some 2 := by kernel_rfl
@[go_sem] theorem F.fld162_3 : fldOf Tryz.prog 162 3 = some 3 := by kernel_rfl
@[go_sem] theorem F.fld165_0 : fldOf Tryz.prog 165 0 = some 0 := by kernel_rfl
@[go_sem] theorem F.fld165_1 : fldOf Tryz.prog 165 1 = some 1 := by kernel_rfl
@[go_sem] theorem F.fld165_2 : fldOf Tryz.prog 165 2 = some 2 := by kernel_rfl
@[go_sem] theorem F.fld167_0 : fldOf Tryz.prog 167 0 = some 0 := by kernel_rfl
@[go_sem] theorem F.fld167_1 : fldOf Tryz.prog 167 1 = some 1 := by kernel_rfl
@[go_sem] theorem F.fld167_2 : fldOf Tryz.prog 167 2 = some 2 := by kernel_rfl
@[go_sem] theorem F.fld167_3 : fldOf Tryz.prog 167 3 = some 22 := by kernel_rfl
@[go_sem] theorem F.fld167_4 : fldOf Tryz.prog 167 4 = some 38 := by kernel_rfl
@[go_sem] theorem F.fld167_5 : fldOf Tryz.prog 167 5 = some 42 := by kernel_rfl
@[go_sem] theorem F.fld167_6 : fldOf Tryz.prog 167 6 = some 46 := by kernel_rfl
@[go_sem] theorem F.fld185_0 : fldOf Tryz.prog 185 0 = some 0 := by kernel_rfl
@[go_sem] theorem F.fld210_0 : fldOf Tryz.prog 210 0 = some 0 := by kernel_rfl
@[go_sem] theorem F.fld210_1 : fldOf Tryz.prog 210 1 = some 1 := by kernel_rfl
@[go_sem] theorem F.fld225_0 : fldOf Tryz.prog 225 0 = some 0 := by kernel_rfl
@[go_sem] theorem F.fld225_1 : fldOf Tryz.prog 225 1 = some 2 := by kernel_rfl
@[go_sem] theorem F.fld230_0 : fldOf Tryz.prog 230 0 = some 0 := by kernel_rfl
@[go_sem] theorem F.fld230_1 : fldOf Tryz.prog 230 1 = some 1 := by kernel_rfl
@[go_sem] theorem F.fld230_2 : fldOf Tryz.prog 230 2 = some 2 := by kernel_rfl
@[go_sem] theorem F.fld230_3 : fldOf Tryz.prog 230 3 = some 3 := by kernel_rfl
@[go_sem] theorem F.fld230_4 : fldOf Tryz.prog 230 4 = some 4 := by kernel_rfl
@[go_sem] theorem F.fld230_5 : fldOf Tryz.prog 230 5 = some 5 := by kernel_rfl
@[go_sem] theorem F.fld244_0 : fldOf Tryz.prog 244 0 = some 0 := by kernel_rfl
@[go_sem] theorem F.fld244_1 : fldOf Tryz.prog 244 1 = some 6 := by kernel_rfl
@[go_sem] theorem F.fld247_0 : fldOf Tryz.prog 247 0 = some 0 := by kernel_rfl
@[go_sem] theorem F.fld27_0 : fldOf Tryz.prog 27 0 = some 0 := by kernel_rfl
@[go_sem] theorem F.fld27_1 : fldOf Tryz.prog 27 1 = some 1 := by kernel_rfl
@[go_sem] theorem F.fld27_2 : fldOf Tryz.prog 27 2 = some 2 := by kernel_rfl
@[go_sem] theorem F.fld29_0 : fldOf Tryz.prog 29 0 = some 0 := by kernel_rfl
@[go_sem] theorem F.fld29_1 : fldOf Tryz.prog 29 1 = some 1 := by kernel_rfl
@[go_sem] theorem F.fld29_2 : fldOf Tryz.prog 29 2 = some 2 := by kernel_rfl
@[go_sem] theorem F.fld29_3 : fldOf Tryz.prog 29 3 = some 3 := by kernel_rfl
@[go_sem] theorem F.fld29_4 : fldOf Tryz.prog 29 4 = some 4 := by kernel_rfl
@[go_sem] theorem F.fld31_0 : fldOf Tryz.prog 31 0 = some 0 := by kernel_rfl
@[go_sem] theorem F.fld31_1 : fldOf Tryz.prog 31 1 = some 1 := by kernel_rfl
@[go_sem] theorem F.fld31_2 : fldOf Tryz.prog 31 2 = some 2 := by kernel_rfl
@[go_sem] theorem F.fld39_0 : fldOf Tryz.prog 39 0 = some 0 := by kernel_rfl
@[go_sem] theorem F.fld39_1 : fldOf Tryz.prog 39 1 = some 1 := by kernel_rfl
@[go_sem] theorem F.fld41_0 : fldOf Tryz.prog 41 0 = some 0 := by kernel_rfl
@[go_sem] theorem F.fld41_1 : fldOf Tryz.prog 41 1 = some 1 := by kernel_rfl
@[go_sem] theorem F.fld41_2 : fldOf Tryz.prog 41 2 = some 2 := by kernel_rfl
@[go_sem] theorem F.fld41_3 : fldOf Tryz.prog 41 3 = some 3 := by kernel_rfl
@[go_sem] theorem F.fld41_4 : fldOf Tryz.prog 41 4 = some 4 := by kernel_rfl
@[go_sem] theorem F.fld44_0 : fldOf Tryz.prog 44 0 = some 0 := by kernel_rfl
@[go_sem] theorem F.fld44_1 : fldOf Tryz.prog 44 1 = some 1 := by kernel_rfl
@[go_sem] theorem F.fld56_0 : fldOf Tryz.prog 56 0 = some 0 := by kernel_rfl
@[go_sem] theorem F.fld56_1 : fldOf Tryz.prog 56 1 = some 1 := by kernel_rfl
@[go_sem] theorem F.fld56_2 : fldOf Tryz.prog 56 2 = some 2 := by kernel_rfl
@[go_sem] theorem F.fld60_0 : fldOf Tryz.prog 60 0 = some 0 := by kernel_rfl
@[go_sem] theorem F.fld60_1 : fldOf Tryz.prog 60 1 = some 1 := by kernel_rfl
@[go_sem] theorem F.fld60_2 : fldOf Tryz.prog 60 2 = some 2 := by kernel_rfl
@[go_sem] theorem F.fld63_0 : fldOf Tryz.prog 63 0 = some 0 := by kernel_rfl
@[go_sem] theorem F.fld63_1 : fldOf Tryz.prog 63 1 = some 1 := by kernel_rfl
@[go_sem] theorem F.fld63_2 : fldOf Tryz.prog 63 2 = some 2 := by kernel_rfl
@[go_sem] theorem F.fld63_3 : fldOf Tryz.prog 63 3 = some 3 := by kernel_rfl
@[go_sem] theorem F.fld63_4 : fldOf Tryz.prog 63 4 = some 4 := by kernel_rfl
@[go_sem] theorem F.fld63_5 : fldOf Tryz.prog 63 5 = some 7 := by kernel_rfl
@[go_sem] theorem F.fld63_6 : fldOf Tryz.prog 63 6 = some 8 := by kernel_rfl
@[go_sem] theorem F.fld63_7 : fldOf Tryz.prog 63 7 = some 9 := by kernel_rfl
@[go_sem] theorem F.fld65_0 : fldOf Tryz.prog 65 0 = some 0 := by kernel_rfl
@[go_sem] theorem F.fld65_1 : fldOf Tryz.prog 65 1 = some 1 := by kernel_rfl
@[go_sem] theorem F.fld65_2 : fldOf Tryz.prog 65 2 = some 2 := by kernel_rfl
@[go_sem] theorem F.fld65_3 : fldOf Tryz.prog 65 3 = some 3 := by kernel_rfl
@[go_sem] theorem F.fld65_4 : fldOf Tryz.prog 65 4 = some 4 := by kernel_rfl
@[go_sem] theorem F.fld65_5 : fldOf Tryz.prog 65 5 = some 5 := by kernel_rfl
@[go_sem] theorem F.fld67_0 : fldOf Tryz.prog 67 0 = some 0 := by kernel_rfl
@[go_sem] theorem F.fld67_1 : fldOf Tryz.prog 67 1 = some 1 := by kernel_rfl
@[go_sem] theorem F.fld69_0 : fldOf Tryz.prog 69 0 = some 0 := by kernel_rfl
@[go_sem] theorem F.fld69_1 : fldOf Tryz.prog 69 1 = some 1 := by kernel_rfl
@[go_sem] theorem F.fld69_2 : fldOf Tryz.prog 69 2 = some 2 := by kernel_rfl
@[go_sem] theorem F.fld76_0 : fldOf Tryz.prog 76 0 = some 0 := by kernel_rfl
@[go_sem] theorem F.fld76_1 : fldOf Tryz.prog 76 1 = some 1 := by kernel_rfl
@[go_sem] theorem F.fld76_2 : fldOf Tryz.prog 76 2 = some 2 := by kernel_rfl
@[go_sem] theorem F.fld76_3 : fldOf Tryz.prog 76 3 = some 3 := by kernel_rfl
@[go_sem] theorem F.fld86_0 : fldOf Tryz.prog 86 0 = some 0 := by kernel_rfl
@[go_sem] theorem F.fld86_1 : fldOf Tryz.prog 86 1 = some 1 := by kernel_rfl
@[go_sem] theorem F.fld90_0 : fldOf Tryz.prog 90 0 = some 0 := by kernel_rfl
@[go_sem] theorem F.fld90_1 : fldOf Tryz.prog 90 1 = some 1 := by kernel_rfl
@[go_sem] theorem F.fld92_0 : fldOf Tryz.prog 92 0 = some 0 := by kernel_rfl
@[go_sem] theorem F.fld92_1 : fldOf Tryz.prog 92 1 = some 1 := by kernel_rfl
@[go_sem] theorem F.fld92_2 : fldOf Tryz.prog 92 2 = some 2 := by kernel_rfl
@[go_sem] theorem F.fld92_3 : fldOf Tryz.prog 92 3 = some 3 := by kernel_rfl
@[go_sem] theorem F.fld98_0 : fldOf Tryz.prog 98 0 = some 0 := by kernel_rfl
@[go_sem] theorem F.fld98_1 : fldOf Tryz.prog 98 1 = some 1 := by kernel_rfl
@[go_sem] theorem F.iv226 : ivOf Tryz.prog 226 = some (.arr 4 true 3) := by kernel_rfl
@[go_sem] theorem F.iv252 : ivOf Tryz.prog 252 = some (.arr 3 false 1) := by kernel_rfl
@[go_sem] theorem F.iv45 : ivOf Tryz.prog 45 = some (.arr 6 true 2) := by kernel_rfl
@[go_sem] theorem F.iv78 : ivOf Tryz.prog 78 = some (.arr 3 true 6) := by kernel_rfl
@[go_sem] theorem F.iv9 : ivOf Tryz.prog 9 = some .str := by kernel_rfl
@[go_sem] theorem F.ix153 : ixOf Tryz.prog 153 = some (.sl 1) := by kernel_rfl
@[go_sem] theorem F.ix154 : ixOf Tryz.prog 154 = some (.sl 6) := by kernel_rfl
@[go_sem] theorem F.ix157 : ixOf Tryz.prog 157 = some (.arr 4 5) := by kernel_rfl
@[go_sem] theorem F.ix159 : ixOf Tryz.prog 159 = some (.arr 4 1) := by kernel_rfl
@[go_sem] theorem F.ix160 : ixOf Tryz.prog 160 = some (.arr 4 4) := by kernel_rfl
@[go_sem] theorem F.ix163 : ixOf Tryz.prog 163 = some (.sl 2) := by kernel_rfl
@[go_sem] theorem F.ix214 : ixOf Tryz.prog 214 = some (.arr 4 1) := by kernel_rfl
@[go_sem] theorem F.ix23 : ixOf Tryz.prog 23 = some (.sl 1) := by kernel_rfl
@[go_sem] theorem F.ix24 : ixOf Tryz.prog 24 = some (.sl 1) := by kernel_rfl
@[go_sem] theorem F.ix25 : ixOf Tryz.prog 25 = some (.sl 49) := by kernel_rfl
@[go_sem] theorem F.ix36 : ixOf Tryz.prog 36 = some (.sl 1) := by kernel_rfl
@[go_sem] theorem F.ix37 : ixOf Tryz.prog 37 = some (.sl 10) := by kernel_rfl
@[go_sem] theorem F.ix54 : ixOf Tryz.prog 54 = some (.sl 6) := by kernel_rfl
@[go_sem] theorem F.ix57 : ixOf Tryz.prog 57 = some (.sl 3) := by kernel_rfl
@[go_sem] theorem F.ix58 : ixOf Tryz.prog 58 = some (.sl 1) := by kernel_rfl
@[go_sem] theorem F.ix61 : ixOf Tryz.prog 61 = some (.sl 2) := by kernel_rfl
@[go_sem] theorem F.ix70 : ixOf Tryz.prog 70 = some (.sl 3) := by kernel_rfl
@[go_sem] theorem F.ix77 : ixOf Tryz.prog 77 = some (.arr 2 4) := by kernel_rfl
@[go_sem] theorem F.ld119 : ldOf Tryz.prog 119 = some (false, 1) := by kernel_rfl
@[go_sem] theorem F.ld153 : ldOf Tryz.prog 153 = some (false, 1) := by kernel_rfl
@[go_sem] theorem F.ld154 : ldOf Tryz.prog 154 = some (false, 1) := by kernel_rfl
@[go_sem] theorem F.ld156 : ldOf Tryz.prog 156 = some (true, 5) := by kernel_rfl
@[go_sem] theorem F.ld158 : ldOf Tryz.prog 158 = some (false, 1) := by kernel_rfl
@[go_sem] theorem F.ld162 : ldOf Tryz.prog 162 = some (true, 4) := by kernel_rfl
@[go_sem] theorem F.ld163 : ldOf Tryz.prog 163 = some (false, 1) := by kernel_rfl
@[go_sem] theorem F.ld165 : ldOf Tryz.prog 165 = some (true, 3) := by kernel_rfl
@[go_sem] theorem F.ld167 : ldOf Tryz.prog 167 = some (true, 49) := by kernel_rfl
@[go_sem] theorem F.ld185 : ldOf Tryz.prog 185 = some (true, 2) := by kernel_rfl
@[go_sem] theorem F.ld21 : ldOf Tryz.prog 21 = some (false, 1) := by kernel_rfl
@[go_sem] theorem F.ld214 : ldOf Tryz.prog 214 = some (true, 4) := by kernel_rfl
@[go_sem] theorem F.ld22 : ldOf Tryz.prog 22 = some (false, 1) := by kernel_rfl
@[go_sem] theorem F.ld223 : ldOf Tryz.prog 223 = some (true, 2) := by kernel_rfl
@[go_sem] theorem F.ld225 : ldOf Tryz.prog 225 = some (true, 3) := by kernel_rfl
@[go_sem] theorem F.ld226 : ldOf Tryz.prog 226 = some (true, 12) := by kernel_rfl
@[go_sem] theorem F.ld23 : ldOf Tryz.prog 23 = some (false, 1) := by kernel_rfl
@[go_sem] theorem F.ld230 : ldOf Tryz.prog 230 = some (true, 6) := by kernel_rfl
@[go_sem] theorem F.ld24 : ldOf Tryz.prog 24 = some (false, 1) := by kernel_rfl
@[go_sem] theorem F.ld244 : ldOf Tryz.prog 244 = some (true, 8) := by kernel_rfl
@[go_sem] theorem F.ld247 : ldOf Tryz.prog 247 = some (true, 1) := by kernel_rfl
@[go_sem] theorem F.ld25 : ldOf Tryz.prog 25 = some (false, 1) := by kernel_rfl
@[go_sem] theorem F.ld27 : ldOf Tryz.prog 27 = some (true, 3) := by kernel_rfl
@[go_sem] theorem F.ld29 : ldOf Tryz.prog 29 = some (true, 7) := by kernel_rfl
@[go_sem] theorem F.ld3 : ldOf Tryz.prog 3 = some (false, 1) := by kernel_rfl
@[go_sem] theorem F.ld31 : ldOf Tryz.prog 31 = some (true, 3) := by kernel_rfl
@[go_sem] theorem F.ld33 : ldOf Tryz.prog 33 = some (false, 1) := by kernel_rfl
@[go_sem] theorem F.ld36 : ldOf Tryz.prog 36 = some (false, 1) := by kernel_rfl
@[go_sem] theorem F.ld37 : ldOf Tryz.prog 37 = some (false, 1) := by kernel_rfl
@[go_sem] theorem F.ld39 : ldOf Tryz.prog 39 = some (true, 2) := by kernel_rfl
@[go_sem] theorem F.ld4 : ldOf Tryz.prog 4 = some (false, 1) := by kernel_rfl
@[go_sem] theorem F.ld41 : ldOf Tryz.prog 41 = some (true, 6) := by kernel_rfl
@[go_sem] theorem F.ld44 : ldOf Tryz.prog 44 = some (true, 2) := by kernel_rfl
@[go_sem] theorem F.ld5 : ldOf Tryz.prog 5 = some (false, 1) := by kernel_rfl
@[go_sem] theorem F.ld54 : ldOf Tryz.prog 54 = some (false, 1) := by kernel_rfl
@[go_sem] theorem F.ld56 : ldOf Tryz.prog 56 = some (true, 3) := by kernel_rfl
@[go_sem] theorem F.ld57 : ldOf Tryz.prog 57 = some (false, 1) := by kernel_rfl
@[go_sem] theorem F.ld58 : ldOf Tryz.prog 58 = some (false, 1) := by kernel_rfl
@[go_sem] theorem F.ld60 : ldOf Tryz.prog 60 = some (true, 3) := by kernel_rfl
@[go_sem] theorem F.ld61 : ldOf Tryz.prog 61 = some (false, 1) := by kernel_rfl
@[go_sem] theorem F.ld63 : ldOf Tryz.prog 63 = some (true, 10) := by kernel_rfl
@[go_sem] theorem F.ld65 : ldOf Tryz.prog 65 = some (true, 6) := by kernel_rfl
@[go_sem] theorem F.ld67 : ldOf Tryz.prog 67 = some (true, 2) := by kernel_rfl
@[go_sem] theorem F.ld69 : ldOf Tryz.prog 69 = some (true, 3) := by kernel_rfl
@[go_sem] theorem F.ld76 : ldOf Tryz.prog 76 = some (true, 4) := by kernel_rfl
@[go_sem] theorem F.ld77 : ldOf Tryz.prog 77 = some (true, 8) := by kernel_rfl
@[go_sem] theorem F.ld78 : ldOf Tryz.prog 78 = some (true, 18) := by kernel_rfl
@[go_sem] theorem F.ld86 : ldOf Tryz.prog 86 = some (true, 2) := by kernel_rfl
@[go_sem] theorem F.ld88 : ldOf Tryz.prog 88 = some (false, 1) := by kernel_rfl
@[go_sem] theorem F.ld9 : ldOf Tryz.prog 9 = some (false, 1) := by kernel_rfl
@[go_sem] theorem F.ld92 : ldOf Tryz.prog 92 = some (true, 4) := by kernel_rfl
@[go_sem] theorem F.ld95 : ldOf Tryz.prog 95 = some (false, 1) := by kernel_rfl
@[go_sem] theorem F.ld96 : ldOf Tryz.prog 96 = some (false, 1) := by kernel_rfl
@[go_sem] theorem F.li100_98 : liesB Tryz.prog 100 2 0 98 = true := by kernel_rfl
@[go_sem] theorem F.li98_98 : liesB Tryz.prog 98 2 0 98 = true := by kernel_rfl
@[go_sem] theorem F.li99_98 : liesB Tryz.prog 99 2 0 98 = true := by kernel_rfl
@[go_sem] theorem F.ln153 : lnOf Tryz.prog [153] = some .sl := by kernel_rfl
@[go_sem] theorem F.ln154 : lnOf Tryz.prog [154] = some .sl := by kernel_rfl
@[go_sem] theorem F.ln163 : lnOf Tryz.prog [163] = some .sl := by kernel_rfl
@[go_sem] theorem F.ln23 : lnOf Tryz.prog [23] = some .sl := by kernel_rfl
@[go_sem] theorem F.ln24 : lnOf Tryz.prog [24] = some .sl := by kernel_rfl
@[go_sem] theorem F.ln25 : lnOf Tryz.prog [25] = some .sl := by kernel_rfl
@[go_sem] theorem F.ln36 : lnOf Tryz.prog [36] = some .sl := by kernel_rfl
@[go_sem] theorem F.ln37 : lnOf Tryz.prog [37] = some .sl := by kernel_rfl
@[go_sem] theorem F.ln54 : lnOf Tryz.prog [54] = some .sl := by kernel_rfl
@[go_sem] theorem F.ln57 : lnOf Tryz.prog [57] = some .sl := by kernel_rfl
@[go_sem] theorem F.ln58 : lnOf Tryz.prog [58] = some .sl := by kernel_rfl
@[go_sem] theorem F.ln61 : lnOf Tryz.prog [61] = some .sl := by kernel_rfl
@[go_sem] theorem F.ln70 : lnOf Tryz.prog [70] = some .sl := by kernel_rfl
@[go_sem] theorem F.ln9 : lnOf Tryz.prog [9] = some .str := by kernel_rfl
@[go_sem] theorem F.mk247 : mkOf Tryz.prog 247 = true := by kernel_rfl
@[go_sem] theorem F.mk86 : mkOf Tryz.prog 86 = true := by kernel_rfl
@[go_sem] theorem F.mk9 : mkOf Tryz.prog 9 = true := by kernel_rfl
@[go_sem] theorem F.mp125 : mpOf Tryz.prog 125 = some (some (.d (.cst .nilFunc))) := by kernel_rfl
@[go_sem] theorem F.ms23 : mslOf Tryz.prog 23 = some (5, [.d (.int .u8 0)], 1) := by kernel_rfl
@[go_sem] theorem F.ms36 : mslOf Tryz.prog 36 = some (3, [.d (.int .i64 0)], 8) := by kernel_rfl
@[go_sem] theorem F.ms37 : mslOf Tryz.prog 37 = some (63, [.d (.int .i64 0), .d .nilsl, .d .nilsl, .d .nilsl, .d .nilsl, .d (.int .i64 0), .d .nilsl, .d .nilsl, .d (.int .i64 0), .d (.int .i64 0)], 176) := by kernel_rfl
@[go_sem] theorem F.ms54 : mslOf Tryz.prog 54 = some (65, [.d (.int .i64 0), .d (.int .i64 0), .d (.int .i64 0), .d (.int .i64 0), .d (.int .i64 0), .d (.int .i64 0)], 48) := by kernel_rfl
@[go_sem] theorem F.ms57 : mslOf Tryz.prog 57 = some (56, [.d (.int .i64 0), .d .nilsl, .d .nilsl], 56) := by kernel_rfl
@[go_sem] theorem F.ms58 : mslOf Tryz.prog 58 = some (36, [.d .nilsl], 24) := by kernel_rfl
@[go_sem] theorem F.ms61 : mslOf Tryz.prog 61 = some (67, [.d (.int .i64 0), .d (.int .i64 0)], 16) := by kernel_rfl
@[go_sem] theorem F.ms70 : mslOf Tryz.prog 70 = some (69, [.d (.str []), .d (.int .i64 0), .d (.int .i64 0)], 32) := by kernel_rfl
@[go_sem] theorem F.sl214 : slOf Tryz.prog 214 = some (.arr 4 1) := by kernel_rfl
@[go_sem] theorem F.sl23 : slOf Tryz.prog 23 = some (.sl 1) := by kernel_rfl
@[go_sem] theorem F.sl36 : slOf Tryz.prog 36 = some (.sl 1) := by kernel_rfl
@[go_sem] theorem F.sl54 : slOf Tryz.prog 54 = some (.sl 6) := by kernel_rfl
@[go_sem] theorem F.sl61 : slOf Tryz.prog 61 = some (.sl 2) := by kernel_rfl
@[go_sem] theorem F.sl9 : slOf Tryz.prog 9 = some .str := by kernel_rfl
@[go_sem] theorem F.uc189_96 : ucOf Tryz.prog 189 96 = some (.frm 98) := by kernel_rfl
@[go_sem] theorem F.uc96_189 : ucOf Tryz.prog 96 189 = some .to := by kernel_rfl
@[go_sem] theorem F.us135_3 : usOf Tryz.prog [135, 3] = some 5 := by kernel_rfl
@[go_sem] theorem F.zc162 : zcOf Tryz.prog 162 = some [.d .nilsl, .d (.int .u8 0), .d .nilsl, .d (.bool false)] := by kernel_rfl
@[go_sem] theorem F.zc165 : zcOf Tryz.prog 165 = some [.d (.int .u8 0), .d (.int .u8 0), .d .nilsl] := by kernel_rfl
@[go_sem] theorem F.zc167 : zcOf Tryz.prog 167 = some [.d (.int .u8 0), .d (.int .u8 0), .d (.int .u8 0), .d .nilsl, .d .nilsl, .d (.bool false), .d (.bool false), .d (.int .u8 0), .d .nilsl, .d .nilsl, .d (.bool false), .d (.bool false), .d (.int .u8 0), .d .nilsl, .d .nilsl, .d (.bool false), .d (.bool false), .d (.int .u8 0), .d .nilsl, .d .nilsl, .d (.bool false), .d (.bool false), .d (.int .i16 0), .d (.int .i16 0), .d (.int .i16 0), .d (.int .i16 0), .d (.int .i16 0), .d (.int .i16 0), .d (.int .i16 0), .d (.int .i16 0), .d (.int .i16 0), .d (.int .i16 0), .d (.int .i16 0), .d (.int .i16 0), .d (.int .i16 0), .d (.int .i16 0), .d (.int .i16 0), .d (.int .i16 0), .d (.int .i16 0), .d (.int .i16 0), .d (.int .i16 0), .d (.int .i16 0), .d .nilsl, .d (.int .u8 0), .d .nilsl, .d (.bool false), .d (.int .u8 0), .d (.int .u8 0), .d .nilsl] := by kernel_rfl
@[go_sem] theorem F.zc214 : zcOf Tryz.prog 214 = some [.d (.int .u8 0), .d (.int .u8 0), .d (.int .u8 0), .d (.int .u8 0)] := by kernel_rfl
@[go_sem] theorem F.zc225 : zcOf Tryz.prog 225 = some [.d (.int .i64 0), .d (.int .i64 0), .d (.cst .nilFunc)] := by kernel_rfl
@[go_sem] theorem F.zc226 : zcOf Tryz.prog 226 = some [.d (.int .i64 0), .d (.int .i64 0), .d (.cst .nilFunc), .d (.int .i64 0), .d (.int .i64 0), .d (.cst .nilFunc), .d (.int .i64 0), .d (.int .i64 0), .d (.cst .nilFunc), .d (.int .i64 0), .d (.int .i64 0), .d (.cst .nilFunc)] := by kernel_rfl
@[go_sem] theorem F.zc230 : zcOf Tryz.prog 230 = some [.d (.int .u8 0), .d (.int .i16 0), .d (.int .i16 0), .d (.int .i16 0), .d (.int .u8 0), .d (.int .u8 0)] := by kernel_rfl
@[go_sem] theorem F.zc244 : zcOf Tryz.prog 244 = some [.d (.int .i64 0), .d (.int .i64 0), .d (.int .i64 0), .d (.int .i64 0), .d (.int .i64 0), .d (.int .i64 0), .d (.int .i64 0), .d (.bool false)] := by kernel_rfl
@[go_sem] theorem F.zc247 : zcOf Tryz.prog 247 = some [.d (.int .i64 0)] := by kernel_rfl
@[go_sem] theorem F.zc3 : zcOf Tryz.prog 3 = some [.d (.int .i64 0)] := by kernel_rfl
@[go_sem] theorem F.zc33 : zcOf Tryz.prog 33 = some [.d (.int .i64 0)] := by kernel_rfl
@[go_sem] theorem F.zc39 : zcOf Tryz.prog 39 = some [.d (.int .i64 0), .d .nilsl] := by kernel_rfl
@[go_sem] theorem F.zc4 : zcOf Tryz.prog 4 = some [.d (.bool false)] := by kernel_rfl
@[go_sem] theorem F.zc41 : zcOf Tryz.prog 41 = some [.d (.str []), .d (.int .i64 0), .d (.str []), .d .nilsl, .d (.int .i64 0), .d .nilsl] := by kernel_rfl
@[go_sem] theorem F.zc44 : zcOf Tryz.prog 44 = some [.d (.str []), .d (.int .i64 0)] := by kernel_rfl
@[go_sem] theorem F.zc56 : zcOf Tryz.prog 56 = some [.d (.int .i64 0), .d .nilsl, .d .nilsl] := by kernel_rfl
@[go_sem] theorem F.zc60 : zcOf Tryz.prog 60 = some [.d .nilsl, .d (.int .i64 0), .d .nilsl] := by kernel_rfl
@[go_sem] theorem F.zc63 : zcOf Tryz.prog 63 = some [.d (.int .i64 0), .d .nilsl, .d .nilsl, .d .nilsl, .d .nilsl, .d (.int .i64 0), .d .nilsl, .d .nilsl, .d (.int .i64 0), .d (.int .i64 0)] := by kernel_rfl
@[go_sem] theorem F.zc65 : zcOf Tryz.prog 65 = some [.d (.int .i64 0), .d (.int .i64 0), .d (.int .i64 0), .d (.int .i64 0), .d (.int .i64 0), .d (.int .i64 0)] := by kernel_rfl
@[go_sem] theorem F.zc67 : zcOf Tryz.prog 67 = some [.d (.int .i64 0), .d (.int .i64 0)] := by kernel_rfl
@[go_sem] theorem F.zc69 : zcOf Tryz.prog 69 = some [.d (.str []), .d (.int .i64 0), .d (.int .i64 0)] := by kernel_rfl
@[go_sem] theorem F.zc78 : zcOf Tryz.prog 78 = some [.d (.str []), .d (.int .i64 0), .d (.str []), .d .nilsl, .d (.int .i64 0), .d .nilsl, .d (.str []), .d (.int .i64 0), .d (.str []), .d .nilsl, .d (.int .i64 0), .d .nilsl, .d (.str []), .d (.int .i64 0), .d (.str []), .d .nilsl, .d (.int .i64 0), .d .nilsl] := by kernel_rfl
@[go_sem] theorem F.zc86 : zcOf Tryz.prog 86 = some [.d (.int .i64 0), .d (.int .i64 0)] := by kernel_rfl
@[go_sem] theorem F.zc92 : zcOf Tryz.prog 92 = some [.d (.str []), .d (.int .i64 0), .d (.int .i64 0), .d (.int .i64 0)] := by kernel_rfl
@[go_sem] theorem F.zc98 : zcOf Tryz.prog 98 = some [.d (.cst (.pointer none)), .d .nilsl] := by kernel_rfl

theorem mixed : Tryz.prog.follows .mixedOrders = true := by kernel_rfl
end Go.Proofs.YtbdefaebbicfjaaGreat
