/-
  The plain form of the functions that one law reaches, printed by a program of this repo (wip/mx) and held against the loaded program by the kernel. Conditions: none.
-/
import Derived.Test.YtobhjbbinnbdaaaNsJ8
import Derived.Test.YtobhjbbinnbdaaaRows
namespace Go.Proofs.Ytobhjbbinnbdaaa.W
open Go Go.Mx
set_option linter.unusedSimpArgs false
set_option linter.unusedVariables false
set_option maxRecDepth 100000
-- haruspex/haruspexlaw05.works: [37]; [37, 41, 42, 50, 51, 54, 55, 56, 61, 62, 63, 68, 70, 71, 73, 79, 80, 110, 130, 131, 132, 133, 134, 135, 136, 137, 138, 145, 146, 151, 153, 154, 160, 167, 168, 201, 202, 203, 204, 205, 206, 207, 208, 209, 210, 213, 214, 215, 216, 226, 232, 233, 235, 236, 242, 244, 246]
/-- haruspex/haruspexlaw05.works -/
def fn37 : Mx.Fn := ⟨185,
 .seq (.reg false false [
 ⟨some 0, .mov (.c (.bool false)), none⟩])
 (.seq (.reg false false [
 ⟨some 5, .call 130 [], none⟩,
 ⟨some 1, .alloc [(.int .i64 0), (.slice none 0 0)], none⟩,
 ⟨none, .store 2 (.s 1) (.s 5), none⟩])
 (.seq (.reg false false [
 ⟨some 7, .load (some 2) (.s 1), none⟩,
 ⟨some 8, .call 51 [(.s 7)], none⟩,
 ⟨some 6, .mov (.s 8), none⟩,
 ⟨some 9, .ext (.s 6) 0, none⟩,
 ⟨some 10, .ext (.s 6) 1, none⟩,
 ⟨some 2, .mov (.s 9), none⟩,
 ⟨some 3, .mov (.s 10), none⟩])
 (.seq (.seq (.reg false false [
 ⟨some 11, .mov (.s 3), none⟩,
 ⟨some 12, .bin .neq (.s 11) (.c (.int .i64 0)), none⟩,
 ⟨some 13, .mov (.s 12), none⟩,
 ⟨some 14, .mov (.s 2), some (13, false)⟩,
 ⟨some 15, .len (.s 14), some (13, false)⟩,
 ⟨some 16, .bin .neq (.s 15) (.c (.int .i64 3)), some (13, false)⟩,
 ⟨some 17, .pick (.s 13) (.c (.bool true)) (.s 16), none⟩,
 ⟨some 18, .mov (.s 17), none⟩,
 ⟨some 19, .mov (.s 2), some (18, false)⟩,
 ⟨some 20, .idxS 3 (.s 19) (.c (.int .i64 1)), some (18, false)⟩,
 ⟨some 21, .fld 0 (.s 20), some (18, false)⟩,
 ⟨some 22, .load none (.s 21), some (18, false)⟩,
 ⟨some 23, .bsl 1 2 [(.int .i64 0)] [(0, (.c (.int .i64 0))), (1, (.c (.int .i64 1)))], some (18, false)⟩,
 ⟨some 24, .call 110 [(.s 22), (.s 23)], some (18, false)⟩,
 ⟨some 25, .un .not (.s 24), some (18, false)⟩,
 ⟨some 26, .pick (.s 18) (.c (.bool true)) (.s 25), none⟩,
 ⟨some 27, .mov (.s 26), none⟩,
 ⟨some 28, .mov (.s 2), some (27, false)⟩,
 ⟨some 29, .idxS 3 (.s 28) (.c (.int .i64 1)), some (27, false)⟩,
 ⟨some 30, .fld 2 (.s 29), some (27, false)⟩,
 ⟨some 31, .load none (.s 30), some (27, false)⟩,
 ⟨some 32, .bsl 1 4 [(.int .i64 0)] [(0, (.c (.int .i64 10))), (1, (.c (.int .i64 0))), (2, (.c (.int .i64 4))), (3, (.c (.int .i64 6)))], some (27, false)⟩,
 ⟨some 33, .call 110 [(.s 31), (.s 32)], some (27, false)⟩,
 ⟨some 34, .un .not (.s 33), some (27, false)⟩,
 ⟨some 35, .pick (.s 27) (.c (.bool true)) (.s 34), none⟩])
 (.cond (.s 35)
 (.seq (.reg false false [
 ⟨some 0, .mov (.c (.bool false)), none⟩])
 (.ret))
 (.skip)))
 (.seq (.reg true true [
 ⟨some 37, .load (some 2) (.s 1), none⟩,
 ⟨some 36, .call 79 [(.c (.int .i64 8))], none⟩,
 ⟨some 38, .call 70 [(.s 37)], none⟩,
 ⟨some 39, .ext (.s 38) 0, none⟩,
 ⟨some 40, .ext (.s 38) 1, none⟩,
 ⟨some 41, .callv (.s 36) [(.s 39), (.s 40)], none⟩,
 ⟨some 42, .mov (.s 41), none⟩,
 ⟨some 44, .load (some 2) (.s 1), some (42, true)⟩,
 ⟨some 43, .call 79 [(.c (.int .i64 1000))], some (42, true)⟩,
 ⟨some 45, .call 71 [(.s 44)], some (42, true)⟩,
 ⟨some 46, .ext (.s 45) 0, some (42, true)⟩,
 ⟨some 47, .ext (.s 45) 1, some (42, true)⟩,
 ⟨some 48, .callv (.s 43) [(.s 46), (.s 47)], some (42, true)⟩,
 ⟨some 49, .pick (.s 42) (.s 48) (.c (.bool false)), none⟩,
 ⟨some 50, .mov (.s 49), none⟩,
 ⟨some 53, .load (some 2) (.s 1), some (50, true)⟩,
 ⟨some 51, .bsl 1 3 [(.int .i64 0)] [(0, (.c (.int .i64 1))), (1, (.c (.int .i64 1))), (2, (.c (.int .i64 0)))], some (50, true)⟩,
 ⟨some 52, .call 80 [(.s 51)], some (50, true)⟩,
 ⟨some 54, .call 41 [(.s 53), (.c (.int .i64 6))], some (50, true)⟩,
 ⟨some 55, .ext (.s 54) 0, some (50, true)⟩,
 ⟨some 56, .ext (.s 54) 1, some (50, true)⟩,
 ⟨some 57, .callv (.s 52) [(.s 55), (.s 56)], some (50, true)⟩,
 ⟨some 58, .pick (.s 50) (.s 57) (.c (.bool false)), none⟩,
 ⟨some 59, .mov (.s 58), none⟩,
 ⟨some 61, .load (some 2) (.s 1), some (59, true)⟩,
 ⟨some 60, .call 79 [(.c (.int .i64 0))], some (59, true)⟩,
 ⟨some 62, .call 42 [(.s 61), (.c (.int .i64 6))], some (59, true)⟩,
 ⟨some 63, .ext (.s 62) 0, some (59, true)⟩,
 ⟨some 64, .ext (.s 62) 1, some (59, true)⟩,
 ⟨some 65, .callv (.s 60) [(.s 63), (.s 64)], some (59, true)⟩,
 ⟨some 66, .pick (.s 59) (.s 65) (.c (.bool false)), none⟩,
 ⟨some 67, .mov (.s 66), none⟩,
 ⟨some 69, .load (some 2) (.s 1), some (67, true)⟩,
 ⟨some 68, .call 79 [(.c (.int .i64 252))], some (67, true)⟩,
 ⟨some 70, .call 42 [(.s 69), (.c (.int .i64 4))], some (67, true)⟩,
 ⟨some 71, .ext (.s 70) 0, some (67, true)⟩,
 ⟨some 72, .ext (.s 70) 1, some (67, true)⟩,
 ⟨some 73, .callv (.s 68) [(.s 71), (.s 72)], some (67, true)⟩,
 ⟨some 74, .pick (.s 67) (.s 73) (.c (.bool false)), none⟩,
 ⟨some 75, .mov (.s 74), none⟩,
 ⟨some 78, .load (some 2) (.s 1), some (75, true)⟩,
 ⟨some 76, .bsl 1 3 [(.int .u64 0)] [(0, (.c (.int .u64 0))), (1, (.c (.int .u64 1))), (2, (.c (.int .u64 3)))], some (75, true)⟩,
 ⟨some 77, .call 131 [(.s 76)], some (75, true)⟩,
 ⟨some 79, .call 54 [(.s 78)], some (75, true)⟩,
 ⟨some 80, .ext (.s 79) 0, some (75, true)⟩,
 ⟨some 81, .ext (.s 79) 1, some (75, true)⟩,
 ⟨some 82, .callv (.s 77) [(.s 80), (.s 81)], some (75, true)⟩,
 ⟨some 83, .pick (.s 75) (.s 82) (.c (.bool false)), none⟩,
 ⟨some 84, .mov (.s 83), none⟩,
 ⟨some 87, .load (some 2) (.s 1), some (84, true)⟩,
 ⟨some 85, .bsl 1 3 [(.int .i64 0)] [(0, (.c (.int .i64 0))), (1, (.c (.int .i64 1))), (2, (.c (.int .i64 2)))], some (84, true)⟩,
 ⟨some 86, .call 80 [(.s 85)], some (84, true)⟩,
 ⟨some 88, .call 55 [(.s 87)], some (84, true)⟩,
 ⟨some 89, .ext (.s 88) 0, some (84, true)⟩,
 ⟨some 90, .ext (.s 88) 1, some (84, true)⟩,
 ⟨some 91, .callv (.s 86) [(.s 89), (.s 90)], some (84, true)⟩,
 ⟨some 92, .pick (.s 84) (.s 91) (.c (.bool false)), none⟩,
 ⟨some 93, .mov (.s 92), none⟩,
 ⟨some 96, .load (some 2) (.s 1), some (93, true)⟩,
 ⟨some 94, .bsl 1 3 [(.int .u64 0)] [(0, (.c (.int .u64 6))), (1, (.c (.int .u64 5))), (2, (.c (.int .u64 3)))], some (93, true)⟩,
 ⟨some 95, .call 131 [(.s 94)], some (93, true)⟩,
 ⟨some 97, .call 56 [(.s 96)], some (93, true)⟩,
 ⟨some 98, .ext (.s 97) 0, some (93, true)⟩,
 ⟨some 99, .ext (.s 97) 1, some (93, true)⟩,
 ⟨some 100, .callv (.s 95) [(.s 98), (.s 99)], some (93, true)⟩,
 ⟨some 101, .pick (.s 93) (.s 100) (.c (.bool false)), none⟩,
 ⟨some 4, .mov (.s 101), none⟩])
 (.seq (.reg true true [
 ⟨some 102, .mov (.s 4), none⟩,
 ⟨some 103, .mov (.s 102), none⟩,
 ⟨some 105, .load (some 2) (.s 1), some (103, true)⟩,
 ⟨some 104, .call 132 [(.c (.int .u64 6))], some (103, true)⟩,
 ⟨some 106, .call 61 [(.s 105), (.c (.int .i64 0))], some (103, true)⟩,
 ⟨some 107, .ext (.s 106) 0, some (103, true)⟩,
 ⟨some 108, .ext (.s 106) 1, some (103, true)⟩,
 ⟨some 109, .callv (.s 104) [(.s 107), (.s 108)], some (103, true)⟩,
 ⟨some 110, .pick (.s 103) (.s 109) (.c (.bool false)), none⟩,
 ⟨some 111, .mov (.s 110), none⟩,
 ⟨some 113, .load (some 2) (.s 1), some (111, true)⟩,
 ⟨some 112, .call 132 [(.c (.int .u64 3))], some (111, true)⟩,
 ⟨some 114, .call 62 [(.s 113), (.c (.int .u64 2))], some (111, true)⟩,
 ⟨some 115, .ext (.s 114) 0, some (111, true)⟩,
 ⟨some 116, .ext (.s 114) 1, some (111, true)⟩,
 ⟨some 117, .callv (.s 112) [(.s 115), (.s 116)], some (111, true)⟩,
 ⟨some 118, .pick (.s 111) (.s 117) (.c (.bool false)), none⟩,
 ⟨some 119, .mov (.s 118), none⟩,
 ⟨some 121, .load (some 2) (.s 1), some (119, true)⟩,
 ⟨some 120, .call 132 [(.c (.int .u64 6))], some (119, true)⟩,
 ⟨some 122, .call 63 [(.s 121), (.c (.int .u64 2))], some (119, true)⟩,
 ⟨some 123, .ext (.s 122) 0, some (119, true)⟩,
 ⟨some 124, .ext (.s 122) 1, some (119, true)⟩,
 ⟨some 125, .callv (.s 120) [(.s 123), (.s 124)], some (119, true)⟩,
 ⟨some 126, .pick (.s 119) (.s 125) (.c (.bool false)), none⟩,
 ⟨some 127, .mov (.s 126), none⟩,
 ⟨some 128, .load (some 2) (.s 1), some (127, true)⟩,
 ⟨some 129, .bsl 1 3 [(.int .i64 0)] [(0, (.c (.int .i64 (-1)))), (1, (.c (.int .i64 1))), (2, (.c (.int .i64 (-1))))], some (127, true)⟩,
 ⟨some 130, .call 50 [(.s 128), (.s 129)], some (127, true)⟩,
 ⟨some 131, .bin .eql (.s 130) (.c (.int .i64 0)), some (127, true)⟩,
 ⟨some 132, .pick (.s 127) (.s 131) (.c (.bool false)), none⟩,
 ⟨some 133, .mov (.s 132), none⟩,
 ⟨some 134, .load (some 2) (.s 1), some (133, true)⟩,
 ⟨some 135, .bsl 1 3 [(.int .i64 0)] [(0, (.c (.int .i64 0))), (1, (.c (.int .i64 2))), (2, (.c (.int .i64 (-1))))], some (133, true)⟩,
 ⟨some 136, .call 50 [(.s 134), (.s 135)], some (133, true)⟩,
 ⟨some 137, .bin .eql (.s 136) (.c (.int .i64 2)), some (133, true)⟩,
 ⟨some 138, .pick (.s 133) (.s 137) (.c (.bool false)), none⟩,
 ⟨some 139, .mov (.s 138), none⟩,
 ⟨some 140, .load (some 2) (.s 1), some (139, true)⟩,
 ⟨some 141, .bsl 1 1 [(.int .i64 0)] [(0, (.c (.int .i64 0)))], some (139, true)⟩,
 ⟨some 142, .call 50 [(.s 140), (.s 141)], some (139, true)⟩,
 ⟨some 143, .bin .eql (.s 142) (.c (.int .i64 2)), some (139, true)⟩,
 ⟨some 144, .pick (.s 139) (.s 143) (.c (.bool false)), none⟩,
 ⟨some 145, .mov (.s 144), none⟩,
 ⟨some 147, .load (some 2) (.s 1), some (145, true)⟩,
 ⟨some 146, .call 133 [(.c (.int .i64 2))], some (145, true)⟩,
 ⟨some 148, .call 42 [(.s 147), (.c (.int .i64 8))], some (145, true)⟩,
 ⟨some 149, .ext (.s 148) 0, some (145, true)⟩,
 ⟨some 150, .ext (.s 148) 1, some (145, true)⟩,
 ⟨some 151, .callv (.s 146) [(.s 149), (.s 150)], some (145, true)⟩,
 ⟨some 152, .pick (.s 145) (.s 151) (.c (.bool false)), none⟩,
 ⟨some 153, .mov (.s 152), none⟩,
 ⟨some 155, .load (some 2) (.s 1), some (153, true)⟩,
 ⟨some 154, .call 134 [(.c (.int .i64 2))], some (153, true)⟩,
 ⟨some 156, .call 61 [(.s 155), (.c (.int .i64 3))], some (153, true)⟩,
 ⟨some 157, .ext (.s 156) 0, some (153, true)⟩,
 ⟨some 158, .ext (.s 156) 1, some (153, true)⟩,
 ⟨some 159, .callv (.s 154) [(.s 157), (.s 158)], some (153, true)⟩,
 ⟨some 160, .pick (.s 153) (.s 159) (.c (.bool false)), none⟩,
 ⟨some 161, .mov (.s 160), none⟩,
 ⟨some 163, .load (some 2) (.s 1), some (161, true)⟩,
 ⟨some 162, .call 134 [(.c (.int .i64 2))], some (161, true)⟩,
 ⟨some 164, .call 62 [(.s 163), (.c (.int .u64 8))], some (161, true)⟩,
 ⟨some 165, .ext (.s 164) 0, some (161, true)⟩,
 ⟨some 166, .ext (.s 164) 1, some (161, true)⟩,
 ⟨some 167, .callv (.s 162) [(.s 165), (.s 166)], some (161, true)⟩,
 ⟨some 168, .pick (.s 161) (.s 167) (.c (.bool false)), none⟩,
 ⟨some 4, .mov (.s 168), none⟩])
 (.seq (.reg false false [
 ⟨some 169, .mov (.s 4), none⟩,
 ⟨some 170, .mov (.s 169), none⟩,
 ⟨some 171, .call 135 [(.f 136)], some (170, true)⟩,
 ⟨some 172, .call 73 [(.s 171)], some (170, true)⟩,
 ⟨some 173, .bin .eql (.s 172) (.c (.int .i64 50)), some (170, true)⟩,
 ⟨some 174, .pick (.s 170) (.s 173) (.c (.bool false)), none⟩,
 ⟨some 175, .mov (.s 174), none⟩,
 ⟨some 176, .call 135 [(.f 137)], some (175, true)⟩,
 ⟨some 177, .call 73 [(.s 176)], some (175, true)⟩,
 ⟨some 178, .bin .eql (.s 177) (.c (.int .i64 50)), some (175, true)⟩,
 ⟨some 179, .pick (.s 175) (.s 178) (.c (.bool false)), none⟩,
 ⟨some 180, .mov (.s 179), none⟩,
 ⟨some 181, .call 135 [(.f 138)], some (180, true)⟩,
 ⟨some 182, .call 73 [(.s 181)], some (180, true)⟩,
 ⟨some 183, .bin .eql (.s 182) (.c (.int .i64 50)), some (180, true)⟩,
 ⟨some 184, .pick (.s 180) (.s 183) (.c (.bool false)), none⟩,
 ⟨some 0, .mov (.s 184), none⟩])
 (.ret))))))),
  [.tmp 0], true⟩
theorem fn37_ok : FnOk Try.prog 37 fn37 := by unfold FnOk; kernel_rfl
/-- haruspex/net.Values -/
def fn41 : Mx.Fn := ⟨22,
 .seq (.reg false false [
 ⟨some 2, .box (.s 0), none⟩,
 ⟨some 4, .mov (.c (.slice none 0 0)), none⟩,
 ⟨some 5, .mov (.c (.int .i64 0)), none⟩])
 (.seq (.reg false false [
 ⟨some 9, .load (some 2) (.s 2), none⟩,
 ⟨some 10, .call 145 [(.s 9)], none⟩,
 ⟨some 8, .mov (.s 10), none⟩,
 ⟨some 11, .ext (.s 8) 0, none⟩,
 ⟨some 12, .ext (.s 8) 1, none⟩,
 ⟨some 6, .alloc [(.int .i64 0), (.slice none 0 0), (.slice none 0 0), (.slice none 0 0), (.slice none 0 0)], none⟩,
 ⟨none, .store 5 (.s 6) (.s 11), none⟩,
 ⟨some 7, .mov (.s 12), none⟩])
 (.seq (.seq (.reg false false [
 ⟨some 13, .mov (.s 7), none⟩,
 ⟨some 14, .bin .neq (.s 13) (.c (.int .i64 0)), none⟩])
 (.cond (.s 14)
 (.seq (.reg false false [
 ⟨some 15, .mov (.s 7), none⟩,
 ⟨some 4, .mov (.c (.slice none 0 0)), none⟩,
 ⟨some 5, .mov (.s 15), none⟩])
 (.ret))
 (.skip)))
 (.seq (.reg false false [
 ⟨some 16, .fld 2 (.s 6), none⟩,
 ⟨some 17, .load none (.s 16), none⟩,
 ⟨some 18, .mov (.s 1), none⟩,
 ⟨some 19, .call 146 [(.s 17), (.s 18)], none⟩,
 ⟨some 20, .ext (.s 19) 0, none⟩,
 ⟨some 21, .ext (.s 19) 1, none⟩,
 ⟨some 4, .mov (.s 20), none⟩,
 ⟨some 5, .mov (.s 21), none⟩])
 (.ret)))),
  [.tmp 4, .tmp 5], false⟩
theorem fn41_ok : FnOk Try.prog 41 fn41 := by unfold FnOk; kernel_rfl
/-- haruspex/net.Weight -/
def fn42 : Mx.Fn := ⟨77,
 .seq (.reg false false [
 ⟨some 2, .box (.s 0), none⟩,
 ⟨some 4, .mov (.c (.int .i64 0)), none⟩,
 ⟨some 5, .mov (.c (.int .i64 0)), none⟩])
 (.seq (.reg false false [
 ⟨some 16, .load (some 2) (.s 2), none⟩,
 ⟨some 17, .call 145 [(.s 16)], none⟩,
 ⟨some 15, .mov (.s 17), none⟩,
 ⟨some 18, .ext (.s 15) 0, none⟩,
 ⟨some 19, .ext (.s 15) 1, none⟩,
 ⟨some 6, .alloc [(.int .i64 0), (.slice none 0 0), (.slice none 0 0), (.slice none 0 0), (.slice none 0 0)], none⟩,
 ⟨none, .store 5 (.s 6) (.s 18), none⟩,
 ⟨some 7, .mov (.s 19), none⟩])
 (.seq (.seq (.reg false false [
 ⟨some 20, .mov (.s 7), none⟩,
 ⟨some 21, .bin .neq (.s 20) (.c (.int .i64 0)), none⟩])
 (.cond (.s 21)
 (.seq (.reg false false [
 ⟨some 22, .mov (.s 7), none⟩,
 ⟨some 4, .mov (.c (.int .i64 0)), none⟩,
 ⟨some 5, .mov (.s 22), none⟩])
 (.ret))
 (.skip)))
 (.seq (.reg false false [
 ⟨some 24, .fld 2 (.s 6), none⟩,
 ⟨some 25, .load none (.s 24), none⟩,
 ⟨some 26, .mov (.s 1), none⟩,
 ⟨some 27, .call 146 [(.s 25), (.s 26)], none⟩,
 ⟨some 23, .mov (.s 27), none⟩,
 ⟨some 28, .ext (.s 23) 0, none⟩,
 ⟨some 29, .ext (.s 23) 1, none⟩,
 ⟨some 8, .mov (.s 28), none⟩,
 ⟨some 7, .mov (.s 29), none⟩])
 (.seq (.seq (.reg false false [
 ⟨some 30, .mov (.s 7), none⟩,
 ⟨some 31, .bin .neq (.s 30) (.c (.int .i64 0)), none⟩])
 (.cond (.s 31)
 (.seq (.reg false false [
 ⟨some 32, .mov (.s 7), none⟩,
 ⟨some 4, .mov (.c (.int .i64 0)), none⟩,
 ⟨some 5, .mov (.s 32), none⟩])
 (.ret))
 (.skip)))
 (.seq (.reg false false [
 ⟨some 9, .mov (.c (.int .i64 1)), none⟩])
 (.seq (.seq (.reg false false [
 ⟨some 33, .fld 0 (.s 6), none⟩,
 ⟨some 34, .fld 1 (.s 33), none⟩,
 ⟨some 35, .load none (.s 34), none⟩,
 ⟨some 36, .len (.s 35), none⟩,
 ⟨some 37, .mov (.c (.int .i64 0)), none⟩])
 (.block 0 (.loop (.seq (.reg false false [
 ⟨some 38, .bin .lss (.s 37) (.s 36), none⟩])
 (.seq (.cond (.s 38)
 (.skip)
 (.exit 0))
 (.seq (.block 1 (.seq (.reg false false [
 ⟨some 39, .mov (.s 37), none⟩,
 ⟨some 40, .idxS 3 (.s 35) (.s 37), none⟩,
 ⟨some 41, .load (some 3) (.s 40), none⟩,
 ⟨some 11, .alloc [(.int .i64 0), (.slice none 0 0), (.slice none 0 0)], none⟩,
 ⟨some 10, .mov (.s 39), none⟩,
 ⟨none, .store 3 (.s 11) (.s 41), none⟩])
 (.seq (.reg false false [
 ⟨some 12, .mov (.c (.int .i64 0)), none⟩])
 (.seq (.seq (.reg false false [
 ⟨some 42, .fld 1 (.s 11), none⟩,
 ⟨some 43, .load none (.s 42), none⟩,
 ⟨some 44, .len (.s 43), none⟩,
 ⟨some 45, .mov (.c (.int .i64 0)), none⟩])
 (.block 2 (.loop (.seq (.reg false false [
 ⟨some 46, .bin .lss (.s 45) (.s 44), none⟩])
 (.seq (.cond (.s 46)
 (.skip)
 (.exit 2))
 (.seq (.block 3 (.seq (.reg false false [
 ⟨some 47, .idxS 1 (.s 43) (.s 45), none⟩,
 ⟨some 48, .load none (.s 47), none⟩,
 ⟨some 14, .mov (.s 48), none⟩])
 (.reg true false [
 ⟨some 49, .mov (.s 12), none⟩,
 ⟨some 50, .fld 2 (.s 6), none⟩,
 ⟨some 51, .load none (.s 50), none⟩,
 ⟨some 52, .mov (.s 14), none⟩,
 ⟨some 53, .idxS 1 (.s 51) (.s 52), none⟩,
 ⟨some 54, .load none (.s 53), none⟩,
 ⟨some 55, .bin .mul (.s 49) (.s 54), none⟩,
 ⟨some 56, .mov (.s 8), none⟩,
 ⟨some 57, .mov (.s 14), none⟩,
 ⟨some 58, .idxS 1 (.s 56) (.s 57), none⟩,
 ⟨some 59, .load none (.s 58), none⟩,
 ⟨some 60, .bin .add (.s 55) (.s 59), none⟩,
 ⟨some 12, .mov (.s 60), none⟩])))
 (.reg false false [
 ⟨some 61, .bin .add (.s 45) (.c (.int .i64 1)), none⟩,
 ⟨some 45, .mov (.s 61), none⟩])))))))
 (.reg true false [
 ⟨some 62, .mov (.s 9), none⟩,
 ⟨some 63, .fld 2 (.s 11), none⟩,
 ⟨some 64, .load none (.s 63), none⟩,
 ⟨some 65, .mov (.s 12), none⟩,
 ⟨some 66, .idxS 1 (.s 64) (.s 65), none⟩,
 ⟨some 67, .load none (.s 66), none⟩,
 ⟨some 68, .mov (.s 8), none⟩,
 ⟨some 69, .mov (.s 10), none⟩,
 ⟨some 70, .idxS 1 (.s 68) (.s 69), none⟩,
 ⟨some 71, .load none (.s 70), none⟩,
 ⟨some 72, .idxS 1 (.s 67) (.s 71), none⟩,
 ⟨some 73, .load none (.s 72), none⟩,
 ⟨some 74, .bin .mul (.s 62) (.s 73), none⟩,
 ⟨some 9, .mov (.s 74), none⟩])))))
 (.reg false false [
 ⟨some 75, .bin .add (.s 37) (.c (.int .i64 1)), none⟩,
 ⟨some 37, .mov (.s 75), none⟩])))))))
 (.seq (.reg false false [
 ⟨some 76, .mov (.s 9), none⟩,
 ⟨some 4, .mov (.s 76), none⟩,
 ⟨some 5, .mov (.c (.int .i64 0)), none⟩])
 (.ret)))))))),
  [.tmp 4, .tmp 5], true⟩
theorem fn42_ok : FnOk Try.prog 42 fn42 := by unfold FnOk; kernel_rfl
/-- haruspex/net.CheckEvidence -/
def fn50 : Mx.Fn := ⟨43,
 .seq (.reg false false [
 ⟨some 2, .box (.s 0), none⟩,
 ⟨some 4, .mov (.c (.int .i64 0)), none⟩])
 (.seq (.reg false false [
 ⟨some 10, .load (some 2) (.s 2), none⟩,
 ⟨some 11, .call 145 [(.s 10)], none⟩,
 ⟨some 9, .mov (.s 11), none⟩,
 ⟨some 12, .ext (.s 9) 0, none⟩,
 ⟨some 13, .ext (.s 9) 1, none⟩,
 ⟨some 5, .alloc [(.int .i64 0), (.slice none 0 0), (.slice none 0 0), (.slice none 0 0), (.slice none 0 0)], none⟩,
 ⟨none, .store 5 (.s 5) (.s 12), none⟩,
 ⟨some 6, .mov (.s 13), none⟩])
 (.seq (.seq (.reg false false [
 ⟨some 14, .mov (.s 6), none⟩,
 ⟨some 15, .bin .neq (.s 14) (.c (.int .i64 0)), none⟩])
 (.cond (.s 15)
 (.seq (.reg false false [
 ⟨some 16, .mov (.s 6), none⟩,
 ⟨some 4, .mov (.s 16), none⟩])
 (.ret))
 (.skip)))
 (.seq (.seq (.reg false false [
 ⟨some 17, .mov (.s 1), none⟩,
 ⟨some 18, .len (.s 17), none⟩,
 ⟨some 19, .fld 0 (.s 5), none⟩,
 ⟨some 20, .fld 1 (.s 19), none⟩,
 ⟨some 21, .load none (.s 20), none⟩,
 ⟨some 22, .len (.s 21), none⟩,
 ⟨some 23, .bin .neq (.s 18) (.s 22), none⟩])
 (.cond (.s 23)
 (.seq (.reg false false [
 ⟨some 4, .mov (.c (.int .i64 2)), none⟩])
 (.ret))
 (.skip)))
 (.seq (.seq (.reg false false [
 ⟨some 24, .mov (.s 1), none⟩,
 ⟨some 25, .len (.s 24), none⟩,
 ⟨some 26, .mov (.c (.int .i64 0)), none⟩])
 (.block 0 (.loop (.seq (.reg false false [
 ⟨some 27, .bin .lss (.s 26) (.s 25), none⟩])
 (.seq (.cond (.s 27)
 (.skip)
 (.exit 0))
 (.seq (.block 1 (.seq (.reg false false [
 ⟨some 28, .mov (.s 26), none⟩,
 ⟨some 29, .idxS 1 (.s 24) (.s 26), none⟩,
 ⟨some 30, .load none (.s 29), none⟩,
 ⟨some 7, .mov (.s 28), none⟩,
 ⟨some 8, .mov (.s 30), none⟩])
 (.seq (.reg false false [
 ⟨some 31, .mov (.s 8), none⟩,
 ⟨some 32, .bin .lss (.s 31) (.c (.int .i64 (-1))), none⟩,
 ⟨some 33, .mov (.s 32), none⟩,
 ⟨some 34, .mov (.s 8), some (33, false)⟩,
 ⟨some 35, .fld 2 (.s 5), some (33, false)⟩,
 ⟨some 36, .load none (.s 35), some (33, false)⟩,
 ⟨some 37, .mov (.s 7), some (33, false)⟩,
 ⟨some 38, .idxS 1 (.s 36) (.s 37), some (33, false)⟩,
 ⟨some 39, .load none (.s 38), some (33, false)⟩,
 ⟨some 40, .bin .geq (.s 34) (.s 39), some (33, false)⟩,
 ⟨some 41, .pick (.s 33) (.c (.bool true)) (.s 40), none⟩])
 (.cond (.s 41)
 (.seq (.reg false false [
 ⟨some 4, .mov (.c (.int .i64 2)), none⟩])
 (.ret))
 (.skip)))))
 (.reg false false [
 ⟨some 42, .bin .add (.s 26) (.c (.int .i64 1)), none⟩,
 ⟨some 26, .mov (.s 42), none⟩])))))))
 (.seq (.reg false false [
 ⟨some 4, .mov (.c (.int .i64 0)), none⟩])
 (.ret)))))),
  [.tmp 4], true⟩
theorem fn50_ok : FnOk Try.prog 50 fn50 := by unfold FnOk; kernel_rfl
/-- haruspex/net.Factors -/
def fn51 : Mx.Fn := ⟨34,
 .seq (.reg false false [
 ⟨some 1, .box (.s 0), none⟩,
 ⟨some 2, .mov (.c (.slice none 0 0)), none⟩,
 ⟨some 3, .mov (.c (.int .i64 0)), none⟩])
 (.seq (.reg false false [
 ⟨some 9, .load (some 2) (.s 1), none⟩,
 ⟨some 10, .call 145 [(.s 9)], none⟩,
 ⟨some 8, .mov (.s 10), none⟩,
 ⟨some 11, .ext (.s 8) 0, none⟩,
 ⟨some 12, .ext (.s 8) 1, none⟩,
 ⟨some 4, .alloc [(.int .i64 0), (.slice none 0 0), (.slice none 0 0), (.slice none 0 0), (.slice none 0 0)], none⟩,
 ⟨none, .store 5 (.s 4) (.s 11), none⟩,
 ⟨some 5, .mov (.s 12), none⟩])
 (.seq (.seq (.reg false false [
 ⟨some 13, .mov (.s 5), none⟩,
 ⟨some 14, .bin .neq (.s 13) (.c (.int .i64 0)), none⟩])
 (.cond (.s 14)
 (.seq (.reg false false [
 ⟨some 15, .mov (.s 5), none⟩,
 ⟨some 2, .mov (.c (.slice none 0 0)), none⟩,
 ⟨some 3, .mov (.s 15), none⟩])
 (.ret))
 (.skip)))
 (.seq (.reg false false [
 ⟨some 16, .fld 0 (.s 4), none⟩,
 ⟨some 17, .fld 1 (.s 16), none⟩,
 ⟨some 18, .load none (.s 17), none⟩,
 ⟨some 19, .len (.s 18), none⟩,
 ⟨some 20, .mk 3 72 [(.slice none 0 0), (.slice none 0 0), (.slice none 0 0)] (.s 19) (.s 19), none⟩,
 ⟨some 6, .mov (.s 20), none⟩])
 (.seq (.seq (.reg false false [
 ⟨some 21, .mov (.s 6), none⟩,
 ⟨some 22, .len (.s 21), none⟩,
 ⟨some 23, .mov (.c (.int .i64 0)), none⟩])
 (.block 0 (.loop (.seq (.reg false false [
 ⟨some 24, .bin .lss (.s 23) (.s 22), none⟩])
 (.seq (.cond (.s 24)
 (.skip)
 (.exit 0))
 (.seq (.block 1 (.seq (.reg false false [
 ⟨some 25, .mov (.s 23), none⟩,
 ⟨some 7, .mov (.s 25), none⟩])
 (.reg false false [
 ⟨some 26, .mov (.s 6), none⟩,
 ⟨some 27, .mov (.s 7), none⟩,
 ⟨some 28, .load (some 5) (.s 4), none⟩,
 ⟨some 29, .mov (.s 7), none⟩,
 ⟨some 30, .call 151 [(.s 28), (.s 29)], none⟩,
 ⟨some 31, .idxS 3 (.s 26) (.s 27), none⟩,
 ⟨none, .store 3 (.s 31) (.s 30), none⟩])))
 (.reg false false [
 ⟨some 32, .bin .add (.s 23) (.c (.int .i64 1)), none⟩,
 ⟨some 23, .mov (.s 32), none⟩])))))))
 (.seq (.reg false false [
 ⟨some 33, .mov (.s 6), none⟩,
 ⟨some 2, .mov (.s 33), none⟩,
 ⟨some 3, .mov (.c (.int .i64 0)), none⟩])
 (.ret)))))),
  [.tmp 2, .tmp 3], false⟩
theorem fn51_ok : FnOk Try.prog 51 fn51 := by unfold FnOk; kernel_rfl
/-- haruspex/net.Parents -/
def fn54 : Mx.Fn := ⟨14,
 .seq (.reg false false [
 ⟨some 1, .box (.s 0), none⟩,
 ⟨some 2, .mov (.c (.slice none 0 0)), none⟩,
 ⟨some 3, .mov (.c (.int .i64 0)), none⟩])
 (.seq (.reg false false [
 ⟨some 7, .load (some 2) (.s 1), none⟩,
 ⟨some 8, .call 145 [(.s 7)], none⟩,
 ⟨some 6, .mov (.s 8), none⟩,
 ⟨some 9, .ext (.s 6) 0, none⟩,
 ⟨some 10, .ext (.s 6) 1, none⟩,
 ⟨some 4, .alloc [(.int .i64 0), (.slice none 0 0), (.slice none 0 0), (.slice none 0 0), (.slice none 0 0)], none⟩,
 ⟨none, .store 5 (.s 4) (.s 9), none⟩,
 ⟨some 5, .mov (.s 10), none⟩])
 (.seq (.reg false false [
 ⟨some 11, .fld 3 (.s 4), none⟩,
 ⟨some 12, .load none (.s 11), none⟩,
 ⟨some 13, .mov (.s 5), none⟩,
 ⟨some 2, .mov (.s 12), none⟩,
 ⟨some 3, .mov (.s 13), none⟩])
 (.ret))),
  [.tmp 2, .tmp 3], false⟩
theorem fn54_ok : FnOk Try.prog 54 fn54 := by unfold FnOk; kernel_rfl
/-- haruspex/net.Order -/
def fn55 : Mx.Fn := ⟨14,
 .seq (.reg false false [
 ⟨some 1, .box (.s 0), none⟩,
 ⟨some 2, .mov (.c (.slice none 0 0)), none⟩,
 ⟨some 3, .mov (.c (.int .i64 0)), none⟩])
 (.seq (.reg false false [
 ⟨some 7, .load (some 2) (.s 1), none⟩,
 ⟨some 8, .call 145 [(.s 7)], none⟩,
 ⟨some 6, .mov (.s 8), none⟩,
 ⟨some 9, .ext (.s 6) 0, none⟩,
 ⟨some 10, .ext (.s 6) 1, none⟩,
 ⟨some 4, .alloc [(.int .i64 0), (.slice none 0 0), (.slice none 0 0), (.slice none 0 0), (.slice none 0 0)], none⟩,
 ⟨none, .store 5 (.s 4) (.s 9), none⟩,
 ⟨some 5, .mov (.s 10), none⟩])
 (.seq (.reg false false [
 ⟨some 11, .fld 4 (.s 4), none⟩,
 ⟨some 12, .load none (.s 11), none⟩,
 ⟨some 13, .mov (.s 5), none⟩,
 ⟨some 2, .mov (.s 12), none⟩,
 ⟨some 3, .mov (.s 13), none⟩])
 (.ret))),
  [.tmp 2, .tmp 3], false⟩
theorem fn55_ok : FnOk Try.prog 55 fn55 := by unfold FnOk; kernel_rfl
/-- haruspex/net.Moral -/
def fn56 : Mx.Fn := ⟨16,
 .seq (.reg false false [
 ⟨some 1, .box (.s 0), none⟩,
 ⟨some 2, .mov (.c (.slice none 0 0)), none⟩,
 ⟨some 3, .mov (.c (.int .i64 0)), none⟩])
 (.seq (.reg false false [
 ⟨some 7, .load (some 2) (.s 1), none⟩,
 ⟨some 8, .call 145 [(.s 7)], none⟩,
 ⟨some 6, .mov (.s 8), none⟩,
 ⟨some 9, .ext (.s 6) 0, none⟩,
 ⟨some 10, .ext (.s 6) 1, none⟩,
 ⟨some 4, .alloc [(.int .i64 0), (.slice none 0 0), (.slice none 0 0), (.slice none 0 0), (.slice none 0 0)], none⟩,
 ⟨none, .store 5 (.s 4) (.s 9), none⟩,
 ⟨some 5, .mov (.s 10), none⟩])
 (.seq (.seq (.reg false false [
 ⟨some 11, .mov (.s 5), none⟩,
 ⟨some 12, .bin .neq (.s 11) (.c (.int .i64 0)), none⟩])
 (.cond (.s 12)
 (.seq (.reg false false [
 ⟨some 13, .mov (.s 5), none⟩,
 ⟨some 2, .mov (.c (.slice none 0 0)), none⟩,
 ⟨some 3, .mov (.s 13), none⟩])
 (.ret))
 (.skip)))
 (.seq (.reg false false [
 ⟨some 14, .load (some 5) (.s 4), none⟩,
 ⟨some 15, .call 153 [(.s 14)], none⟩,
 ⟨some 2, .mov (.s 15), none⟩,
 ⟨some 3, .mov (.c (.int .i64 0)), none⟩])
 (.ret)))),
  [.tmp 2, .tmp 3], false⟩
theorem fn56_ok : FnOk Try.prog 56 fn56 := by unfold FnOk; kernel_rfl
/-- haruspex/net.Blanket -/
def fn61 : Mx.Fn := ⟨31,
 .seq (.reg false false [
 ⟨some 2, .box (.s 0), none⟩,
 ⟨some 4, .mov (.c (.int .u64 0)), none⟩,
 ⟨some 5, .mov (.c (.int .i64 0)), none⟩])
 (.seq (.reg false false [
 ⟨some 9, .load (some 2) (.s 2), none⟩,
 ⟨some 10, .call 145 [(.s 9)], none⟩,
 ⟨some 8, .mov (.s 10), none⟩,
 ⟨some 11, .ext (.s 8) 0, none⟩,
 ⟨some 12, .ext (.s 8) 1, none⟩,
 ⟨some 6, .alloc [(.int .i64 0), (.slice none 0 0), (.slice none 0 0), (.slice none 0 0), (.slice none 0 0)], none⟩,
 ⟨none, .store 5 (.s 6) (.s 11), none⟩,
 ⟨some 7, .mov (.s 12), none⟩])
 (.seq (.seq (.reg false false [
 ⟨some 13, .mov (.s 7), none⟩,
 ⟨some 14, .bin .neq (.s 13) (.c (.int .i64 0)), none⟩])
 (.cond (.s 14)
 (.seq (.reg false false [
 ⟨some 15, .mov (.s 7), none⟩,
 ⟨some 4, .mov (.c (.int .u64 0)), none⟩,
 ⟨some 5, .mov (.s 15), none⟩])
 (.ret))
 (.skip)))
 (.seq (.seq (.reg false false [
 ⟨some 16, .mov (.s 1), none⟩,
 ⟨some 17, .bin .lss (.s 16) (.c (.int .i64 0)), none⟩,
 ⟨some 18, .mov (.s 17), none⟩,
 ⟨some 19, .mov (.s 1), some (18, false)⟩,
 ⟨some 20, .fld 0 (.s 6), some (18, false)⟩,
 ⟨some 21, .fld 1 (.s 20), some (18, false)⟩,
 ⟨some 22, .load none (.s 21), some (18, false)⟩,
 ⟨some 23, .len (.s 22), some (18, false)⟩,
 ⟨some 24, .bin .geq (.s 19) (.s 23), some (18, false)⟩,
 ⟨some 25, .pick (.s 18) (.c (.bool true)) (.s 24), none⟩])
 (.cond (.s 25)
 (.seq (.reg false false [
 ⟨some 4, .mov (.c (.int .u64 0)), none⟩,
 ⟨some 5, .mov (.c (.int .i64 2)), none⟩])
 (.ret))
 (.skip)))
 (.seq (.reg false false [
 ⟨some 26, .load (some 5) (.s 6), none⟩,
 ⟨some 27, .call 153 [(.s 26)], none⟩,
 ⟨some 28, .mov (.s 1), none⟩,
 ⟨some 29, .idxS 1 (.s 27) (.s 28), none⟩,
 ⟨some 30, .load none (.s 29), none⟩,
 ⟨some 4, .mov (.s 30), none⟩,
 ⟨some 5, .mov (.c (.int .i64 0)), none⟩])
 (.ret))))),
  [.tmp 4, .tmp 5], true⟩
theorem fn61_ok : FnOk Try.prog 61 fn61 := by unfold FnOk; kernel_rfl
/-- haruspex/net.Ancestors -/
def fn62 : Mx.Fn := ⟨27,
 .seq (.reg false false [
 ⟨some 2, .box (.s 0), none⟩,
 ⟨some 4, .mov (.c (.int .u64 0)), none⟩,
 ⟨some 5, .mov (.c (.int .i64 0)), none⟩])
 (.seq (.reg false false [
 ⟨some 9, .load (some 2) (.s 2), none⟩,
 ⟨some 10, .call 145 [(.s 9)], none⟩,
 ⟨some 8, .mov (.s 10), none⟩,
 ⟨some 11, .ext (.s 8) 0, none⟩,
 ⟨some 12, .ext (.s 8) 1, none⟩,
 ⟨some 6, .alloc [(.int .i64 0), (.slice none 0 0), (.slice none 0 0), (.slice none 0 0), (.slice none 0 0)], none⟩,
 ⟨none, .store 5 (.s 6) (.s 11), none⟩,
 ⟨some 7, .mov (.s 12), none⟩])
 (.seq (.seq (.reg false false [
 ⟨some 13, .mov (.s 7), none⟩,
 ⟨some 14, .bin .neq (.s 13) (.c (.int .i64 0)), none⟩])
 (.cond (.s 14)
 (.seq (.reg false false [
 ⟨some 15, .mov (.s 7), none⟩,
 ⟨some 4, .mov (.c (.int .u64 0)), none⟩,
 ⟨some 5, .mov (.s 15), none⟩])
 (.ret))
 (.skip)))
 (.seq (.seq (.reg false false [
 ⟨some 16, .mov (.s 1), none⟩,
 ⟨some 17, .fld 0 (.s 6), none⟩,
 ⟨some 18, .fld 1 (.s 17), none⟩,
 ⟨some 19, .load none (.s 18), none⟩,
 ⟨some 20, .len (.s 19), none⟩,
 ⟨some 21, .bin .shr (.s 16) (.s 20), none⟩,
 ⟨some 22, .bin .neq (.s 21) (.c (.int .u64 0)), none⟩])
 (.cond (.s 22)
 (.seq (.reg false false [
 ⟨some 4, .mov (.c (.int .u64 0)), none⟩,
 ⟨some 5, .mov (.c (.int .i64 2)), none⟩])
 (.ret))
 (.skip)))
 (.seq (.reg false false [
 ⟨some 23, .fld 3 (.s 6), none⟩,
 ⟨some 24, .load none (.s 23), none⟩,
 ⟨some 25, .mov (.s 1), none⟩,
 ⟨some 26, .call 154 [(.s 24), (.s 25)], none⟩,
 ⟨some 4, .mov (.s 26), none⟩,
 ⟨some 5, .mov (.c (.int .i64 0)), none⟩])
 (.ret))))),
  [.tmp 4, .tmp 5], true⟩
theorem fn62_ok : FnOk Try.prog 62 fn62 := by unfold FnOk; kernel_rfl
/-- haruspex/net.Descendants -/
def fn63 : Mx.Fn := ⟨61,
 .seq (.reg false false [
 ⟨some 2, .box (.s 0), none⟩,
 ⟨some 4, .mov (.c (.int .u64 0)), none⟩,
 ⟨some 5, .mov (.c (.int .i64 0)), none⟩])
 (.seq (.reg false false [
 ⟨some 13, .load (some 2) (.s 2), none⟩,
 ⟨some 14, .call 145 [(.s 13)], none⟩,
 ⟨some 12, .mov (.s 14), none⟩,
 ⟨some 15, .ext (.s 12) 0, none⟩,
 ⟨some 16, .ext (.s 12) 1, none⟩,
 ⟨some 6, .alloc [(.int .i64 0), (.slice none 0 0), (.slice none 0 0), (.slice none 0 0), (.slice none 0 0)], none⟩,
 ⟨none, .store 5 (.s 6) (.s 15), none⟩,
 ⟨some 7, .mov (.s 16), none⟩])
 (.seq (.seq (.reg false false [
 ⟨some 17, .mov (.s 7), none⟩,
 ⟨some 18, .bin .neq (.s 17) (.c (.int .i64 0)), none⟩])
 (.cond (.s 18)
 (.seq (.reg false false [
 ⟨some 19, .mov (.s 7), none⟩,
 ⟨some 4, .mov (.c (.int .u64 0)), none⟩,
 ⟨some 5, .mov (.s 19), none⟩])
 (.ret))
 (.skip)))
 (.seq (.seq (.reg false false [
 ⟨some 20, .mov (.s 1), none⟩,
 ⟨some 21, .fld 0 (.s 6), none⟩,
 ⟨some 22, .fld 1 (.s 21), none⟩,
 ⟨some 23, .load none (.s 22), none⟩,
 ⟨some 24, .len (.s 23), none⟩,
 ⟨some 25, .bin .shr (.s 20) (.s 24), none⟩,
 ⟨some 26, .bin .neq (.s 25) (.c (.int .u64 0)), none⟩])
 (.cond (.s 26)
 (.seq (.reg false false [
 ⟨some 4, .mov (.c (.int .u64 0)), none⟩,
 ⟨some 5, .mov (.c (.int .i64 2)), none⟩])
 (.ret))
 (.skip)))
 (.seq (.reg false false [
 ⟨some 27, .fld 3 (.s 6), none⟩,
 ⟨some 28, .load none (.s 27), none⟩,
 ⟨some 29, .len (.s 28), none⟩,
 ⟨some 30, .mk 1 8 [(.int .u64 0)] (.s 29) (.s 29), none⟩,
 ⟨some 8, .mov (.s 30), none⟩])
 (.seq (.seq (.reg false false [
 ⟨some 31, .fld 3 (.s 6), none⟩,
 ⟨some 32, .load none (.s 31), none⟩,
 ⟨some 33, .len (.s 32), none⟩,
 ⟨some 34, .mov (.c (.int .i64 0)), none⟩])
 (.block 0 (.loop (.seq (.reg false false [
 ⟨some 35, .bin .lss (.s 34) (.s 33), none⟩])
 (.seq (.cond (.s 35)
 (.skip)
 (.exit 0))
 (.seq (.block 1 (.seq (.reg false false [
 ⟨some 36, .mov (.s 34), none⟩,
 ⟨some 37, .idxS 1 (.s 32) (.s 34), none⟩,
 ⟨some 38, .load none (.s 37), none⟩,
 ⟨some 9, .mov (.s 36), none⟩,
 ⟨some 10, .mov (.s 38), none⟩])
 (.seq (.reg false false [
 ⟨some 39, .mov (.s 8), none⟩,
 ⟨some 40, .len (.s 39), none⟩,
 ⟨some 41, .mov (.c (.int .i64 0)), none⟩])
 (.block 2 (.loop (.seq (.reg false false [
 ⟨some 42, .bin .lss (.s 41) (.s 40), none⟩])
 (.seq (.cond (.s 42)
 (.skip)
 (.exit 2))
 (.seq (.block 3 (.seq (.reg false false [
 ⟨some 43, .mov (.s 41), none⟩,
 ⟨some 11, .mov (.s 43), none⟩])
 (.reg true false [
 ⟨some 44, .mov (.s 8), none⟩,
 ⟨some 45, .mov (.s 11), none⟩,
 ⟨some 46, .idxS 1 (.s 44) (.s 45), none⟩,
 ⟨some 47, .load none (.s 46), none⟩,
 ⟨some 48, .mov (.s 10), none⟩,
 ⟨some 49, .mov (.s 11), none⟩,
 ⟨some 50, .bin .shr (.s 48) (.s 49), none⟩,
 ⟨some 51, .bin .and (.s 50) (.c (.int .u64 1)), none⟩,
 ⟨some 52, .mov (.s 9), none⟩,
 ⟨some 53, .bin .shl (.s 51) (.s 52), none⟩,
 ⟨some 54, .bin .or (.s 47) (.s 53), none⟩,
 ⟨some 55, .idxS 1 (.s 44) (.s 45), none⟩,
 ⟨none, .store 1 (.s 55) (.s 54), none⟩])))
 (.reg false false [
 ⟨some 56, .bin .add (.s 41) (.c (.int .i64 1)), none⟩,
 ⟨some 41, .mov (.s 56), none⟩])))))))))
 (.reg false false [
 ⟨some 57, .bin .add (.s 34) (.c (.int .i64 1)), none⟩,
 ⟨some 34, .mov (.s 57), none⟩])))))))
 (.seq (.reg false false [
 ⟨some 58, .mov (.s 8), none⟩,
 ⟨some 59, .mov (.s 1), none⟩,
 ⟨some 60, .call 154 [(.s 58), (.s 59)], none⟩,
 ⟨some 4, .mov (.s 60), none⟩,
 ⟨some 5, .mov (.c (.int .i64 0)), none⟩])
 (.ret))))))),
  [.tmp 4, .tmp 5], true⟩
theorem fn63_ok : FnOk Try.prog 63 fn63 := by unfold FnOk; kernel_rfl
/-- slices.Clone[[]int,int] -/
def fn68 : Mx.Fn := ⟨8,
 .seq (.reg false false [
 ⟨some 2, .mov (.c (.slice none 0 0)), none⟩])
 (.seq (.seq (.reg false false [
 ⟨some 3, .mov (.s 0), none⟩,
 ⟨some 4, .eqn false (.s 3), none⟩])
 (.cond (.s 4)
 (.seq (.reg false false [
 ⟨some 2, .mov (.c (.slice none 0 0)), none⟩])
 (.ret))
 (.skip)))
 (.seq (.reg false false [
 ⟨some 5, .bsl 1 0 [(.int .i64 0)] [], none⟩,
 ⟨some 6, .mov (.s 0), none⟩,
 ⟨some 7, .app 1 8 (.s 5) (.s 6), none⟩,
 ⟨some 2, .mov (.s 7), none⟩])
 (.ret))),
  [.tmp 2], false⟩
theorem fn68_ok : FnOk Try.prog 68 fn68 := by unfold FnOk; kernel_rfl
/-- haruspex/net.Worlds -/
def fn70 : Mx.Fn := ⟨19,
 .seq (.reg false false [
 ⟨some 1, .box (.s 0), none⟩,
 ⟨some 2, .mov (.c (.int .i64 0)), none⟩,
 ⟨some 3, .mov (.c (.int .i64 0)), none⟩])
 (.seq (.reg false false [
 ⟨some 7, .load (some 2) (.s 1), none⟩,
 ⟨some 8, .call 145 [(.s 7)], none⟩,
 ⟨some 6, .mov (.s 8), none⟩,
 ⟨some 9, .ext (.s 6) 0, none⟩,
 ⟨some 10, .ext (.s 6) 1, none⟩,
 ⟨some 4, .alloc [(.int .i64 0), (.slice none 0 0), (.slice none 0 0), (.slice none 0 0), (.slice none 0 0)], none⟩,
 ⟨none, .store 5 (.s 4) (.s 9), none⟩,
 ⟨some 5, .mov (.s 10), none⟩])
 (.seq (.seq (.reg false false [
 ⟨some 11, .mov (.s 5), none⟩,
 ⟨some 12, .bin .neq (.s 11) (.c (.int .i64 0)), none⟩])
 (.cond (.s 12)
 (.seq (.reg false false [
 ⟨some 13, .mov (.s 5), none⟩,
 ⟨some 2, .mov (.c (.int .i64 0)), none⟩,
 ⟨some 3, .mov (.s 13), none⟩])
 (.ret))
 (.skip)))
 (.seq (.reg false false [
 ⟨some 14, .fld 2 (.s 4), none⟩,
 ⟨some 15, .load none (.s 14), none⟩,
 ⟨some 16, .call 160 [(.s 15)], none⟩,
 ⟨some 17, .ext (.s 16) 0, none⟩,
 ⟨some 18, .ext (.s 16) 1, none⟩,
 ⟨some 2, .mov (.s 17), none⟩,
 ⟨some 3, .mov (.s 18), none⟩])
 (.ret)))),
  [.tmp 2, .tmp 3], true⟩
theorem fn70_ok : FnOk Try.prog 70 fn70 := by unfold FnOk; kernel_rfl
/-- haruspex/net.Whole -/
def fn71 : Mx.Fn := ⟨28,
 .seq (.reg false false [
 ⟨some 1, .box (.s 0), none⟩,
 ⟨some 2, .mov (.c (.int .i64 0)), none⟩,
 ⟨some 3, .mov (.c (.int .i64 0)), none⟩])
 (.seq (.reg false false [
 ⟨some 8, .load (some 2) (.s 1), none⟩,
 ⟨some 9, .call 145 [(.s 8)], none⟩,
 ⟨some 7, .mov (.s 9), none⟩,
 ⟨some 10, .ext (.s 7) 0, none⟩,
 ⟨some 11, .ext (.s 7) 1, none⟩,
 ⟨some 4, .alloc [(.int .i64 0), (.slice none 0 0), (.slice none 0 0), (.slice none 0 0), (.slice none 0 0)], none⟩,
 ⟨none, .store 5 (.s 4) (.s 10), none⟩,
 ⟨some 5, .mov (.s 11), none⟩])
 (.seq (.seq (.reg false false [
 ⟨some 12, .mov (.s 5), none⟩,
 ⟨some 13, .bin .neq (.s 12) (.c (.int .i64 0)), none⟩])
 (.cond (.s 13)
 (.seq (.reg false false [
 ⟨some 14, .mov (.s 5), none⟩,
 ⟨some 2, .mov (.c (.int .i64 0)), none⟩,
 ⟨some 3, .mov (.s 14), none⟩])
 (.ret))
 (.skip)))
 (.seq (.reg false false [
 ⟨some 6, .mov (.c (.int .i64 1)), none⟩])
 (.seq (.seq (.reg false false [
 ⟨some 15, .fld 0 (.s 4), none⟩,
 ⟨some 16, .fld 1 (.s 15), none⟩,
 ⟨some 17, .load none (.s 16), none⟩,
 ⟨some 18, .len (.s 17), none⟩,
 ⟨some 19, .mov (.c (.int .i64 0)), none⟩])
 (.block 0 (.loop (.seq (.reg false false [
 ⟨some 20, .bin .lss (.s 19) (.s 18), none⟩])
 (.seq (.cond (.s 20)
 (.skip)
 (.exit 0))
 (.seq (.block 1 (.reg false false [
 ⟨some 21, .mov (.s 6), none⟩,
 ⟨some 22, .fld 0 (.s 4), none⟩,
 ⟨some 23, .fld 0 (.s 22), none⟩,
 ⟨some 24, .load none (.s 23), none⟩,
 ⟨some 25, .bin .mul (.s 21) (.s 24), none⟩,
 ⟨some 6, .mov (.s 25), none⟩]))
 (.reg false false [
 ⟨some 26, .bin .add (.s 19) (.c (.int .i64 1)), none⟩,
 ⟨some 19, .mov (.s 26), none⟩])))))))
 (.seq (.reg false false [
 ⟨some 27, .mov (.s 6), none⟩,
 ⟨some 2, .mov (.s 27), none⟩,
 ⟨some 3, .mov (.c (.int .i64 0)), none⟩])
 (.ret)))))),
  [.tmp 2, .tmp 3], true⟩
theorem fn71_ok : FnOk Try.prog 71 fn71 := by unfold FnOk; kernel_rfl
/-- haruspex/net.Check -/
def fn73 : Mx.Fn := ⟨11,
 .seq (.reg false false [
 ⟨some 1, .box (.s 0), none⟩,
 ⟨some 2, .mov (.c (.int .i64 0)), none⟩])
 (.seq (.reg false false [
 ⟨some 6, .load (some 2) (.s 1), none⟩,
 ⟨some 7, .call 145 [(.s 6)], none⟩,
 ⟨some 5, .mov (.s 7), none⟩,
 ⟨some 8, .ext (.s 5) 0, none⟩,
 ⟨some 9, .ext (.s 5) 1, none⟩,
 ⟨some 3, .alloc [(.int .i64 0), (.slice none 0 0), (.slice none 0 0), (.slice none 0 0), (.slice none 0 0)], none⟩,
 ⟨none, .store 5 (.s 3) (.s 8), none⟩,
 ⟨some 4, .mov (.s 9), none⟩])
 (.seq (.reg false false [
 ⟨some 10, .mov (.s 4), none⟩,
 ⟨some 2, .mov (.s 10), none⟩])
 (.ret))),
  [.tmp 2], true⟩
theorem fn73_ok : FnOk Try.prog 73 fn73 := by unfold FnOk; kernel_rfl
/-- haruspex/haruspexlaw05.is[int] -/
def fn79 : Mx.Fn := ⟨4,
 .seq (.reg false false [
 ⟨some 1, .box (.s 0), none⟩,
 ⟨some 2, .mov (.c .nilFunc), none⟩])
 (.seq (.reg false false [
 ⟨some 3, .clo 167 [] [(.s 1)], none⟩,
 ⟨some 2, .mov (.s 3), none⟩])
 (.ret)),
  [.tmp 2], false⟩
theorem fn79_ok : FnOk Try.prog 79 fn79 := by unfold FnOk; kernel_rfl
/-- haruspex/haruspexlaw05.are[int] -/
def fn80 : Mx.Fn := ⟨4,
 .seq (.reg false false [
 ⟨some 1, .box (.s 0), none⟩,
 ⟨some 2, .mov (.c .nilFunc), none⟩])
 (.seq (.reg false false [
 ⟨some 3, .clo 168 [] [(.s 1)], none⟩,
 ⟨some 2, .mov (.s 3), none⟩])
 (.ret)),
  [.tmp 2], false⟩
theorem fn80_ok : FnOk Try.prog 80 fn80 := by unfold FnOk; kernel_rfl
/-- slices.Equal[[]int,int] -/
def fn110 : Mx.Fn := ⟨26,
 .seq (.reg false false [
 ⟨some 4, .mov (.c (.bool false)), none⟩])
 (.seq (.seq (.reg false false [
 ⟨some 6, .mov (.s 0), none⟩,
 ⟨some 7, .len (.s 6), none⟩,
 ⟨some 8, .mov (.s 1), none⟩,
 ⟨some 9, .len (.s 8), none⟩,
 ⟨some 10, .bin .neq (.s 7) (.s 9), none⟩])
 (.cond (.s 10)
 (.seq (.reg false false [
 ⟨some 4, .mov (.c (.bool false)), none⟩])
 (.ret))
 (.skip)))
 (.seq (.seq (.reg false false [
 ⟨some 11, .mov (.s 0), none⟩,
 ⟨some 12, .len (.s 11), none⟩,
 ⟨some 13, .mov (.c (.int .i64 0)), none⟩])
 (.block 0 (.loop (.seq (.reg false false [
 ⟨some 14, .bin .lss (.s 13) (.s 12), none⟩])
 (.seq (.cond (.s 14)
 (.skip)
 (.exit 0))
 (.seq (.block 1 (.seq (.reg false false [
 ⟨some 15, .mov (.s 13), none⟩,
 ⟨some 5, .mov (.s 15), none⟩])
 (.seq (.reg true false [
 ⟨some 16, .mov (.s 0), none⟩,
 ⟨some 17, .mov (.s 5), none⟩,
 ⟨some 18, .idxS 1 (.s 16) (.s 17), none⟩,
 ⟨some 19, .load none (.s 18), none⟩,
 ⟨some 20, .mov (.s 1), none⟩,
 ⟨some 21, .mov (.s 5), none⟩,
 ⟨some 22, .idxS 1 (.s 20) (.s 21), none⟩,
 ⟨some 23, .load none (.s 22), none⟩,
 ⟨some 24, .bin .neq (.s 19) (.s 23), none⟩])
 (.cond (.s 24)
 (.seq (.reg false false [
 ⟨some 4, .mov (.c (.bool false)), none⟩])
 (.ret))
 (.skip)))))
 (.reg false false [
 ⟨some 25, .bin .add (.s 13) (.c (.int .i64 1)), none⟩,
 ⟨some 13, .mov (.s 25), none⟩])))))))
 (.seq (.reg false false [
 ⟨some 4, .mov (.c (.bool true)), none⟩])
 (.ret)))),
  [.tmp 4], true⟩
theorem fn110_ok : FnOk Try.prog 110 fn110 := by unfold FnOk; kernel_rfl
/-- haruspex/haruspexlaw05.chapter -/
def fn130 : Mx.Fn := ⟨18,
 .seq (.reg false false [
 ⟨some 0, .alloc [(.int .i64 0), (.slice none 0 0)], none⟩])
 (.seq (.reg false false [
 ⟨some 1, .bsl 1 2 [(.int .i64 0)] [(0, (.c (.int .i64 3))), (1, (.c (.int .i64 7)))], none⟩,
 ⟨some 2, .bsl 1 1 [(.slice none 0 0)] [(0, (.s 1))], none⟩,
 ⟨some 3, .build [(.int .i64 0), (.slice none 0 0), (.slice none 0 0)] [(0, 1, (.c (.int .i64 2))), (2, 1, (.s 2))], none⟩,
 ⟨some 4, .bsl 1 1 [(.int .i64 0)] [(0, (.c (.int .i64 0)))], none⟩,
 ⟨some 5, .bsl 1 2 [(.int .i64 0)] [(0, (.c (.int .i64 10))), (1, (.c (.int .i64 0)))], none⟩,
 ⟨some 6, .bsl 1 2 [(.int .i64 0)] [(0, (.c (.int .i64 4))), (1, (.c (.int .i64 6)))], none⟩,
 ⟨some 7, .bsl 1 2 [(.slice none 0 0)] [(0, (.s 5)), (1, (.s 6))], none⟩,
 ⟨some 8, .build [(.int .i64 0), (.slice none 0 0), (.slice none 0 0)] [(0, 1, (.c (.int .i64 2))), (1, 1, (.s 4)), (2, 1, (.s 7))], none⟩,
 ⟨some 9, .bsl 1 2 [(.int .i64 0)] [(0, (.c (.int .i64 0))), (1, (.c (.int .i64 1)))], none⟩,
 ⟨some 10, .bsl 1 2 [(.int .i64 0)] [(0, (.c (.int .i64 5))), (1, (.c (.int .i64 5)))], none⟩,
 ⟨some 11, .bsl 1 2 [(.int .i64 0)] [(0, (.c (.int .i64 2))), (1, (.c (.int .i64 8)))], none⟩,
 ⟨some 12, .bsl 1 2 [(.int .i64 0)] [(0, (.c (.int .i64 9))), (1, (.c (.int .i64 1)))], none⟩,
 ⟨some 13, .bsl 1 2 [(.int .i64 0)] [(0, (.c (.int .i64 0))), (1, (.c (.int .i64 10)))], none⟩,
 ⟨some 14, .bsl 1 4 [(.slice none 0 0)] [(0, (.s 10)), (1, (.s 11)), (2, (.s 12)), (3, (.s 13))], none⟩,
 ⟨some 15, .build [(.int .i64 0), (.slice none 0 0), (.slice none 0 0)] [(0, 1, (.c (.int .i64 2))), (1, 1, (.s 9)), (2, 1, (.s 14))], none⟩,
 ⟨some 16, .bsl 3 3 [(.int .i64 0), (.slice none 0 0), (.slice none 0 0)] [(0, (.s 3)), (1, (.s 8)), (2, (.s 15))], none⟩,
 ⟨some 17, .build [(.int .i64 0), (.slice none 0 0)] [(0, 1, (.c (.int .i64 10))), (1, 1, (.s 16))], none⟩,
 ⟨none, .store 2 (.s 0) (.s 17), none⟩])
 (.ret)),
  [.cell 0 (some 2)], false⟩
theorem fn130_ok : FnOk Try.prog 130 fn130 := by unfold FnOk; kernel_rfl
/-- haruspex/haruspexlaw05.are[uint] -/
def fn131 : Mx.Fn := ⟨4,
 .seq (.reg false false [
 ⟨some 1, .box (.s 0), none⟩,
 ⟨some 2, .mov (.c .nilFunc), none⟩])
 (.seq (.reg false false [
 ⟨some 3, .clo 201 [] [(.s 1)], none⟩,
 ⟨some 2, .mov (.s 3), none⟩])
 (.ret)),
  [.tmp 2], false⟩
theorem fn131_ok : FnOk Try.prog 131 fn131 := by unfold FnOk; kernel_rfl
/-- haruspex/haruspexlaw05.is[uint] -/
def fn132 : Mx.Fn := ⟨4,
 .seq (.reg false false [
 ⟨some 1, .box (.s 0), none⟩,
 ⟨some 2, .mov (.c .nilFunc), none⟩])
 (.seq (.reg false false [
 ⟨some 3, .clo 203 [] [(.s 1)], none⟩,
 ⟨some 2, .mov (.s 3), none⟩])
 (.ret)),
  [.tmp 2], false⟩
theorem fn132_ok : FnOk Try.prog 132 fn132 := by unfold FnOk; kernel_rfl
/-- haruspex/haruspexlaw05.fails[int] -/
def fn133 : Mx.Fn := ⟨4,
 .seq (.reg false false [
 ⟨some 1, .box (.s 0), none⟩,
 ⟨some 2, .mov (.c .nilFunc), none⟩])
 (.seq (.reg false false [
 ⟨some 3, .clo 204 [] [(.s 1)], none⟩,
 ⟨some 2, .mov (.s 3), none⟩])
 (.ret)),
  [.tmp 2], false⟩
theorem fn133_ok : FnOk Try.prog 133 fn133 := by unfold FnOk; kernel_rfl
/-- haruspex/haruspexlaw05.fails[uint] -/
def fn134 : Mx.Fn := ⟨4,
 .seq (.reg false false [
 ⟨some 1, .box (.s 0), none⟩,
 ⟨some 2, .mov (.c .nilFunc), none⟩])
 (.seq (.reg false false [
 ⟨some 3, .clo 205 [] [(.s 1)], none⟩,
 ⟨some 2, .mov (.s 3), none⟩])
 (.ret)),
  [.tmp 2], false⟩
theorem fn134_ok : FnOk Try.prog 134 fn134 := by unfold FnOk; kernel_rfl
/-- haruspex/haruspexlaw05.changed -/
def fn135 : Mx.Fn := ⟨8,
 .seq (.reg false false [
 ⟨some 2, .alloc [(.int .i64 0), (.slice none 0 0)], none⟩])
 (.seq (.reg false false [
 ⟨some 4, .call 130 [], none⟩,
 ⟨some 3, .alloc [(.int .i64 0), (.slice none 0 0)], none⟩,
 ⟨none, .store 2 (.s 3) (.s 4), none⟩])
 (.seq (.reg false false [
 ⟨some 5, .mov (.s 0), none⟩,
 ⟨some 6, .callv (.s 5) [(.s 3)], none⟩])
 (.seq (.reg false false [
 ⟨some 7, .load (some 2) (.s 3), none⟩,
 ⟨none, .store 2 (.s 2) (.s 7), none⟩])
 (.ret)))),
  [.cell 2 (some 2)], false⟩
theorem fn135_ok : FnOk Try.prog 135 fn135 := by unfold FnOk; kernel_rfl
/-- haruspex/haruspexlaw05.works$1 -/
def fn136 : Mx.Fn := ⟨5,
 .reg false false [
 ⟨some 2, .mov (.s 0), none⟩,
 ⟨some 3, .nilck (.s 2), none⟩,
 ⟨some 4, .fld 0 (.s 3), none⟩,
 ⟨none, .store 1 (.s 4) (.c (.int .i64 11)), none⟩],
  [], false⟩
theorem fn136_ok : FnOk Try.prog 136 fn136 := by unfold FnOk; kernel_rfl
/-- haruspex/haruspexlaw05.works$2 -/
def fn137 : Mx.Fn := ⟨9,
 .reg false false [
 ⟨some 2, .mov (.s 0), none⟩,
 ⟨some 3, .nilck (.s 2), none⟩,
 ⟨some 4, .fld 1 (.s 3), none⟩,
 ⟨some 5, .load none (.s 4), none⟩,
 ⟨some 6, .bsl 1 1 [(.int .i64 0)] [(0, (.c (.int .i64 1)))], none⟩,
 ⟨some 7, .idxS 3 (.s 5) (.c (.int .i64 1)), none⟩,
 ⟨some 8, .fld 1 (.s 7), none⟩,
 ⟨none, .store 1 (.s 8) (.s 6), none⟩],
  [], false⟩
theorem fn137_ok : FnOk Try.prog 137 fn137 := by unfold FnOk; kernel_rfl
/-- haruspex/haruspexlaw05.works$3 -/
def fn138 : Mx.Fn := ⟨10,
 .reg false false [
 ⟨some 2, .mov (.s 0), none⟩,
 ⟨some 3, .nilck (.s 2), none⟩,
 ⟨some 4, .fld 1 (.s 3), none⟩,
 ⟨some 5, .load none (.s 4), none⟩,
 ⟨some 6, .bsl 1 2 [(.int .i64 0)] [(0, (.c (.int .i64 3))), (1, (.c (.int .i64 8)))], none⟩,
 ⟨some 7, .bsl 1 1 [(.slice none 0 0)] [(0, (.s 6))], none⟩,
 ⟨some 8, .idxS 3 (.s 5) (.c (.int .i64 0)), none⟩,
 ⟨some 9, .fld 2 (.s 8), none⟩,
 ⟨none, .store 1 (.s 9) (.s 7), none⟩],
  [], false⟩
theorem fn138_ok : FnOk Try.prog 138 fn138 := by unfold FnOk; kernel_rfl
/-- haruspex/net.read -/
def fn145 : Mx.Fn := ⟨140,
 .seq (.reg false false [
 ⟨some 1, .box (.s 0), none⟩,
 ⟨some 2, .alloc [(.int .i64 0), (.slice none 0 0), (.slice none 0 0), (.slice none 0 0), (.slice none 0 0)], none⟩,
 ⟨some 3, .mov (.c (.int .i64 0)), none⟩])
 (.seq (.seq (.reg false false [
 ⟨some 15, .fld 0 (.s 1), none⟩,
 ⟨some 16, .load none (.s 15), none⟩,
 ⟨some 17, .bin .lss (.s 16) (.c (.int .i64 1)), none⟩,
 ⟨some 18, .mov (.s 17), none⟩,
 ⟨some 19, .fld 0 (.s 1), some (18, false)⟩,
 ⟨some 20, .load none (.s 19), some (18, false)⟩,
 ⟨some 21, .bin .gtr (.s 20) (.c (.int .i64 60)), some (18, false)⟩,
 ⟨some 22, .pick (.s 18) (.c (.bool true)) (.s 21), none⟩,
 ⟨some 23, .mov (.s 22), none⟩,
 ⟨some 24, .fld 1 (.s 1), some (23, false)⟩,
 ⟨some 25, .load none (.s 24), some (23, false)⟩,
 ⟨some 26, .len (.s 25), some (23, false)⟩,
 ⟨some 27, .bin .lss (.s 26) (.c (.int .i64 1)), some (23, false)⟩,
 ⟨some 28, .pick (.s 23) (.c (.bool true)) (.s 27), none⟩,
 ⟨some 29, .mov (.s 28), none⟩,
 ⟨some 30, .fld 1 (.s 1), some (29, false)⟩,
 ⟨some 31, .load none (.s 30), some (29, false)⟩,
 ⟨some 32, .len (.s 31), some (29, false)⟩,
 ⟨some 33, .bin .gtr (.s 32) (.c (.int .i64 8)), some (29, false)⟩,
 ⟨some 34, .pick (.s 29) (.c (.bool true)) (.s 33), none⟩])
 (.cond (.s 34)
 (.seq (.reg false false [
 ⟨some 35, .build [(.int .i64 0), (.slice none 0 0), (.slice none 0 0), (.slice none 0 0), (.slice none 0 0)] [], none⟩,
 ⟨none, .store 5 (.s 2) (.s 35), none⟩,
 ⟨some 3, .mov (.c (.int .i64 50)), none⟩])
 (.ret))
 (.skip)))
 (.seq (.reg true false [
 ⟨some 36, .load (some 2) (.s 1), none⟩,
 ⟨some 37, .fld 1 (.s 1), none⟩,
 ⟨some 38, .load none (.s 37), none⟩,
 ⟨some 39, .len (.s 38), none⟩,
 ⟨some 41, .fld 1 (.s 1), none⟩,
 ⟨some 42, .load none (.s 41), none⟩,
 ⟨some 43, .len (.s 42), none⟩,
 ⟨some 40, .mk 1 8 [(.int .i64 0)] (.s 39) (.s 39), none⟩,
 ⟨some 44, .mk 1 8 [(.int .u64 0)] (.s 43) (.s 43), none⟩,
 ⟨some 45, .build [(.int .i64 0), (.slice none 0 0), (.slice none 0 0), (.slice none 0 0), (.slice none 0 0)] [(0, 2, (.s 36)), (2, 1, (.s 40)), (3, 1, (.s 44))], none⟩,
 ⟨some 4, .alloc [(.int .i64 0), (.slice none 0 0), (.slice none 0 0), (.slice none 0 0), (.slice none 0 0)], none⟩,
 ⟨none, .store 5 (.s 4) (.s 45), none⟩])
 (.seq (.reg false false [
 ⟨some 5, .mov (.c (.int .i64 1)), none⟩])
 (.seq (.seq (.reg false false [
 ⟨some 46, .fld 0 (.s 4), none⟩,
 ⟨some 47, .fld 1 (.s 46), none⟩,
 ⟨some 48, .load none (.s 47), none⟩,
 ⟨some 49, .len (.s 48), none⟩,
 ⟨some 50, .mov (.c (.int .i64 0)), none⟩])
 (.block 0 (.loop (.seq (.reg false false [
 ⟨some 51, .bin .lss (.s 50) (.s 49), none⟩])
 (.seq (.cond (.s 51)
 (.skip)
 (.exit 0))
 (.seq (.block 1 (.seq (.reg false false [
 ⟨some 52, .mov (.s 50), none⟩,
 ⟨some 53, .idxS 3 (.s 48) (.s 50), none⟩,
 ⟨some 54, .load (some 3) (.s 53), none⟩,
 ⟨some 7, .alloc [(.int .i64 0), (.slice none 0 0), (.slice none 0 0)], none⟩,
 ⟨some 6, .mov (.s 52), none⟩,
 ⟨none, .store 3 (.s 7) (.s 54), none⟩])
 (.seq (.seq (.reg false false [
 ⟨some 55, .fld 0 (.s 7), none⟩,
 ⟨some 56, .load none (.s 55), none⟩,
 ⟨some 57, .bin .lss (.s 56) (.c (.int .i64 1)), none⟩,
 ⟨some 58, .mov (.s 57), none⟩,
 ⟨some 59, .fld 0 (.s 7), some (58, false)⟩,
 ⟨some 60, .load none (.s 59), some (58, false)⟩,
 ⟨some 61, .bin .gtr (.s 60) (.c (.int .i64 4)), some (58, false)⟩,
 ⟨some 62, .pick (.s 58) (.c (.bool true)) (.s 61), none⟩])
 (.cond (.s 62)
 (.seq (.reg false false [
 ⟨some 63, .build [(.int .i64 0), (.slice none 0 0), (.slice none 0 0), (.slice none 0 0), (.slice none 0 0)] [], none⟩,
 ⟨none, .store 5 (.s 2) (.s 63), none⟩,
 ⟨some 3, .mov (.c (.int .i64 50)), none⟩])
 (.ret))
 (.skip)))
 (.seq (.reg false false [
 ⟨some 64, .fld 2 (.s 4), none⟩,
 ⟨some 65, .load none (.s 64), none⟩,
 ⟨some 66, .mov (.s 6), none⟩,
 ⟨some 67, .fld 0 (.s 7), none⟩,
 ⟨some 68, .load none (.s 67), none⟩,
 ⟨some 69, .idxS 1 (.s 65) (.s 66), none⟩,
 ⟨none, .store 1 (.s 69) (.s 68), none⟩])
 (.reg false false [
 ⟨some 70, .mov (.s 5), none⟩,
 ⟨some 71, .fld 0 (.s 7), none⟩,
 ⟨some 72, .load none (.s 71), none⟩,
 ⟨some 73, .bin .mul (.s 70) (.s 72), none⟩,
 ⟨some 5, .mov (.s 73), none⟩])))))
 (.reg false false [
 ⟨some 74, .bin .add (.s 50) (.c (.int .i64 1)), none⟩,
 ⟨some 50, .mov (.s 74), none⟩])))))))
 (.seq (.seq (.reg false false [
 ⟨some 75, .mov (.s 5), none⟩,
 ⟨some 76, .bin .gtr (.s 75) (.c (.int .i64 1024)), none⟩])
 (.cond (.s 76)
 (.seq (.reg false false [
 ⟨some 77, .build [(.int .i64 0), (.slice none 0 0), (.slice none 0 0), (.slice none 0 0), (.slice none 0 0)] [], none⟩,
 ⟨none, .store 5 (.s 2) (.s 77), none⟩,
 ⟨some 3, .mov (.c (.int .i64 50)), none⟩])
 (.ret))
 (.skip)))
 (.seq (.seq (.reg false false [
 ⟨some 78, .fld 0 (.s 4), none⟩,
 ⟨some 79, .fld 1 (.s 78), none⟩,
 ⟨some 80, .load none (.s 79), none⟩,
 ⟨some 81, .len (.s 80), none⟩,
 ⟨some 82, .mov (.c (.int .i64 0)), none⟩])
 (.block 2 (.loop (.seq (.reg false false [
 ⟨some 83, .bin .lss (.s 82) (.s 81), none⟩])
 (.seq (.cond (.s 83)
 (.skip)
 (.exit 2))
 (.seq (.block 3 (.seq (.reg false false [
 ⟨some 84, .mov (.s 82), none⟩,
 ⟨some 85, .idxS 3 (.s 80) (.s 82), none⟩,
 ⟨some 86, .load (some 3) (.s 85), none⟩,
 ⟨some 9, .alloc [(.int .i64 0), (.slice none 0 0), (.slice none 0 0)], none⟩,
 ⟨some 8, .mov (.s 84), none⟩,
 ⟨none, .store 3 (.s 9) (.s 86), none⟩])
 (.seq (.reg false false [
 ⟨some 10, .mov (.c (.int .i64 (-1))), none⟩])
 (.seq (.seq (.reg false false [
 ⟨some 87, .fld 1 (.s 9), none⟩,
 ⟨some 88, .load none (.s 87), none⟩,
 ⟨some 89, .len (.s 88), none⟩,
 ⟨some 90, .mov (.c (.int .i64 0)), none⟩])
 (.block 4 (.loop (.seq (.reg false false [
 ⟨some 91, .bin .lss (.s 90) (.s 89), none⟩])
 (.seq (.cond (.s 91)
 (.skip)
 (.exit 4))
 (.seq (.block 5 (.seq (.reg false false [
 ⟨some 92, .idxS 1 (.s 88) (.s 90), none⟩,
 ⟨some 93, .load none (.s 92), none⟩,
 ⟨some 12, .mov (.s 93), none⟩])
 (.seq (.seq (.reg false false [
 ⟨some 94, .mov (.s 12), none⟩,
 ⟨some 95, .mov (.s 10), none⟩,
 ⟨some 96, .bin .leq (.s 94) (.s 95), none⟩,
 ⟨some 97, .mov (.s 96), none⟩,
 ⟨some 98, .mov (.s 12), some (97, false)⟩,
 ⟨some 99, .fld 0 (.s 4), some (97, false)⟩,
 ⟨some 100, .fld 1 (.s 99), some (97, false)⟩,
 ⟨some 101, .load none (.s 100), some (97, false)⟩,
 ⟨some 102, .len (.s 101), some (97, false)⟩,
 ⟨some 103, .bin .geq (.s 98) (.s 102), some (97, false)⟩,
 ⟨some 104, .pick (.s 97) (.c (.bool true)) (.s 103), none⟩,
 ⟨some 105, .mov (.s 104), none⟩,
 ⟨some 106, .mov (.s 12), some (105, false)⟩,
 ⟨some 107, .mov (.s 8), some (105, false)⟩,
 ⟨some 108, .bin .eql (.s 106) (.s 107), some (105, false)⟩,
 ⟨some 109, .pick (.s 105) (.c (.bool true)) (.s 108), none⟩])
 (.cond (.s 109)
 (.seq (.reg false false [
 ⟨some 110, .build [(.int .i64 0), (.slice none 0 0), (.slice none 0 0), (.slice none 0 0), (.slice none 0 0)] [], none⟩,
 ⟨none, .store 5 (.s 2) (.s 110), none⟩,
 ⟨some 3, .mov (.c (.int .i64 50)), none⟩])
 (.ret))
 (.skip)))
 (.seq (.reg false false [
 ⟨some 111, .mov (.s 12), none⟩,
 ⟨some 10, .mov (.s 111), none⟩])
 (.reg true false [
 ⟨some 112, .fld 3 (.s 4), none⟩,
 ⟨some 113, .load none (.s 112), none⟩,
 ⟨some 114, .mov (.s 8), none⟩,
 ⟨some 115, .idxS 1 (.s 113) (.s 114), none⟩,
 ⟨some 116, .load none (.s 115), none⟩,
 ⟨some 117, .mov (.s 12), none⟩,
 ⟨some 118, .bin .shl (.c (.int .u64 1)) (.s 117), none⟩,
 ⟨some 119, .bin .or (.s 116) (.s 118), none⟩,
 ⟨some 120, .idxS 1 (.s 113) (.s 114), none⟩,
 ⟨none, .store 1 (.s 120) (.s 119), none⟩])))))
 (.reg false false [
 ⟨some 121, .bin .add (.s 90) (.c (.int .i64 1)), none⟩,
 ⟨some 90, .mov (.s 121), none⟩])))))))
 (.seq (.reg false false [
 ⟨some 122, .load (some 5) (.s 4), none⟩,
 ⟨some 123, .load (some 3) (.s 9), none⟩,
 ⟨some 124, .call 206 [(.s 122), (.s 123)], none⟩,
 ⟨some 125, .un .not (.s 124), none⟩])
 (.cond (.s 125)
 (.seq (.reg false false [
 ⟨some 126, .build [(.int .i64 0), (.slice none 0 0), (.slice none 0 0), (.slice none 0 0), (.slice none 0 0)] [], none⟩,
 ⟨none, .store 5 (.s 2) (.s 126), none⟩,
 ⟨some 3, .mov (.c (.int .i64 50)), none⟩])
 (.ret))
 (.skip)))))))
 (.reg false false [
 ⟨some 127, .bin .add (.s 82) (.c (.int .i64 1)), none⟩,
 ⟨some 82, .mov (.s 127), none⟩])))))))
 (.seq (.reg false false [
 ⟨some 129, .fld 3 (.s 4), none⟩,
 ⟨some 130, .load none (.s 129), none⟩,
 ⟨some 131, .call 207 [(.s 130)], none⟩,
 ⟨some 128, .mov (.s 131), none⟩,
 ⟨some 132, .ext (.s 128) 0, none⟩,
 ⟨some 133, .ext (.s 128) 1, none⟩,
 ⟨some 13, .mov (.s 132), none⟩,
 ⟨some 14, .mov (.s 133), none⟩])
 (.seq (.seq (.reg false false [
 ⟨some 134, .mov (.s 14), none⟩,
 ⟨some 135, .un .not (.s 134), none⟩])
 (.cond (.s 135)
 (.seq (.reg false false [
 ⟨some 136, .build [(.int .i64 0), (.slice none 0 0), (.slice none 0 0), (.slice none 0 0), (.slice none 0 0)] [], none⟩,
 ⟨none, .store 5 (.s 2) (.s 136), none⟩,
 ⟨some 3, .mov (.c (.int .i64 50)), none⟩])
 (.ret))
 (.skip)))
 (.seq (.reg false false [
 ⟨some 137, .mov (.s 13), none⟩,
 ⟨some 138, .fld 4 (.s 4), none⟩,
 ⟨none, .store 1 (.s 138) (.s 137), none⟩])
 (.seq (.reg false false [
 ⟨some 139, .load (some 5) (.s 4), none⟩,
 ⟨none, .store 5 (.s 2) (.s 139), none⟩,
 ⟨some 3, .mov (.c (.int .i64 0)), none⟩])
 (.ret))))))))))),
  [.cell 2 (some 5), .tmp 3], false⟩
theorem fn145_ok : FnOk Try.prog 145 fn145 := by unfold FnOk; kernel_rfl
/-- haruspex/index.Values -/
def fn146 : Mx.Fn := ⟨29,
 .seq (.reg false false [
 ⟨some 4, .mov (.c (.slice none 0 0)), none⟩,
 ⟨some 5, .mov (.c (.int .i64 0)), none⟩])
 (.seq (.reg false false [
 ⟨some 9, .mov (.s 0), none⟩,
 ⟨some 10, .call 208 [(.s 9)], none⟩,
 ⟨some 8, .mov (.s 10), none⟩,
 ⟨some 11, .ext (.s 8) 0, none⟩,
 ⟨some 12, .ext (.s 8) 1, none⟩,
 ⟨some 6, .mov (.s 11), none⟩,
 ⟨some 7, .mov (.s 12), none⟩])
 (.seq (.seq (.reg false false [
 ⟨some 13, .mov (.s 7), none⟩,
 ⟨some 14, .un .not (.s 13), none⟩])
 (.cond (.s 14)
 (.seq (.reg false false [
 ⟨some 4, .mov (.c (.slice none 0 0)), none⟩,
 ⟨some 5, .mov (.c (.int .i64 20)), none⟩])
 (.ret))
 (.skip)))
 (.seq (.seq (.reg false false [
 ⟨some 15, .mov (.s 1), none⟩,
 ⟨some 16, .bin .lss (.s 15) (.c (.int .i64 0)), none⟩,
 ⟨some 17, .mov (.s 16), none⟩,
 ⟨some 18, .mov (.s 1), some (17, false)⟩,
 ⟨some 19, .mov (.s 6), some (17, false)⟩,
 ⟨some 20, .bin .geq (.s 18) (.s 19), some (17, false)⟩,
 ⟨some 21, .pick (.s 17) (.c (.bool true)) (.s 20), none⟩])
 (.cond (.s 21)
 (.seq (.reg false false [
 ⟨some 4, .mov (.c (.slice none 0 0)), none⟩,
 ⟨some 5, .mov (.c (.int .i64 2)), none⟩])
 (.ret))
 (.skip)))
 (.seq (.reg false false [
 ⟨some 22, .mov (.s 0), none⟩,
 ⟨some 23, .len (.s 22), none⟩,
 ⟨some 24, .mov (.s 0), none⟩,
 ⟨some 25, .mov (.s 6), none⟩,
 ⟨some 26, .mov (.s 1), none⟩,
 ⟨some 27, .call 210 [(.s 24), (.s 25), (.s 26)], none⟩,
 ⟨some 28, .call 209 [(.s 23), (.s 27)], none⟩,
 ⟨some 4, .mov (.s 28), none⟩,
 ⟨some 5, .mov (.c (.int .i64 0)), none⟩])
 (.ret))))),
  [.tmp 4, .tmp 5], false⟩
theorem fn146_ok : FnOk Try.prog 146 fn146 := by unfold FnOk; kernel_rfl
/-- (haruspex/net.network).factor -/
def fn151 : Mx.Fn := ⟨105,
 .seq (.reg false false [
 ⟨some 2, .box (.s 0), none⟩,
 ⟨some 4, .alloc [(.slice none 0 0), (.slice none 0 0), (.slice none 0 0)], none⟩])
 (.seq (.reg false false [
 ⟨some 16, .fld 0 (.s 2), none⟩,
 ⟨some 17, .fld 1 (.s 16), none⟩,
 ⟨some 18, .load none (.s 17), none⟩,
 ⟨some 19, .mov (.s 1), none⟩,
 ⟨some 20, .idxS 3 (.s 18) (.s 19), none⟩,
 ⟨some 21, .load (some 3) (.s 20), none⟩,
 ⟨some 5, .alloc [(.int .i64 0), (.slice none 0 0), (.slice none 0 0)], none⟩,
 ⟨none, .store 3 (.s 5) (.s 21), none⟩])
 (.seq (.reg false false [
 ⟨some 23, .fld 1 (.s 5), none⟩,
 ⟨some 24, .load none (.s 23), none⟩,
 ⟨some 25, .mov (.s 1), none⟩,
 ⟨some 26, .call 213 [(.s 24), (.s 25)], none⟩,
 ⟨some 22, .mov (.s 26), none⟩,
 ⟨some 27, .ext (.s 22) 0, none⟩,
 ⟨some 28, .ext (.s 22) 1, none⟩,
 ⟨some 6, .mov (.s 27), none⟩,
 ⟨some 7, .mov (.s 28), none⟩])
 (.seq (.reg false false [
 ⟨some 29, .fld 1 (.s 5), none⟩,
 ⟨some 30, .load none (.s 29), none⟩,
 ⟨some 31, .call 68 [(.s 30)], none⟩,
 ⟨some 32, .mov (.s 6), none⟩,
 ⟨some 33, .mov (.s 1), none⟩,
 ⟨some 34, .bsl 1 1 [(.int .i64 0)] [(0, (.s 33))], none⟩,
 ⟨some 35, .call 214 [(.s 31), (.s 32), (.s 34)], none⟩,
 ⟨some 36, .build [(.slice none 0 0), (.slice none 0 0), (.slice none 0 0)] [(0, 1, (.s 35))], none⟩,
 ⟨some 8, .alloc [(.slice none 0 0), (.slice none 0 0), (.slice none 0 0)], none⟩,
 ⟨none, .store 3 (.s 8) (.s 36), none⟩])
 (.seq (.reg false false [
 ⟨some 9, .alloc [(.int .i64 0)], none⟩,
 ⟨none, .store 1 (.s 9) (.c (.int .i64 1)), none⟩])
 (.seq (.seq (.reg false false [
 ⟨some 37, .fld 0 (.s 8), none⟩,
 ⟨some 38, .load none (.s 37), none⟩,
 ⟨some 39, .len (.s 38), none⟩,
 ⟨some 40, .mov (.c (.int .i64 0)), none⟩])
 (.block 0 (.loop (.seq (.reg false false [
 ⟨some 41, .bin .lss (.s 40) (.s 39), none⟩])
 (.seq (.cond (.s 41)
 (.skip)
 (.exit 0))
 (.seq (.block 1 (.seq (.reg false false [
 ⟨some 42, .mov (.s 40), none⟩,
 ⟨some 43, .idxS 1 (.s 38) (.s 40), none⟩,
 ⟨some 44, .load none (.s 43), none⟩,
 ⟨some 10, .mov (.s 42), none⟩,
 ⟨some 11, .mov (.s 44), none⟩])
 (.seq (.reg true false [
 ⟨some 45, .fld 1 (.s 8), none⟩,
 ⟨some 46, .load none (.s 45), none⟩,
 ⟨some 47, .fld 2 (.s 2), none⟩,
 ⟨some 48, .load none (.s 47), none⟩,
 ⟨some 49, .mov (.s 11), none⟩,
 ⟨some 50, .idxS 1 (.s 48) (.s 49), none⟩,
 ⟨some 51, .load none (.s 50), none⟩,
 ⟨some 52, .bsl 1 1 [(.int .i64 0)] [(0, (.s 51))], none⟩,
 ⟨some 53, .app 1 8 (.s 46) (.s 52), none⟩,
 ⟨some 54, .fld 1 (.s 8), none⟩,
 ⟨none, .store 1 (.s 54) (.s 53), none⟩])
 (.seq (.reg false false [
 ⟨some 55, .mov (.s 10), none⟩,
 ⟨some 56, .mov (.s 6), none⟩,
 ⟨some 57, .bin .gtr (.s 55) (.s 56), none⟩])
 (.cond (.s 57)
 (.reg true false [
 ⟨some 58, .load none (.s 9), none⟩,
 ⟨some 59, .fld 2 (.s 2), none⟩,
 ⟨some 60, .load none (.s 59), none⟩,
 ⟨some 61, .mov (.s 11), none⟩,
 ⟨some 62, .idxS 1 (.s 60) (.s 61), none⟩,
 ⟨some 63, .load none (.s 62), none⟩,
 ⟨some 64, .bin .mul (.s 58) (.s 63), none⟩,
 ⟨none, .store 1 (.s 9) (.s 64), none⟩])
 (.skip))))))
 (.reg false false [
 ⟨some 65, .bin .add (.s 40) (.c (.int .i64 1)), none⟩,
 ⟨some 40, .mov (.s 65), none⟩])))))))
 (.seq (.reg false false [
 ⟨some 66, .fld 2 (.s 5), none⟩,
 ⟨some 67, .load none (.s 66), none⟩,
 ⟨some 68, .len (.s 67), none⟩,
 ⟨some 69, .fld 0 (.s 5), none⟩,
 ⟨some 70, .load none (.s 69), none⟩,
 ⟨some 71, .bin .mul (.s 68) (.s 70), none⟩,
 ⟨some 72, .mk 1 8 [(.int .i64 0)] (.s 71) (.s 71), none⟩,
 ⟨some 73, .fld 2 (.s 8), none⟩,
 ⟨none, .store 1 (.s 73) (.s 72), none⟩])
 (.seq (.seq (.reg false false [
 ⟨some 74, .load (some 3) (.s 5), none⟩,
 ⟨some 75, .call 215 [(.s 74)], none⟩])
 (.block 2 (.rfunc (.s 75) [76, 77] (.seq (.reg false false [
 ⟨some 12, .mov (.s 76), none⟩])
 (.reg false false [
 ⟨some 13, .mov (.s 77), none⟩]))
 (.block 3 (.seq (.reg false false [
 ⟨some 78, .mov (.s 13), none⟩,
 ⟨some 79, .len (.s 78), none⟩,
 ⟨some 80, .mov (.c (.int .i64 0)), none⟩])
 (.block 4 (.loop (.seq (.reg false false [
 ⟨some 81, .bin .lss (.s 80) (.s 79), none⟩])
 (.seq (.cond (.s 81)
 (.skip)
 (.exit 4))
 (.seq (.block 5 (.seq (.reg false false [
 ⟨some 82, .mov (.s 80), none⟩,
 ⟨some 83, .idxS 1 (.s 78) (.s 80), none⟩,
 ⟨some 84, .load none (.s 83), none⟩,
 ⟨some 14, .mov (.s 82), none⟩,
 ⟨some 15, .mov (.s 84), none⟩])
 (.reg true false [
 ⟨some 85, .fld 2 (.s 8), none⟩,
 ⟨some 86, .load none (.s 85), none⟩,
 ⟨some 87, .mov (.s 12), none⟩,
 ⟨some 88, .load none (.s 9), none⟩,
 ⟨some 89, .bin .quo (.s 87) (.s 88), none⟩,
 ⟨some 90, .fld 0 (.s 5), none⟩,
 ⟨some 91, .load none (.s 90), none⟩,
 ⟨some 92, .bin .mul (.s 89) (.s 91), none⟩,
 ⟨some 93, .mov (.s 14), none⟩,
 ⟨some 94, .bin .add (.s 92) (.s 93), none⟩,
 ⟨some 95, .load none (.s 9), none⟩,
 ⟨some 96, .bin .mul (.s 94) (.s 95), none⟩,
 ⟨some 97, .mov (.s 12), none⟩,
 ⟨some 98, .load none (.s 9), none⟩,
 ⟨some 99, .bin .rem (.s 97) (.s 98), none⟩,
 ⟨some 100, .bin .add (.s 96) (.s 99), none⟩,
 ⟨some 101, .mov (.s 15), none⟩,
 ⟨some 102, .idxS 1 (.s 86) (.s 100), none⟩,
 ⟨none, .store 1 (.s 102) (.s 101), none⟩])))
 (.reg false false [
 ⟨some 103, .bin .add (.s 80) (.c (.int .i64 1)), none⟩,
 ⟨some 80, .mov (.s 103), none⟩])))))))))))
 (.seq (.reg false false [
 ⟨some 104, .load (some 3) (.s 8), none⟩,
 ⟨none, .store 3 (.s 4) (.s 104), none⟩])
 (.ret))))))))),
  [.cell 4 (some 3)], false⟩
theorem fn151_ok : FnOk Try.prog 151 fn151 := by unfold FnOk; kernel_rfl
/-- (haruspex/net.network).moral -/
def fn153 : Mx.Fn := ⟨47,
 .seq (.reg false false [
 ⟨some 1, .box (.s 0), none⟩,
 ⟨some 2, .mov (.c (.slice none 0 0)), none⟩])
 (.seq (.reg false false [
 ⟨some 8, .fld 3 (.s 1), none⟩,
 ⟨some 9, .load none (.s 8), none⟩,
 ⟨some 10, .len (.s 9), none⟩,
 ⟨some 11, .mk 1 8 [(.int .u64 0)] (.s 10) (.s 10), none⟩,
 ⟨some 3, .mov (.s 11), none⟩])
 (.seq (.seq (.reg false false [
 ⟨some 12, .fld 3 (.s 1), none⟩,
 ⟨some 13, .load none (.s 12), none⟩,
 ⟨some 14, .len (.s 13), none⟩,
 ⟨some 15, .mov (.c (.int .i64 0)), none⟩])
 (.block 0 (.loop (.seq (.reg false false [
 ⟨some 16, .bin .lss (.s 15) (.s 14), none⟩])
 (.seq (.cond (.s 16)
 (.skip)
 (.exit 0))
 (.seq (.block 1 (.seq (.reg false false [
 ⟨some 17, .mov (.s 15), none⟩,
 ⟨some 18, .idxS 1 (.s 13) (.s 15), none⟩,
 ⟨some 19, .load none (.s 18), none⟩,
 ⟨some 4, .mov (.s 17), none⟩,
 ⟨some 5, .mov (.s 19), none⟩])
 (.seq (.reg false false [
 ⟨some 20, .mov (.s 5), none⟩,
 ⟨some 21, .mov (.s 4), none⟩,
 ⟨some 22, .bin .shl (.c (.int .u64 1)) (.s 21), none⟩,
 ⟨some 23, .bin .or (.s 20) (.s 22), none⟩,
 ⟨some 6, .mov (.s 23), none⟩])
 (.seq (.reg false false [
 ⟨some 24, .mov (.s 3), none⟩,
 ⟨some 25, .len (.s 24), none⟩,
 ⟨some 26, .mov (.c (.int .i64 0)), none⟩])
 (.block 2 (.loop (.seq (.reg false false [
 ⟨some 27, .bin .lss (.s 26) (.s 25), none⟩])
 (.seq (.cond (.s 27)
 (.skip)
 (.exit 2))
 (.seq (.block 3 (.seq (.reg false false [
 ⟨some 28, .mov (.s 26), none⟩,
 ⟨some 7, .mov (.s 28), none⟩])
 (.seq (.reg false false [
 ⟨some 29, .mov (.s 6), none⟩,
 ⟨some 30, .mov (.s 7), none⟩,
 ⟨some 31, .bin .shr (.s 29) (.s 30), none⟩,
 ⟨some 32, .bin .and (.s 31) (.c (.int .u64 1)), none⟩,
 ⟨some 33, .bin .eql (.s 32) (.c (.int .u64 1)), none⟩])
 (.cond (.s 33)
 (.reg true false [
 ⟨some 34, .mov (.s 3), none⟩,
 ⟨some 35, .mov (.s 7), none⟩,
 ⟨some 36, .idxS 1 (.s 34) (.s 35), none⟩,
 ⟨some 37, .load none (.s 36), none⟩,
 ⟨some 38, .mov (.s 6), none⟩,
 ⟨some 39, .mov (.s 7), none⟩,
 ⟨some 40, .bin .shl (.c (.int .u64 1)) (.s 39), none⟩,
 ⟨some 41, .bin .andNot (.s 38) (.s 40), none⟩,
 ⟨some 42, .bin .or (.s 37) (.s 41), none⟩,
 ⟨some 43, .idxS 1 (.s 34) (.s 35), none⟩,
 ⟨none, .store 1 (.s 43) (.s 42), none⟩])
 (.skip)))))
 (.reg false false [
 ⟨some 44, .bin .add (.s 26) (.c (.int .i64 1)), none⟩,
 ⟨some 26, .mov (.s 44), none⟩]))))))))))
 (.reg false false [
 ⟨some 45, .bin .add (.s 15) (.c (.int .i64 1)), none⟩,
 ⟨some 15, .mov (.s 45), none⟩])))))))
 (.seq (.reg false false [
 ⟨some 46, .mov (.s 3), none⟩,
 ⟨some 2, .mov (.s 46), none⟩])
 (.ret)))),
  [.tmp 2], false⟩
theorem fn153_ok : FnOk Try.prog 153 fn153 := by unfold FnOk; kernel_rfl
/-- haruspex/net.closure -/
def fn154 : Mx.Fn := ⟨12,
 .seq (.reg false false [
 ⟨some 2, .box (.s 0), none⟩,
 ⟨some 4, .mov (.c (.int .u64 0)), none⟩])
 (.seq (.reg false false [
 ⟨some 5, .alloc [(.int .u64 0)], none⟩,
 ⟨none, .store 1 (.s 5) (.c (.int .u64 0)), none⟩])
 (.seq (.reg false false [
 ⟨some 6, .alloc [.nilFunc], none⟩])
 (.seq (.reg false false [
 ⟨some 7, .clo 216 [] [(.s 2), (.s 5), (.s 6)], none⟩,
 ⟨none, .store 1 (.s 6) (.s 7), none⟩])
 (.seq (.reg false false [
 ⟨some 8, .load none (.s 6), none⟩,
 ⟨some 9, .mov (.s 1), none⟩,
 ⟨some 10, .callv (.s 8) [(.s 9)], none⟩])
 (.seq (.reg false false [
 ⟨some 11, .load none (.s 5), none⟩,
 ⟨some 4, .mov (.s 11), none⟩])
 (.ret)))))),
  [.tmp 4], true⟩
theorem fn154_ok : FnOk Try.prog 154 fn154 := by unfold FnOk; kernel_rfl
/-- haruspex/index.Size -/
def fn160 : Mx.Fn := ⟨14,
 .seq (.reg false false [
 ⟨some 2, .mov (.c (.int .i64 0)), none⟩,
 ⟨some 3, .mov (.c (.int .i64 0)), none⟩])
 (.seq (.reg false false [
 ⟨some 7, .mov (.s 0), none⟩,
 ⟨some 8, .call 208 [(.s 7)], none⟩,
 ⟨some 6, .mov (.s 8), none⟩,
 ⟨some 9, .ext (.s 6) 0, none⟩,
 ⟨some 10, .ext (.s 6) 1, none⟩,
 ⟨some 4, .mov (.s 9), none⟩,
 ⟨some 5, .mov (.s 10), none⟩])
 (.seq (.seq (.reg false false [
 ⟨some 11, .mov (.s 5), none⟩,
 ⟨some 12, .un .not (.s 11), none⟩])
 (.cond (.s 12)
 (.seq (.reg false false [
 ⟨some 2, .mov (.c (.int .i64 0)), none⟩,
 ⟨some 3, .mov (.c (.int .i64 20)), none⟩])
 (.ret))
 (.skip)))
 (.seq (.reg false false [
 ⟨some 13, .mov (.s 4), none⟩,
 ⟨some 2, .mov (.s 13), none⟩,
 ⟨some 3, .mov (.c (.int .i64 0)), none⟩])
 (.ret)))),
  [.tmp 2, .tmp 3], true⟩
theorem fn160_ok : FnOk Try.prog 160 fn160 := by unfold FnOk; kernel_rfl
/-- haruspex/haruspexlaw05.is[int]$1 -/
def fn167 : Mx.Fn := ⟨13,
 .seq (.reg false false [
 ⟨some 5, .mov (.c (.bool false)), none⟩])
 (.seq (.reg false false [
 ⟨some 6, .mov (.s 0), none⟩,
 ⟨some 7, .load none (.s 2), none⟩,
 ⟨some 8, .bin .eql (.s 6) (.s 7), none⟩,
 ⟨some 9, .mov (.s 8), none⟩,
 ⟨some 10, .mov (.s 1), some (9, true)⟩,
 ⟨some 11, .bin .eql (.s 10) (.c (.int .i64 0)), some (9, true)⟩,
 ⟨some 12, .pick (.s 9) (.s 11) (.c (.bool false)), none⟩,
 ⟨some 5, .mov (.s 12), none⟩])
 (.ret)),
  [.tmp 5], false⟩
theorem fn167_ok : FnOk Try.prog 167 fn167 := by unfold FnOk; kernel_rfl
/-- haruspex/haruspexlaw05.are[int]$1 -/
def fn168 : Mx.Fn := ⟨13,
 .seq (.reg false false [
 ⟨some 5, .mov (.c (.bool false)), none⟩])
 (.seq (.reg false false [
 ⟨some 6, .mov (.s 1), none⟩,
 ⟨some 7, .bin .eql (.s 6) (.c (.int .i64 0)), none⟩,
 ⟨some 8, .mov (.s 7), none⟩,
 ⟨some 9, .mov (.s 0), some (8, true)⟩,
 ⟨some 10, .load none (.s 2), some (8, true)⟩,
 ⟨some 11, .call 110 [(.s 9), (.s 10)], some (8, true)⟩,
 ⟨some 12, .pick (.s 8) (.s 11) (.c (.bool false)), none⟩,
 ⟨some 5, .mov (.s 12), none⟩])
 (.ret)),
  [.tmp 5], false⟩
theorem fn168_ok : FnOk Try.prog 168 fn168 := by unfold FnOk; kernel_rfl
/-- haruspex/haruspexlaw05.are[uint]$1 -/
def fn201 : Mx.Fn := ⟨13,
 .seq (.reg false false [
 ⟨some 5, .mov (.c (.bool false)), none⟩])
 (.seq (.reg false false [
 ⟨some 6, .mov (.s 1), none⟩,
 ⟨some 7, .bin .eql (.s 6) (.c (.int .i64 0)), none⟩,
 ⟨some 8, .mov (.s 7), none⟩,
 ⟨some 9, .mov (.s 0), some (8, true)⟩,
 ⟨some 10, .load none (.s 2), some (8, true)⟩,
 ⟨some 11, .call 202 [(.s 9), (.s 10)], some (8, true)⟩,
 ⟨some 12, .pick (.s 8) (.s 11) (.c (.bool false)), none⟩,
 ⟨some 5, .mov (.s 12), none⟩])
 (.ret)),
  [.tmp 5], false⟩
theorem fn201_ok : FnOk Try.prog 201 fn201 := by unfold FnOk; kernel_rfl
/-- slices.Equal[[]uint,uint] -/
def fn202 : Mx.Fn := ⟨26,
 .seq (.reg false false [
 ⟨some 4, .mov (.c (.bool false)), none⟩])
 (.seq (.seq (.reg false false [
 ⟨some 6, .mov (.s 0), none⟩,
 ⟨some 7, .len (.s 6), none⟩,
 ⟨some 8, .mov (.s 1), none⟩,
 ⟨some 9, .len (.s 8), none⟩,
 ⟨some 10, .bin .neq (.s 7) (.s 9), none⟩])
 (.cond (.s 10)
 (.seq (.reg false false [
 ⟨some 4, .mov (.c (.bool false)), none⟩])
 (.ret))
 (.skip)))
 (.seq (.seq (.reg false false [
 ⟨some 11, .mov (.s 0), none⟩,
 ⟨some 12, .len (.s 11), none⟩,
 ⟨some 13, .mov (.c (.int .i64 0)), none⟩])
 (.block 0 (.loop (.seq (.reg false false [
 ⟨some 14, .bin .lss (.s 13) (.s 12), none⟩])
 (.seq (.cond (.s 14)
 (.skip)
 (.exit 0))
 (.seq (.block 1 (.seq (.reg false false [
 ⟨some 15, .mov (.s 13), none⟩,
 ⟨some 5, .mov (.s 15), none⟩])
 (.seq (.reg true false [
 ⟨some 16, .mov (.s 0), none⟩,
 ⟨some 17, .mov (.s 5), none⟩,
 ⟨some 18, .idxS 1 (.s 16) (.s 17), none⟩,
 ⟨some 19, .load none (.s 18), none⟩,
 ⟨some 20, .mov (.s 1), none⟩,
 ⟨some 21, .mov (.s 5), none⟩,
 ⟨some 22, .idxS 1 (.s 20) (.s 21), none⟩,
 ⟨some 23, .load none (.s 22), none⟩,
 ⟨some 24, .bin .neq (.s 19) (.s 23), none⟩])
 (.cond (.s 24)
 (.seq (.reg false false [
 ⟨some 4, .mov (.c (.bool false)), none⟩])
 (.ret))
 (.skip)))))
 (.reg false false [
 ⟨some 25, .bin .add (.s 13) (.c (.int .i64 1)), none⟩,
 ⟨some 13, .mov (.s 25), none⟩])))))))
 (.seq (.reg false false [
 ⟨some 4, .mov (.c (.bool true)), none⟩])
 (.ret)))),
  [.tmp 4], true⟩
theorem fn202_ok : FnOk Try.prog 202 fn202 := by unfold FnOk; kernel_rfl
/-- haruspex/haruspexlaw05.is[uint]$1 -/
def fn203 : Mx.Fn := ⟨13,
 .seq (.reg false false [
 ⟨some 5, .mov (.c (.bool false)), none⟩])
 (.seq (.reg false false [
 ⟨some 6, .mov (.s 0), none⟩,
 ⟨some 7, .load none (.s 2), none⟩,
 ⟨some 8, .bin .eql (.s 6) (.s 7), none⟩,
 ⟨some 9, .mov (.s 8), none⟩,
 ⟨some 10, .mov (.s 1), some (9, true)⟩,
 ⟨some 11, .bin .eql (.s 10) (.c (.int .i64 0)), some (9, true)⟩,
 ⟨some 12, .pick (.s 9) (.s 11) (.c (.bool false)), none⟩,
 ⟨some 5, .mov (.s 12), none⟩])
 (.ret)),
  [.tmp 5], false⟩
theorem fn203_ok : FnOk Try.prog 203 fn203 := by unfold FnOk; kernel_rfl
/-- haruspex/haruspexlaw05.fails[int]$1 -/
def fn204 : Mx.Fn := ⟨15,
 .seq (.reg false false [
 ⟨some 5, .mov (.c (.bool false)), none⟩])
 (.seq (.reg false false [
 ⟨some 6, .mov (.c (.int .i64 0)), none⟩])
 (.seq (.reg false false [
 ⟨some 7, .mov (.s 0), none⟩,
 ⟨some 8, .mov (.s 6), none⟩,
 ⟨some 9, .bin .eql (.s 7) (.s 8), none⟩,
 ⟨some 10, .mov (.s 9), none⟩,
 ⟨some 11, .mov (.s 1), some (10, true)⟩,
 ⟨some 12, .load none (.s 2), some (10, true)⟩,
 ⟨some 13, .bin .eql (.s 11) (.s 12), some (10, true)⟩,
 ⟨some 14, .pick (.s 10) (.s 13) (.c (.bool false)), none⟩,
 ⟨some 5, .mov (.s 14), none⟩])
 (.ret))),
  [.tmp 5], false⟩
theorem fn204_ok : FnOk Try.prog 204 fn204 := by unfold FnOk; kernel_rfl
/-- haruspex/haruspexlaw05.fails[uint]$1 -/
def fn205 : Mx.Fn := ⟨15,
 .seq (.reg false false [
 ⟨some 5, .mov (.c (.bool false)), none⟩])
 (.seq (.reg false false [
 ⟨some 6, .mov (.c (.int .u64 0)), none⟩])
 (.seq (.reg false false [
 ⟨some 7, .mov (.s 0), none⟩,
 ⟨some 8, .mov (.s 6), none⟩,
 ⟨some 9, .bin .eql (.s 7) (.s 8), none⟩,
 ⟨some 10, .mov (.s 9), none⟩,
 ⟨some 11, .mov (.s 1), some (10, true)⟩,
 ⟨some 12, .load none (.s 2), some (10, true)⟩,
 ⟨some 13, .bin .eql (.s 11) (.s 12), some (10, true)⟩,
 ⟨some 14, .pick (.s 10) (.s 13) (.c (.bool false)), none⟩,
 ⟨some 5, .mov (.s 14), none⟩])
 (.ret))),
  [.tmp 5], false⟩
theorem fn205_ok : FnOk Try.prog 205 fn205 := by unfold FnOk; kernel_rfl
/-- (haruspex/net.network).filled -/
def fn206 : Mx.Fn := ⟨66,
 .seq (.reg false false [
 ⟨some 2, .box (.s 0), none⟩,
 ⟨some 3, .box (.s 1), none⟩,
 ⟨some 4, .alloc [(.bool false)], none⟩])
 (.seq (.reg false false [
 ⟨some 5, .mov (.c (.int .i64 1)), none⟩])
 (.seq (.seq (.reg false false [
 ⟨some 13, .fld 1 (.s 3), none⟩,
 ⟨some 14, .load none (.s 13), none⟩,
 ⟨some 15, .len (.s 14), none⟩,
 ⟨some 16, .mov (.c (.int .i64 0)), none⟩])
 (.block 0 (.loop (.seq (.reg false false [
 ⟨some 17, .bin .lss (.s 16) (.s 15), none⟩])
 (.seq (.cond (.s 17)
 (.skip)
 (.exit 0))
 (.seq (.block 1 (.seq (.reg false false [
 ⟨some 18, .idxS 1 (.s 14) (.s 16), none⟩,
 ⟨some 19, .load none (.s 18), none⟩,
 ⟨some 7, .mov (.s 19), none⟩])
 (.reg false false [
 ⟨some 20, .mov (.s 5), none⟩,
 ⟨some 21, .fld 2 (.s 2), none⟩,
 ⟨some 22, .load none (.s 21), none⟩,
 ⟨some 23, .mov (.s 7), none⟩,
 ⟨some 24, .idxS 1 (.s 22) (.s 23), none⟩,
 ⟨some 25, .load none (.s 24), none⟩,
 ⟨some 26, .bin .mul (.s 20) (.s 25), none⟩,
 ⟨some 5, .mov (.s 26), none⟩])))
 (.reg false false [
 ⟨some 27, .bin .add (.s 16) (.c (.int .i64 1)), none⟩,
 ⟨some 16, .mov (.s 27), none⟩])))))))
 (.seq (.seq (.reg false false [
 ⟨some 28, .fld 2 (.s 3), none⟩,
 ⟨some 29, .load none (.s 28), none⟩,
 ⟨some 30, .len (.s 29), none⟩,
 ⟨some 31, .mov (.s 5), none⟩,
 ⟨some 32, .bin .neq (.s 30) (.s 31), none⟩])
 (.cond (.s 32)
 (.seq (.reg false false [
 ⟨none, .store 1 (.s 4) (.c (.bool false)), none⟩])
 (.ret))
 (.skip)))
 (.seq (.seq (.reg false false [
 ⟨some 33, .load (some 3) (.s 3), none⟩,
 ⟨some 34, .call 215 [(.s 33)], none⟩])
 (.block 2 (.rfunc (.s 34) [35, 36] (.reg false false [
 ⟨some 9, .mov (.s 36), none⟩])
 (.block 3 (.seq (.reg false false [
 ⟨some 37, .fld 0 (.s 2), none⟩,
 ⟨some 38, .fld 0 (.s 37), none⟩,
 ⟨some 39, .load none (.s 38), none⟩,
 ⟨some 10, .mov (.s 39), none⟩])
 (.seq (.seq (.reg false false [
 ⟨some 40, .mov (.s 9), none⟩,
 ⟨some 41, .len (.s 40), none⟩,
 ⟨some 42, .mov (.c (.int .i64 0)), none⟩])
 (.block 4 (.loop (.seq (.reg false false [
 ⟨some 43, .bin .lss (.s 42) (.s 41), none⟩])
 (.seq (.cond (.s 43)
 (.skip)
 (.exit 4))
 (.seq (.block 5 (.seq (.reg false false [
 ⟨some 44, .idxS 1 (.s 40) (.s 42), none⟩,
 ⟨some 45, .load none (.s 44), none⟩,
 ⟨some 12, .mov (.s 45), none⟩])
 (.seq (.seq (.reg false false [
 ⟨some 46, .mov (.s 12), none⟩,
 ⟨some 47, .bin .lss (.s 46) (.c (.int .i64 0)), none⟩,
 ⟨some 48, .mov (.s 47), none⟩,
 ⟨some 49, .mov (.s 12), some (48, false)⟩,
 ⟨some 50, .mov (.s 10), some (48, false)⟩,
 ⟨some 51, .bin .gtr (.s 49) (.s 50), some (48, false)⟩,
 ⟨some 52, .pick (.s 48) (.c (.bool true)) (.s 51), none⟩])
 (.cond (.s 52)
 (.seq (.reg false false [
 ⟨none, .store 1 (.s 4) (.c (.bool false)), none⟩])
 (.ret))
 (.skip)))
 (.reg false false [
 ⟨some 53, .mov (.s 10), none⟩,
 ⟨some 54, .mov (.s 12), none⟩,
 ⟨some 55, .bin .sub (.s 53) (.s 54), none⟩,
 ⟨some 10, .mov (.s 55), none⟩]))))
 (.reg false false [
 ⟨some 56, .bin .add (.s 42) (.c (.int .i64 1)), none⟩,
 ⟨some 42, .mov (.s 56), none⟩])))))))
 (.seq (.reg false false [
 ⟨some 57, .mov (.s 9), none⟩,
 ⟨some 58, .len (.s 57), none⟩,
 ⟨some 59, .fld 0 (.s 3), none⟩,
 ⟨some 60, .load none (.s 59), none⟩,
 ⟨some 61, .bin .neq (.s 58) (.s 60), none⟩,
 ⟨some 62, .mov (.s 61), none⟩,
 ⟨some 63, .mov (.s 10), some (62, false)⟩,
 ⟨some 64, .bin .neq (.s 63) (.c (.int .i64 0)), some (62, false)⟩,
 ⟨some 65, .pick (.s 62) (.c (.bool true)) (.s 64), none⟩])
 (.cond (.s 65)
 (.seq (.reg false false [
 ⟨none, .store 1 (.s 4) (.c (.bool false)), none⟩])
 (.ret))
 (.skip)))))))))
 (.seq (.reg false false [
 ⟨none, .store 1 (.s 4) (.c (.bool true)), none⟩])
 (.ret)))))),
  [.cell 4 none], true⟩
theorem fn206_ok : FnOk Try.prog 206 fn206 := by unfold FnOk; kernel_rfl
/-- haruspex/net.sorted -/
def fn207 : Mx.Fn := ⟨44,
 .seq (.reg false false [
 ⟨some 2, .mov (.c (.slice none 0 0)), none⟩,
 ⟨some 3, .mov (.c (.bool false)), none⟩])
 (.scope (.seq (.reg false false [
 ⟨some 8, .mov (.s 0), none⟩,
 ⟨some 9, .len (.s 8), none⟩,
 ⟨some 10, .mk 1 8 [(.int .i64 0)] (.c (.int .i64 0)) (.s 9), none⟩,
 ⟨some 4, .mov (.s 10), none⟩,
 ⟨some 5, .mov (.c (.int .u64 0)), none⟩])
 (.seq (.label 0)
 (.seq (.block 0 (.loop (.seq (.seq (.reg false false [
 ⟨some 11, .mov (.s 4), none⟩,
 ⟨some 12, .len (.s 11), none⟩,
 ⟨some 13, .mov (.s 0), none⟩,
 ⟨some 14, .len (.s 13), none⟩,
 ⟨some 15, .bin .lss (.s 12) (.s 14), none⟩])
 (.cond (.s 15)
 (.skip)
 (.exit 0)))
 (.block 1 (.seq (.seq (.reg false false [
 ⟨some 16, .mov (.s 0), none⟩,
 ⟨some 17, .len (.s 16), none⟩,
 ⟨some 18, .mov (.c (.int .i64 0)), none⟩])
 (.block 2 (.loop (.seq (.reg false false [
 ⟨some 19, .bin .lss (.s 18) (.s 17), none⟩])
 (.seq (.cond (.s 19)
 (.skip)
 (.exit 2))
 (.seq (.block 3 (.seq (.reg false false [
 ⟨some 20, .mov (.s 18), none⟩,
 ⟨some 21, .idxS 1 (.s 16) (.s 18), none⟩,
 ⟨some 22, .load none (.s 21), none⟩,
 ⟨some 6, .mov (.s 20), none⟩,
 ⟨some 7, .mov (.s 22), none⟩])
 (.seq (.reg false false [
 ⟨some 23, .mov (.s 5), none⟩,
 ⟨some 24, .mov (.s 6), none⟩,
 ⟨some 25, .bin .shr (.s 23) (.s 24), none⟩,
 ⟨some 26, .bin .and (.s 25) (.c (.int .u64 1)), none⟩,
 ⟨some 27, .bin .eql (.s 26) (.c (.int .u64 0)), none⟩,
 ⟨some 28, .mov (.s 27), none⟩,
 ⟨some 29, .mov (.s 7), some (28, true)⟩,
 ⟨some 30, .mov (.s 5), some (28, true)⟩,
 ⟨some 31, .bin .andNot (.s 29) (.s 30), some (28, true)⟩,
 ⟨some 32, .bin .eql (.s 31) (.c (.int .u64 0)), some (28, true)⟩,
 ⟨some 33, .pick (.s 28) (.s 32) (.c (.bool false)), none⟩])
 (.cond (.s 33)
 (.seq (.reg false false [
 ⟨some 34, .mov (.s 4), none⟩,
 ⟨some 35, .mov (.s 6), none⟩,
 ⟨some 36, .bsl 1 1 [(.int .i64 0)] [(0, (.s 35))], none⟩,
 ⟨some 37, .app 1 8 (.s 34) (.s 36), none⟩,
 ⟨some 4, .mov (.s 37), none⟩])
 (.seq (.reg false false [
 ⟨some 38, .mov (.s 5), none⟩,
 ⟨some 39, .mov (.s 6), none⟩,
 ⟨some 40, .bin .shl (.c (.int .u64 1)) (.s 39), none⟩,
 ⟨some 41, .bin .or (.s 38) (.s 40), none⟩,
 ⟨some 5, .mov (.s 41), none⟩])
 (.exit 1)))
 (.skip)))))
 (.reg false false [
 ⟨some 42, .bin .add (.s 18) (.c (.int .i64 1)), none⟩,
 ⟨some 18, .mov (.s 42), none⟩])))))))
 (.seq (.reg false false [
 ⟨some 2, .mov (.c (.slice none 0 0)), none⟩,
 ⟨some 3, .mov (.c (.bool false)), none⟩])
 (.ret)))))))
 (.seq (.reg false false [
 ⟨some 43, .mov (.s 4), none⟩,
 ⟨some 2, .mov (.s 43), none⟩,
 ⟨some 3, .mov (.c (.bool true)), none⟩])
 (.ret)))))),
  [.tmp 2, .tmp 3], false⟩
theorem fn207_ok : FnOk Try.prog 207 fn207 := by unfold FnOk; kernel_rfl
/-- haruspex/index.count -/
def fn208 : Mx.Fn := ⟨30,
 .seq (.reg false false [
 ⟨some 2, .mov (.c (.int .i64 0)), none⟩,
 ⟨some 3, .mov (.c (.bool false)), none⟩])
 (.scope (.seq (.seq (.reg false false [
 ⟨some 6, .mov (.s 0), none⟩,
 ⟨some 7, .len (.s 6), none⟩,
 ⟨some 8, .bin .gtr (.s 7) (.c (.int .i64 12)), none⟩])
 (.cond (.s 8)
 (.seq (.reg false false [
 ⟨some 2, .mov (.c (.int .i64 0)), none⟩,
 ⟨some 3, .mov (.c (.bool false)), none⟩])
 (.ret))
 (.skip)))
 (.seq (.reg false false [
 ⟨some 2, .mov (.c (.int .i64 1)), none⟩,
 ⟨some 3, .mov (.c (.bool true)), none⟩])
 (.seq (.label 0)
 (.seq (.seq (.reg false false [
 ⟨some 9, .mov (.s 0), none⟩,
 ⟨some 10, .len (.s 9), none⟩,
 ⟨some 11, .mov (.c (.int .i64 0)), none⟩])
 (.block 0 (.loop (.seq (.reg false false [
 ⟨some 12, .bin .lss (.s 11) (.s 10), none⟩])
 (.seq (.cond (.s 12)
 (.skip)
 (.exit 0))
 (.seq (.block 1 (.seq (.reg false false [
 ⟨some 13, .idxS 1 (.s 9) (.s 11), none⟩,
 ⟨some 14, .load none (.s 13), none⟩,
 ⟨some 5, .mov (.s 14), none⟩])
 (.seq (.block 2 (.seq (.seq (.reg false false [
 ⟨some 16, .mov (.s 5), none⟩,
 ⟨some 17, .bin .lss (.s 16) (.c (.int .i64 1)), none⟩,
 ⟨some 15, .mov (.s 17), none⟩])
 (.cond (.s 15)
 (.skip)
 (.seq (.reg false false [
 ⟨some 18, .mov (.s 5), none⟩,
 ⟨some 19, .bin .gtr (.s 18) (.c (.int .i64 8)), none⟩,
 ⟨some 15, .mov (.s 19), none⟩])
 (.cond (.s 15)
 (.skip)
 (.reg false false [
 ⟨some 20, .mov (.s 2), none⟩,
 ⟨some 21, .mov (.s 5), none⟩,
 ⟨some 22, .bin .mul (.s 20) (.s 21), none⟩,
 ⟨some 23, .bin .gtr (.s 22) (.c (.int .i64 4096)), none⟩,
 ⟨some 15, .mov (.s 23), none⟩])))))
 (.cond (.s 15)
 (.seq (.reg false false [
 ⟨some 2, .mov (.c (.int .i64 0)), none⟩,
 ⟨some 3, .mov (.c (.bool false)), none⟩])
 (.exit 0))
 (.skip))))
 (.reg false false [
 ⟨some 24, .mov (.s 2), none⟩,
 ⟨some 25, .mov (.s 5), none⟩,
 ⟨some 26, .bin .mul (.s 24) (.s 25), none⟩,
 ⟨some 2, .mov (.s 26), none⟩]))))
 (.reg false false [
 ⟨some 27, .bin .add (.s 11) (.c (.int .i64 1)), none⟩,
 ⟨some 11, .mov (.s 27), none⟩])))))))
 (.seq (.reg false false [
 ⟨some 28, .mov (.s 2), none⟩,
 ⟨some 29, .mov (.s 3), none⟩,
 ⟨some 2, .mov (.s 28), none⟩,
 ⟨some 3, .mov (.s 29), none⟩])
 (.ret))))))),
  [.tmp 2, .tmp 3], true⟩
theorem fn208_ok : FnOk Try.prog 208 fn208 := by unfold FnOk; kernel_rfl
/-- haruspex/index.collect[int] -/
def fn209 : Mx.Fn := ⟨18,
 .seq (.reg false false [
 ⟨some 4, .mov (.c (.slice none 0 0)), none⟩])
 (.seq (.reg false false [
 ⟨some 8, .mov (.s 0), none⟩,
 ⟨some 9, .mk 1 8 [(.int .i64 0)] (.s 8) (.s 8), none⟩,
 ⟨some 5, .alloc [(.slice none 0 0)], none⟩,
 ⟨none, .store 1 (.s 5) (.s 9), none⟩])
 (.seq (.seq (.reg false false [
 ⟨some 10, .mov (.s 1), none⟩])
 (.block 0 (.rfunc (.s 10) [11, 12] (.seq (.reg false false [
 ⟨some 6, .mov (.s 11), none⟩])
 (.reg false false [
 ⟨some 7, .mov (.s 12), none⟩]))
 (.block 1 (.reg false false [
 ⟨some 13, .load none (.s 5), none⟩,
 ⟨some 14, .mov (.s 6), none⟩,
 ⟨some 15, .mov (.s 7), none⟩,
 ⟨some 16, .idxS 1 (.s 13) (.s 14), none⟩,
 ⟨none, .store 1 (.s 16) (.s 15), none⟩])))))
 (.seq (.reg false false [
 ⟨some 17, .load none (.s 5), none⟩,
 ⟨some 4, .mov (.s 17), none⟩])
 (.ret)))),
  [.tmp 4], false⟩
theorem fn209_ok : FnOk Try.prog 209 fn209 := by unfold FnOk; kernel_rfl
/-- haruspex/index.values -/
def fn210 : Mx.Fn := ⟨8,
 .seq (.reg false false [
 ⟨some 3, .box (.s 0), none⟩,
 ⟨some 4, .box (.s 1), none⟩,
 ⟨some 5, .box (.s 2), none⟩,
 ⟨some 6, .mov (.c .nilFunc), none⟩])
 (.seq (.reg false false [
 ⟨some 7, .clo 232 [] [(.s 5), (.s 4), (.s 3)], none⟩,
 ⟨some 6, .mov (.s 7), none⟩])
 (.ret)),
  [.tmp 6], false⟩
theorem fn210_ok : FnOk Try.prog 210 fn210 := by unfold FnOk; kernel_rfl
/-- slices.BinarySearch[[]int,int] -/
def fn213 : Mx.Fn := ⟨54,
 .seq (.reg false false [
 ⟨some 4, .mov (.c (.int .i64 0)), none⟩,
 ⟨some 5, .mov (.c (.bool false)), none⟩])
 (.seq (.reg false false [
 ⟨some 10, .mov (.s 0), none⟩,
 ⟨some 11, .len (.s 10), none⟩,
 ⟨some 6, .mov (.s 11), none⟩])
 (.seq (.reg false false [
 ⟨some 12, .mov (.s 6), none⟩,
 ⟨some 7, .mov (.c (.int .i64 0)), none⟩,
 ⟨some 8, .mov (.s 12), none⟩])
 (.seq (.block 0 (.loop (.seq (.seq (.reg false false [
 ⟨some 13, .mov (.s 7), none⟩,
 ⟨some 14, .mov (.s 8), none⟩,
 ⟨some 15, .bin .lss (.s 13) (.s 14), none⟩])
 (.cond (.s 15)
 (.skip)
 (.exit 0)))
 (.block 1 (.seq (.reg false false [
 ⟨some 16, .mov (.s 7), none⟩,
 ⟨some 17, .mov (.s 8), none⟩,
 ⟨some 18, .bin .add (.s 16) (.s 17), none⟩,
 ⟨some 19, .conv .u64 (.s 18), none⟩,
 ⟨some 20, .bin .shr (.s 19) (.c (.int .u64 1)), none⟩,
 ⟨some 21, .conv .i64 (.s 20), none⟩,
 ⟨some 9, .mov (.s 21), none⟩])
 (.seq (.reg false false [
 ⟨some 22, .mov (.s 0), none⟩,
 ⟨some 23, .mov (.s 9), none⟩,
 ⟨some 24, .idxS 1 (.s 22) (.s 23), none⟩,
 ⟨some 25, .load none (.s 24), none⟩,
 ⟨some 26, .mov (.s 1), none⟩,
 ⟨some 27, .call 226 [(.s 25), (.s 26)], none⟩])
 (.cond (.s 27)
 (.reg false false [
 ⟨some 28, .mov (.s 9), none⟩,
 ⟨some 29, .bin .add (.s 28) (.c (.int .i64 1)), none⟩,
 ⟨some 7, .mov (.s 29), none⟩])
 (.reg false false [
 ⟨some 30, .mov (.s 9), none⟩,
 ⟨some 8, .mov (.s 30), none⟩]))))))))
 (.seq (.reg false false [
 ⟨some 31, .mov (.s 7), none⟩,
 ⟨some 32, .mov (.s 7), none⟩,
 ⟨some 33, .mov (.s 6), none⟩,
 ⟨some 34, .bin .lss (.s 32) (.s 33), none⟩,
 ⟨some 35, .mov (.s 34), none⟩,
 ⟨some 36, .mov (.s 0), some (35, true)⟩,
 ⟨some 37, .mov (.s 7), some (35, true)⟩,
 ⟨some 38, .idxS 1 (.s 36) (.s 37), some (35, true)⟩,
 ⟨some 39, .load none (.s 38), some (35, true)⟩,
 ⟨some 40, .mov (.s 1), some (35, true)⟩,
 ⟨some 41, .bin .eql (.s 39) (.s 40), some (35, true)⟩,
 ⟨some 42, .mov (.s 41), some (35, true)⟩,
 ⟨some 43, .mov (.s 0), some (42, false)⟩,
 ⟨some 44, .mov (.s 7), some (42, false)⟩,
 ⟨some 45, .idxS 1 (.s 43) (.s 44), some (42, false)⟩,
 ⟨some 46, .load none (.s 45), some (42, false)⟩,
 ⟨some 47, .call 233 [(.s 46)], some (42, false)⟩,
 ⟨some 48, .mov (.s 47), some (42, false)⟩,
 ⟨some 49, .mov (.s 1), some (48, true)⟩,
 ⟨some 50, .call 233 [(.s 49)], some (48, true)⟩,
 ⟨some 51, .pick (.s 48) (.s 50) (.c (.bool false)), some (42, false)⟩,
 ⟨some 52, .pick (.s 42) (.c (.bool true)) (.s 51), some (35, true)⟩,
 ⟨some 53, .pick (.s 35) (.s 52) (.c (.bool false)), none⟩,
 ⟨some 4, .mov (.s 31), none⟩,
 ⟨some 5, .mov (.s 53), none⟩])
 (.ret))))),
  [.tmp 4, .tmp 5], true⟩
theorem fn213_ok : FnOk Try.prog 213 fn213 := by unfold FnOk; kernel_rfl
/-- slices.Insert[[]int,int] -/
def fn214 : Mx.Fn := ⟨95,
 .seq (.reg false false [
 ⟨some 6, .mov (.c (.slice none 0 0)), none⟩])
 (.seq (.reg false false [
 ⟨some 10, .mov (.s 0), none⟩,
 ⟨some 11, .mov (.s 1), none⟩,
 ⟨some 12, .slc 1 (.s 10) (some (.s 11)) none none, none⟩])
 (.seq (.reg false false [
 ⟨some 13, .mov (.s 2), none⟩,
 ⟨some 14, .len (.s 13), none⟩,
 ⟨some 7, .mov (.s 14), none⟩])
 (.seq (.seq (.reg false false [
 ⟨some 15, .mov (.s 7), none⟩,
 ⟨some 16, .bin .eql (.s 15) (.c (.int .i64 0)), none⟩])
 (.cond (.s 16)
 (.seq (.reg false false [
 ⟨some 17, .mov (.s 0), none⟩,
 ⟨some 6, .mov (.s 17), none⟩])
 (.ret))
 (.skip)))
 (.seq (.reg false false [
 ⟨some 18, .mov (.s 0), none⟩,
 ⟨some 19, .len (.s 18), none⟩,
 ⟨some 8, .mov (.s 19), none⟩])
 (.seq (.seq (.reg false false [
 ⟨some 20, .mov (.s 1), none⟩,
 ⟨some 21, .mov (.s 8), none⟩,
 ⟨some 22, .bin .eql (.s 20) (.s 21), none⟩])
 (.cond (.s 22)
 (.seq (.reg false false [
 ⟨some 23, .mov (.s 0), none⟩,
 ⟨some 24, .mov (.s 2), none⟩,
 ⟨some 25, .app 1 8 (.s 23) (.s 24), none⟩,
 ⟨some 6, .mov (.s 25), none⟩])
 (.ret))
 (.skip)))
 (.seq (.seq (.reg false false [
 ⟨some 26, .mov (.s 8), none⟩,
 ⟨some 27, .mov (.s 7), none⟩,
 ⟨some 28, .bin .add (.s 26) (.s 27), none⟩,
 ⟨some 29, .mov (.s 0), none⟩,
 ⟨some 30, .bad, none⟩,
 ⟨some 31, .bin .gtr (.s 28) (.s 30), none⟩])
 (.cond (.s 31)
 (.seq (.reg false false [
 ⟨some 32, .mov (.s 0), none⟩,
 ⟨some 33, .mov (.s 1), none⟩,
 ⟨some 34, .slc 1 (.s 32) none (some (.s 33)) none, none⟩,
 ⟨some 35, .mov (.s 8), none⟩,
 ⟨some 36, .mov (.s 7), none⟩,
 ⟨some 37, .bin .add (.s 35) (.s 36), none⟩,
 ⟨some 38, .mov (.s 1), none⟩,
 ⟨some 39, .bin .sub (.s 37) (.s 38), none⟩,
 ⟨some 40, .bad, none⟩,
 ⟨some 9, .mov (.s 40), none⟩])
 (.seq (.reg false false [
 ⟨some 41, .mov (.s 9), none⟩,
 ⟨some 42, .mov (.s 1), none⟩,
 ⟨some 43, .slc 1 (.s 41) (some (.s 42)) none none, none⟩,
 ⟨some 44, .mov (.s 2), none⟩,
 ⟨some 45, .copy 1 (.s 43) (.s 44), none⟩])
 (.seq (.reg true false [
 ⟨some 46, .mov (.s 9), none⟩,
 ⟨some 47, .mov (.s 1), none⟩,
 ⟨some 48, .mov (.s 7), none⟩,
 ⟨some 49, .bin .add (.s 47) (.s 48), none⟩,
 ⟨some 50, .slc 1 (.s 46) (some (.s 49)) none none, none⟩,
 ⟨some 51, .mov (.s 0), none⟩,
 ⟨some 52, .mov (.s 1), none⟩,
 ⟨some 53, .slc 1 (.s 51) (some (.s 52)) none none, none⟩,
 ⟨some 54, .copy 1 (.s 50) (.s 53), none⟩])
 (.seq (.reg false false [
 ⟨some 55, .mov (.s 9), none⟩,
 ⟨some 6, .mov (.s 55), none⟩])
 (.ret)))))
 (.skip)))
 (.seq (.reg false false [
 ⟨some 56, .mov (.s 0), none⟩,
 ⟨some 57, .mov (.s 8), none⟩,
 ⟨some 58, .mov (.s 7), none⟩,
 ⟨some 59, .bin .add (.s 57) (.s 58), none⟩,
 ⟨some 60, .slc 1 (.s 56) none (some (.s 59)) none, none⟩,
 ⟨some 0, .mov (.s 60), none⟩])
 (.seq (.seq (.reg false false [
 ⟨some 61, .mov (.s 2), none⟩,
 ⟨some 62, .mov (.s 0), none⟩,
 ⟨some 63, .mov (.s 1), none⟩,
 ⟨some 64, .mov (.s 7), none⟩,
 ⟨some 65, .bin .add (.s 63) (.s 64), none⟩,
 ⟨some 66, .slc 1 (.s 62) (some (.s 65)) none none, none⟩,
 ⟨some 67, .bad, none⟩,
 ⟨some 68, .un .not (.s 67), none⟩])
 (.cond (.s 68)
 (.seq (.reg true false [
 ⟨some 69, .mov (.s 0), none⟩,
 ⟨some 70, .mov (.s 1), none⟩,
 ⟨some 71, .mov (.s 7), none⟩,
 ⟨some 72, .bin .add (.s 70) (.s 71), none⟩,
 ⟨some 73, .slc 1 (.s 69) (some (.s 72)) none none, none⟩,
 ⟨some 74, .mov (.s 0), none⟩,
 ⟨some 75, .mov (.s 1), none⟩,
 ⟨some 76, .slc 1 (.s 74) (some (.s 75)) none none, none⟩,
 ⟨some 77, .copy 1 (.s 73) (.s 76), none⟩])
 (.seq (.reg false false [
 ⟨some 78, .mov (.s 0), none⟩,
 ⟨some 79, .mov (.s 1), none⟩,
 ⟨some 80, .slc 1 (.s 78) (some (.s 79)) none none, none⟩,
 ⟨some 81, .mov (.s 2), none⟩,
 ⟨some 82, .copy 1 (.s 80) (.s 81), none⟩])
 (.seq (.reg false false [
 ⟨some 83, .mov (.s 0), none⟩,
 ⟨some 6, .mov (.s 83), none⟩])
 (.ret))))
 (.skip)))
 (.seq (.reg false false [
 ⟨some 84, .mov (.s 0), none⟩,
 ⟨some 85, .mov (.s 8), none⟩,
 ⟨some 86, .slc 1 (.s 84) (some (.s 85)) none none, none⟩,
 ⟨some 87, .mov (.s 2), none⟩,
 ⟨some 88, .copy 1 (.s 86) (.s 87), none⟩])
 (.seq (.reg false false [
 ⟨some 89, .mov (.s 0), none⟩,
 ⟨some 90, .mov (.s 1), none⟩,
 ⟨some 91, .slc 1 (.s 89) (some (.s 90)) none none, none⟩,
 ⟨some 92, .mov (.s 7), none⟩,
 ⟨some 93, .call 235 [(.s 91), (.s 92)], none⟩])
 (.seq (.reg false false [
 ⟨some 94, .mov (.s 0), none⟩,
 ⟨some 6, .mov (.s 94), none⟩])
 (.ret)))))))))))),
  [.tmp 6], false⟩
theorem fn214_ok : FnOk Try.prog 214 fn214 := by unfold FnOk; kernel_rfl
/-- haruspex/net.rows -/
def fn215 : Mx.Fn := ⟨4,
 .seq (.reg false false [
 ⟨some 1, .box (.s 0), none⟩,
 ⟨some 2, .mov (.c .nilFunc), none⟩])
 (.seq (.reg false false [
 ⟨some 3, .clo 236 [] [(.s 1)], none⟩,
 ⟨some 2, .mov (.s 3), none⟩])
 (.ret)),
  [.tmp 2], false⟩
theorem fn215_ok : FnOk Try.prog 215 fn215 := by unfold FnOk; kernel_rfl
/-- haruspex/net.closure$1 -/
def fn216 : Mx.Fn := ⟨29,
 .seq (.reg false false [
 ⟨some 6, .load none (.s 1), none⟩,
 ⟨some 7, .len (.s 6), none⟩,
 ⟨some 8, .mov (.c (.int .i64 0)), none⟩])
 (.block 0 (.loop (.seq (.reg false false [
 ⟨some 9, .bin .lss (.s 8) (.s 7), none⟩])
 (.seq (.cond (.s 9)
 (.skip)
 (.exit 0))
 (.seq (.block 1 (.seq (.reg false false [
 ⟨some 10, .mov (.s 8), none⟩,
 ⟨some 5, .mov (.s 10), none⟩])
 (.seq (.reg false false [
 ⟨some 11, .mov (.s 0), none⟩,
 ⟨some 12, .load none (.s 2), none⟩,
 ⟨some 13, .bin .andNot (.s 11) (.s 12), none⟩,
 ⟨some 14, .mov (.s 5), none⟩,
 ⟨some 15, .bin .shr (.s 13) (.s 14), none⟩,
 ⟨some 16, .bin .and (.s 15) (.c (.int .u64 1)), none⟩,
 ⟨some 17, .bin .eql (.s 16) (.c (.int .u64 1)), none⟩])
 (.cond (.s 17)
 (.seq (.reg true false [
 ⟨some 18, .load none (.s 2), none⟩,
 ⟨some 19, .mov (.s 5), none⟩,
 ⟨some 20, .bin .shl (.c (.int .u64 1)) (.s 19), none⟩,
 ⟨some 21, .bin .or (.s 18) (.s 20), none⟩,
 ⟨none, .store 1 (.s 2) (.s 21), none⟩])
 (.reg true false [
 ⟨some 22, .load none (.s 3), none⟩,
 ⟨some 23, .load none (.s 1), none⟩,
 ⟨some 24, .mov (.s 5), none⟩,
 ⟨some 25, .idxS 1 (.s 23) (.s 24), none⟩,
 ⟨some 26, .load none (.s 25), none⟩,
 ⟨some 27, .callv (.s 22) [(.s 26)], none⟩]))
 (.skip)))))
 (.reg false false [
 ⟨some 28, .bin .add (.s 8) (.c (.int .i64 1)), none⟩,
 ⟨some 8, .mov (.s 28), none⟩])))))),
  [], false⟩
theorem fn216_ok : FnOk Try.prog 216 fn216 := by unfold FnOk; kernel_rfl
/-- cmp.Less[int] -/
def fn226 : Mx.Fn := ⟨17,
 .seq (.reg false false [
 ⟨some 4, .mov (.c (.bool false)), none⟩])
 (.seq (.reg false false [
 ⟨some 5, .mov (.s 0), none⟩,
 ⟨some 6, .call 242 [(.s 5)], none⟩,
 ⟨some 7, .mov (.s 6), none⟩,
 ⟨some 8, .mov (.s 1), some (7, true)⟩,
 ⟨some 9, .call 242 [(.s 8)], some (7, true)⟩,
 ⟨some 10, .un .not (.s 9), some (7, true)⟩,
 ⟨some 11, .pick (.s 7) (.s 10) (.c (.bool false)), none⟩,
 ⟨some 12, .mov (.s 11), none⟩,
 ⟨some 13, .mov (.s 0), some (12, false)⟩,
 ⟨some 14, .mov (.s 1), some (12, false)⟩,
 ⟨some 15, .bin .lss (.s 13) (.s 14), some (12, false)⟩,
 ⟨some 16, .pick (.s 12) (.c (.bool true)) (.s 15), none⟩,
 ⟨some 4, .mov (.s 16), none⟩])
 (.ret)),
  [.tmp 4], true⟩
theorem fn226_ok : FnOk Try.prog 226 fn226 := by unfold FnOk; kernel_rfl
/-- haruspex/index.values$1 -/
def fn232 : Mx.Fn := ⟨32,
 .seq (.reg true false [
 ⟨some 9, .load none (.s 1), none⟩,
 ⟨some 10, .load none (.s 2), none⟩,
 ⟨some 5, .mov (.s 9), none⟩,
 ⟨some 6, .mov (.s 10), none⟩])
 (.seq (.reg false false [
 ⟨some 11, .load none (.s 3), none⟩,
 ⟨some 12, .len (.s 11), none⟩,
 ⟨some 13, .mov (.c (.int .i64 0)), none⟩])
 (.block 0 (.loop (.seq (.reg false false [
 ⟨some 14, .bin .lss (.s 13) (.s 12), none⟩])
 (.seq (.cond (.s 14)
 (.skip)
 (.exit 0))
 (.seq (.block 1 (.seq (.reg false false [
 ⟨some 15, .mov (.s 13), none⟩,
 ⟨some 16, .idxS 1 (.s 11) (.s 13), none⟩,
 ⟨some 17, .load none (.s 16), none⟩,
 ⟨some 7, .mov (.s 15), none⟩,
 ⟨some 8, .mov (.s 17), none⟩])
 (.seq (.reg false false [
 ⟨some 18, .mov (.s 6), none⟩,
 ⟨some 19, .mov (.s 8), none⟩,
 ⟨some 20, .bin .quo (.s 18) (.s 19), none⟩,
 ⟨some 6, .mov (.s 20), none⟩])
 (.seq (.seq (.reg false false [
 ⟨some 21, .mov (.s 0), none⟩,
 ⟨some 22, .mov (.s 7), none⟩,
 ⟨some 23, .mov (.s 5), none⟩,
 ⟨some 24, .mov (.s 6), none⟩,
 ⟨some 25, .bin .quo (.s 23) (.s 24), none⟩,
 ⟨some 26, .callv (.s 21) [(.s 22), (.s 25)], none⟩,
 ⟨some 27, .un .not (.s 26), none⟩])
 (.cond (.s 27)
 (.ret)
 (.skip)))
 (.reg false false [
 ⟨some 28, .mov (.s 5), none⟩,
 ⟨some 29, .mov (.s 6), none⟩,
 ⟨some 30, .bin .rem (.s 28) (.s 29), none⟩,
 ⟨some 5, .mov (.s 30), none⟩])))))
 (.reg false false [
 ⟨some 31, .bin .add (.s 13) (.c (.int .i64 1)), none⟩,
 ⟨some 13, .mov (.s 31), none⟩]))))))),
  [], false⟩
theorem fn232_ok : FnOk Try.prog 232 fn232 := by unfold FnOk; kernel_rfl
/-- slices.isNaN[int] -/
def fn233 : Mx.Fn := ⟨6,
 .seq (.reg false false [
 ⟨some 2, .mov (.c (.bool false)), none⟩])
 (.seq (.reg false false [
 ⟨some 3, .mov (.s 0), none⟩,
 ⟨some 4, .mov (.s 0), none⟩,
 ⟨some 5, .bin .neq (.s 3) (.s 4), none⟩,
 ⟨some 2, .mov (.s 5), none⟩])
 (.ret)),
  [.tmp 2], true⟩
theorem fn233_ok : FnOk Try.prog 233 fn233 := by unfold FnOk; kernel_rfl
/-- slices.rotateRight[int] -/
def fn235 : Mx.Fn := ⟨10,
 .reg false false [
 ⟨some 4, .mov (.s 0), none⟩,
 ⟨some 5, .mov (.s 0), none⟩,
 ⟨some 6, .len (.s 5), none⟩,
 ⟨some 7, .mov (.s 1), none⟩,
 ⟨some 8, .bin .sub (.s 6) (.s 7), none⟩,
 ⟨some 9, .call 244 [(.s 4), (.s 8)], none⟩],
  [], false⟩
theorem fn235_ok : FnOk Try.prog 235 fn235 := by unfold FnOk; kernel_rfl
/-- haruspex/net.rows$1 -/
def fn236 : Mx.Fn := ⟨19,
 .seq (.reg false false [
 ⟨some 5, .fld 2 (.s 1), none⟩,
 ⟨some 6, .load none (.s 5), none⟩,
 ⟨some 7, .len (.s 6), none⟩,
 ⟨some 8, .mov (.c (.int .i64 0)), none⟩])
 (.block 0 (.loop (.seq (.reg false false [
 ⟨some 9, .bin .lss (.s 8) (.s 7), none⟩])
 (.seq (.cond (.s 9)
 (.skip)
 (.exit 0))
 (.seq (.block 1 (.seq (.reg false false [
 ⟨some 10, .mov (.s 8), none⟩,
 ⟨some 11, .idxS 1 (.s 6) (.s 8), none⟩,
 ⟨some 12, .load none (.s 11), none⟩,
 ⟨some 3, .mov (.s 10), none⟩,
 ⟨some 4, .mov (.s 12), none⟩])
 (.seq (.reg false false [
 ⟨some 13, .mov (.s 0), none⟩,
 ⟨some 14, .mov (.s 3), none⟩,
 ⟨some 15, .mov (.s 4), none⟩,
 ⟨some 16, .callv (.s 13) [(.s 14), (.s 15)], none⟩,
 ⟨some 17, .un .not (.s 16), none⟩])
 (.cond (.s 17)
 (.ret)
 (.skip)))))
 (.reg false false [
 ⟨some 18, .bin .add (.s 8) (.c (.int .i64 1)), none⟩,
 ⟨some 8, .mov (.s 18), none⟩])))))),
  [], false⟩
theorem fn236_ok : FnOk Try.prog 236 fn236 := by unfold FnOk; kernel_rfl
/-- cmp.isNaN[int] -/
def fn242 : Mx.Fn := ⟨6,
 .seq (.reg false false [
 ⟨some 2, .mov (.c (.bool false)), none⟩])
 (.seq (.reg false false [
 ⟨some 3, .mov (.s 0), none⟩,
 ⟨some 4, .mov (.s 0), none⟩,
 ⟨some 5, .bin .neq (.s 3) (.s 4), none⟩,
 ⟨some 2, .mov (.s 5), none⟩])
 (.ret)),
  [.tmp 2], true⟩
theorem fn242_ok : FnOk Try.prog 242 fn242 := by unfold FnOk; kernel_rfl
/-- slices.rotateLeft[int] -/
def fn244 : Mx.Fn := ⟨14,
 .seq (.reg false false [
 ⟨some 4, .mov (.s 0), none⟩,
 ⟨some 5, .mov (.s 1), none⟩,
 ⟨some 6, .slc 1 (.s 4) none (some (.s 5)) none, none⟩,
 ⟨some 7, .call 246 [(.s 6)], none⟩])
 (.seq (.reg false false [
 ⟨some 8, .mov (.s 0), none⟩,
 ⟨some 9, .mov (.s 1), none⟩,
 ⟨some 10, .slc 1 (.s 8) (some (.s 9)) none none, none⟩,
 ⟨some 11, .call 246 [(.s 10)], none⟩])
 (.reg false false [
 ⟨some 12, .mov (.s 0), none⟩,
 ⟨some 13, .call 246 [(.s 12)], none⟩])),
  [], false⟩
theorem fn244_ok : FnOk Try.prog 244 fn244 := by unfold FnOk; kernel_rfl
/-- slices.Reverse[[]int,int] -/
def fn246 : Mx.Fn := ⟨28,
 .seq (.reg false false [
 ⟨some 4, .mov (.s 0), none⟩,
 ⟨some 5, .len (.s 4), none⟩,
 ⟨some 6, .bin .sub (.s 5) (.c (.int .i64 1)), none⟩,
 ⟨some 2, .mov (.c (.int .i64 0)), none⟩,
 ⟨some 3, .mov (.s 6), none⟩])
 (.block 0 (.loop (.seq (.seq (.reg false false [
 ⟨some 7, .mov (.s 2), none⟩,
 ⟨some 8, .mov (.s 3), none⟩,
 ⟨some 9, .bin .lss (.s 7) (.s 8), none⟩])
 (.cond (.s 9)
 (.skip)
 (.exit 0)))
 (.seq (.block 1 (.reg true false [
 ⟨some 14, .mov (.s 0), none⟩,
 ⟨some 15, .mov (.s 2), none⟩,
 ⟨some 16, .mov (.s 0), none⟩,
 ⟨some 17, .mov (.s 3), none⟩,
 ⟨some 18, .mov (.s 0), none⟩,
 ⟨some 19, .mov (.s 3), none⟩,
 ⟨some 20, .idxS 1 (.s 18) (.s 19), none⟩,
 ⟨some 21, .load none (.s 20), none⟩,
 ⟨some 22, .mov (.s 0), none⟩,
 ⟨some 23, .mov (.s 2), none⟩,
 ⟨some 24, .idxS 1 (.s 22) (.s 23), none⟩,
 ⟨some 25, .load none (.s 24), none⟩,
 ⟨some 26, .idxS 1 (.s 14) (.s 15), none⟩,
 ⟨none, .store 1 (.s 26) (.s 21), none⟩,
 ⟨some 27, .idxS 1 (.s 16) (.s 17), none⟩,
 ⟨none, .store 1 (.s 27) (.s 25), none⟩]))
 (.reg false false [
 ⟨some 10, .mov (.s 2), none⟩,
 ⟨some 11, .bin .add (.s 10) (.c (.int .i64 1)), none⟩,
 ⟨some 12, .mov (.s 3), none⟩,
 ⟨some 13, .bin .sub (.s 12) (.c (.int .i64 1)), none⟩,
 ⟨some 2, .mov (.s 11), none⟩,
 ⟨some 3, .mov (.s 13), none⟩]))))),
  [], false⟩
theorem fn246_ok : FnOk Try.prog 246 fn246 := by unfold FnOk; kernel_rfl
def tab : List (Nat × Mx.Fn) := [(37, fn37), (41, fn41), (42, fn42), (50, fn50), (51, fn51), (54, fn54), (55, fn55), (56, fn56), (61, fn61), (62, fn62), (63, fn63), (68, fn68), (70, fn70), (71, fn71), (73, fn73), (79, fn79), (80, fn80), (110, fn110), (130, fn130), (131, fn131), (132, fn132), (133, fn133), (134, fn134), (135, fn135), (136, fn136), (137, fn137), (138, fn138), (145, fn145), (146, fn146), (151, fn151), (153, fn153), (154, fn154), (160, fn160), (167, fn167), (168, fn168), (201, fn201), (202, fn202), (203, fn203), (204, fn204), (205, fn205), (206, fn206), (207, fn207), (208, fn208), (209, fn209), (210, fn210), (213, fn213), (214, fn214), (215, fn215), (216, fn216), (226, fn226), (232, fn232), (233, fn233), (235, fn235), (236, fn236), (242, fn242), (244, fn244), (246, fn246)]
theorem tab_ok : ∀ x ∈ tab, FnOk Try.prog x.1 x.2 := by
  intro x hx
  simp only [tab, List.mem_cons, List.not_mem_nil, or_false] at hx
  rcases hx with rfl | rfl | rfl | rfl | rfl | rfl | rfl | rfl | rfl | rfl | rfl | rfl | rfl | rfl | rfl | rfl | rfl | rfl | rfl | rfl | rfl | rfl | rfl | rfl | rfl | rfl | rfl | rfl | rfl | rfl | rfl | rfl | rfl | rfl | rfl | rfl | rfl | rfl | rfl | rfl | rfl | rfl | rfl | rfl | rfl | rfl | rfl | rfl | rfl | rfl | rfl | rfl | rfl | rfl | rfl | rfl | rfl
  · exact fn37_ok
  · exact fn41_ok
  · exact fn42_ok
  · exact fn50_ok
  · exact fn51_ok
  · exact fn54_ok
  · exact fn55_ok
  · exact fn56_ok
  · exact fn61_ok
  · exact fn62_ok
  · exact fn63_ok
  · exact fn68_ok
  · exact fn70_ok
  · exact fn71_ok
  · exact fn73_ok
  · exact fn79_ok
  · exact fn80_ok
  · exact fn110_ok
  · exact fn130_ok
  · exact fn131_ok
  · exact fn132_ok
  · exact fn133_ok
  · exact fn134_ok
  · exact fn135_ok
  · exact fn136_ok
  · exact fn137_ok
  · exact fn138_ok
  · exact fn145_ok
  · exact fn146_ok
  · exact fn151_ok
  · exact fn153_ok
  · exact fn154_ok
  · exact fn160_ok
  · exact fn167_ok
  · exact fn168_ok
  · exact fn201_ok
  · exact fn202_ok
  · exact fn203_ok
  · exact fn204_ok
  · exact fn205_ok
  · exact fn206_ok
  · exact fn207_ok
  · exact fn208_ok
  · exact fn209_ok
  · exact fn210_ok
  · exact fn213_ok
  · exact fn214_ok
  · exact fn215_ok
  · exact fn216_ok
  · exact fn226_ok
  · exact fn232_ok
  · exact fn233_ok
  · exact fn235_ok
  · exact fn236_ok
  · exact fn242_ok
  · exact fn244_ok
  · exact fn246_ok
end Go.Proofs.Ytobhjbbinnbdaaa.W
