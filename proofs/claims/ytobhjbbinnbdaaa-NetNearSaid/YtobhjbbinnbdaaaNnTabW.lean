/-
  The plain form of the functions that one law reaches, printed by a program of this repo (wip/mx) and held against the loaded program by the kernel. Conditions: none.
-/
import Derived.Test.YtobhjbbinnbdaaaNnJ8
import Derived.Test.YtobhjbbinnbdaaaNnMxG
import Derived.Test.YtobhjbbinnbdaaaRows
namespace Go.Proofs.Ytobhjbbinnbdaaa.W
open Go Go.Mx
set_option maxRecDepth 100000
def oM (a b : Nat) : O := ⟨some a, .mov (.s b), none⟩
def oK (a n : Nat) : O := ⟨some a, .mov (.c (.int .i64 (.ofNat n))), none⟩
def oL (a b : Nat) : O := ⟨some a, .load none (.s b), none⟩
def oN (a n b : Nat) : O := ⟨some a, .load (some n) (.s b), none⟩
def oF (a n b : Nat) : O := ⟨some a, .fld n (.s b), none⟩
def oI (a n b c : Nat) : O := ⟨some a, .idxS n (.s b) (.s c), none⟩
def oS (n b c : Nat) : O := ⟨none, .store n (.s b) (.s c), none⟩
def oE (a b : Nat) : O := ⟨some a, .len (.s b), none⟩
def oX (a b n : Nat) : O := ⟨some a, .ext (.s b) n, none⟩
def oB (a : Nat) (p : BinOp) (b c : Nat) : O := ⟨some a, .bin p (.s b) (.s c), none⟩
def oD (a : Nat) (p : BinOp) (b n : Nat) : O := ⟨some a, .bin p (.s b) (.c (.int .i64 (.ofNat n))), none⟩
def oO (a b : Nat) : O := ⟨some a, .box (.s b), none⟩
def oP (a b c : Nat) (t : Bool) : O := ⟨some a, .pick (.s b) (.s c) (.c (.bool t)), none⟩
def zvw : Mx.Fn := ⟨185,
 .seq (.reg false false [
 ⟨some 0, .mov (.c (.bool false)), none⟩])
 (.seq (.reg false false [
 ⟨some 5, .call 130 [], none⟩,
 ⟨some 1, .alloc [(.int .i64 0), (.slice none 0 0)], none⟩,
 oS 2 1 5])
 (.seq (.reg false false [
 oN 7 2 1,
 ⟨some 8, .call 51 [(.s 7)], none⟩,
 oM 6 8,
 oX 9 6 0,
 oX 10 6 1,
 oM 2 9,
 oM 3 10])
 (.seq (.seq (.reg false false [
 oM 11 3,
 oD 12 .neq 11 0,
 oM 13 12,
 ⟨some 14, .mov (.s 2), some (13, false)⟩,
 ⟨some 15, .len (.s 14), some (13, false)⟩,
 ⟨some 16, .bin .neq (.s 15) (.c (.int .i64 3)), some (13, false)⟩,
 ⟨some 17, .pick (.s 13) (.c (.bool true)) (.s 16), none⟩,
 oM 18 17,
 ⟨some 19, .mov (.s 2), some (18, false)⟩,
 ⟨some 20, .idxS 3 (.s 19) (.c (.int .i64 1)), some (18, false)⟩,
 ⟨some 21, .fld 0 (.s 20), some (18, false)⟩,
 ⟨some 22, .load none (.s 21), some (18, false)⟩,
 ⟨some 23, .bsl 1 2 [(.int .i64 0)] [(0, (.c (.int .i64 0))), (1, (.c (.int .i64 1)))], some (18, false)⟩,
 ⟨some 24, .call 110 [(.s 22), (.s 23)], some (18, false)⟩,
 ⟨some 25, .un .not (.s 24), some (18, false)⟩,
 ⟨some 26, .pick (.s 18) (.c (.bool true)) (.s 25), none⟩,
 oM 27 26,
 ⟨some 28, .mov (.s 2), some (27, false)⟩,
 ⟨some 29, .idxS 3 (.s 28) (.c (.int .i64 1)), some (27, false)⟩,
 ⟨some 30, .fld 2 (.s 29), some (27, false)⟩,
 ⟨some 31, .load none (.s 30), some (27, false)⟩,
 ⟨some 32, .bsl 1 4 [(.int .i64 0)] [(0, (.c (.int .i64 10))), (1, (.c (.int .i64 0))), (2, (.c (.int .i64 4))), (3, (.c (.int .i64 6)))], some (27, false)⟩,
 ⟨some 33, .call 110 [(.s 31), (.s 32)], some (27, false)⟩,
 ⟨some 34, .un .not (.s 33), some (27, false)⟩,
 ⟨some 35, .pick (.s 27) (.c (.bool true)) (.s 34), none⟩])
 (.cond (.s 35)
 (.seq (.reg false false [
 ⟨some 0, .mov (.c (.bool false)), none⟩])
 (.ret))
 (.skip)))
 (.seq (.reg true true [
 oN 37 2 1,
 ⟨some 36, .call 79 [(.c (.int .i64 8))], none⟩,
 ⟨some 38, .call 70 [(.s 37)], none⟩,
 oX 39 38 0,
 oX 40 38 1,
 ⟨some 41, .zbb (.s 36) [(.s 39), (.s 40)], none⟩,
 oM 42 41,
 ⟨some 44, .load (some 2) (.s 1), some (42, true)⟩,
 ⟨some 43, .call 79 [(.c (.int .i64 1000))], some (42, true)⟩,
 ⟨some 45, .call 71 [(.s 44)], some (42, true)⟩,
 ⟨some 46, .ext (.s 45) 0, some (42, true)⟩,
 ⟨some 47, .ext (.s 45) 1, some (42, true)⟩,
 ⟨some 48, .zbb (.s 43) [(.s 46), (.s 47)], some (42, true)⟩,
 oP 49 42 48 false,
 oM 50 49,
 ⟨some 53, .load (some 2) (.s 1), some (50, true)⟩,
 ⟨some 51, .bsl 1 3 [(.int .i64 0)] [(0, (.c (.int .i64 1))), (1, (.c (.int .i64 1))), (2, (.c (.int .i64 0)))], some (50, true)⟩,
 ⟨some 52, .call 80 [(.s 51)], some (50, true)⟩,
 ⟨some 54, .call 41 [(.s 53), (.c (.int .i64 6))], some (50, true)⟩,
 ⟨some 55, .ext (.s 54) 0, some (50, true)⟩,
 ⟨some 56, .ext (.s 54) 1, some (50, true)⟩,
 ⟨some 57, .zbb (.s 52) [(.s 55), (.s 56)], some (50, true)⟩,
 oP 58 50 57 false,
 oM 59 58,
 ⟨some 61, .load (some 2) (.s 1), some (59, true)⟩,
 ⟨some 60, .call 79 [(.c (.int .i64 0))], some (59, true)⟩,
 ⟨some 62, .call 42 [(.s 61), (.c (.int .i64 6))], some (59, true)⟩,
 ⟨some 63, .ext (.s 62) 0, some (59, true)⟩,
 ⟨some 64, .ext (.s 62) 1, some (59, true)⟩,
 ⟨some 65, .zbb (.s 60) [(.s 63), (.s 64)], some (59, true)⟩,
 oP 66 59 65 false,
 oM 67 66,
 ⟨some 69, .load (some 2) (.s 1), some (67, true)⟩,
 ⟨some 68, .call 79 [(.c (.int .i64 252))], some (67, true)⟩,
 ⟨some 70, .call 42 [(.s 69), (.c (.int .i64 4))], some (67, true)⟩,
 ⟨some 71, .ext (.s 70) 0, some (67, true)⟩,
 ⟨some 72, .ext (.s 70) 1, some (67, true)⟩,
 ⟨some 73, .zbb (.s 68) [(.s 71), (.s 72)], some (67, true)⟩,
 oP 74 67 73 false,
 oM 75 74,
 ⟨some 78, .load (some 2) (.s 1), some (75, true)⟩,
 ⟨some 76, .bsl 1 3 [(.int .u64 0)] [(0, (.c (.int .u64 0))), (1, (.c (.int .u64 1))), (2, (.c (.int .u64 3)))], some (75, true)⟩,
 ⟨some 77, .call 131 [(.s 76)], some (75, true)⟩,
 ⟨some 79, .call 54 [(.s 78)], some (75, true)⟩,
 ⟨some 80, .ext (.s 79) 0, some (75, true)⟩,
 ⟨some 81, .ext (.s 79) 1, some (75, true)⟩,
 ⟨some 82, .zbb (.s 77) [(.s 80), (.s 81)], some (75, true)⟩,
 oP 83 75 82 false,
 oM 84 83,
 ⟨some 87, .load (some 2) (.s 1), some (84, true)⟩,
 ⟨some 85, .bsl 1 3 [(.int .i64 0)] [(0, (.c (.int .i64 0))), (1, (.c (.int .i64 1))), (2, (.c (.int .i64 2)))], some (84, true)⟩,
 ⟨some 86, .call 80 [(.s 85)], some (84, true)⟩,
 ⟨some 88, .call 55 [(.s 87)], some (84, true)⟩,
 ⟨some 89, .ext (.s 88) 0, some (84, true)⟩,
 ⟨some 90, .ext (.s 88) 1, some (84, true)⟩,
 ⟨some 91, .zbb (.s 86) [(.s 89), (.s 90)], some (84, true)⟩,
 oP 92 84 91 false,
 oM 93 92,
 ⟨some 96, .load (some 2) (.s 1), some (93, true)⟩,
 ⟨some 94, .bsl 1 3 [(.int .u64 0)] [(0, (.c (.int .u64 6))), (1, (.c (.int .u64 5))), (2, (.c (.int .u64 3)))], some (93, true)⟩,
 ⟨some 95, .call 131 [(.s 94)], some (93, true)⟩,
 ⟨some 97, .call 56 [(.s 96)], some (93, true)⟩,
 ⟨some 98, .ext (.s 97) 0, some (93, true)⟩,
 ⟨some 99, .ext (.s 97) 1, some (93, true)⟩,
 ⟨some 100, .zbb (.s 95) [(.s 98), (.s 99)], some (93, true)⟩,
 oP 101 93 100 false,
 oM 4 101])
 (.seq (.reg true true [
 oM 102 4,
 oM 103 102,
 ⟨some 105, .load (some 2) (.s 1), some (103, true)⟩,
 ⟨some 104, .call 132 [(.c (.int .u64 6))], some (103, true)⟩,
 ⟨some 106, .call 61 [(.s 105), (.c (.int .i64 0))], some (103, true)⟩,
 ⟨some 107, .ext (.s 106) 0, some (103, true)⟩,
 ⟨some 108, .ext (.s 106) 1, some (103, true)⟩,
 ⟨some 109, .zbb (.s 104) [(.s 107), (.s 108)], some (103, true)⟩,
 oP 110 103 109 false,
 oM 111 110,
 ⟨some 113, .load (some 2) (.s 1), some (111, true)⟩,
 ⟨some 112, .call 132 [(.c (.int .u64 3))], some (111, true)⟩,
 ⟨some 114, .call 62 [(.s 113), (.c (.int .u64 2))], some (111, true)⟩,
 ⟨some 115, .ext (.s 114) 0, some (111, true)⟩,
 ⟨some 116, .ext (.s 114) 1, some (111, true)⟩,
 ⟨some 117, .zbb (.s 112) [(.s 115), (.s 116)], some (111, true)⟩,
 oP 118 111 117 false,
 oM 119 118,
 ⟨some 121, .load (some 2) (.s 1), some (119, true)⟩,
 ⟨some 120, .call 132 [(.c (.int .u64 6))], some (119, true)⟩,
 ⟨some 122, .call 63 [(.s 121), (.c (.int .u64 2))], some (119, true)⟩,
 ⟨some 123, .ext (.s 122) 0, some (119, true)⟩,
 ⟨some 124, .ext (.s 122) 1, some (119, true)⟩,
 ⟨some 125, .zbb (.s 120) [(.s 123), (.s 124)], some (119, true)⟩,
 oP 126 119 125 false,
 oM 127 126,
 ⟨some 128, .load (some 2) (.s 1), some (127, true)⟩,
 ⟨some 129, .bsl 1 3 [(.int .i64 0)] [(0, (.c (.int .i64 (-1)))), (1, (.c (.int .i64 1))), (2, (.c (.int .i64 (-1))))], some (127, true)⟩,
 ⟨some 130, .call 50 [(.s 128), (.s 129)], some (127, true)⟩,
 ⟨some 131, .bin .eql (.s 130) (.c (.int .i64 0)), some (127, true)⟩,
 oP 132 127 131 false,
 oM 133 132,
 ⟨some 134, .load (some 2) (.s 1), some (133, true)⟩,
 ⟨some 135, .bsl 1 3 [(.int .i64 0)] [(0, (.c (.int .i64 0))), (1, (.c (.int .i64 2))), (2, (.c (.int .i64 (-1))))], some (133, true)⟩,
 ⟨some 136, .call 50 [(.s 134), (.s 135)], some (133, true)⟩,
 ⟨some 137, .bin .eql (.s 136) (.c (.int .i64 2)), some (133, true)⟩,
 oP 138 133 137 false,
 oM 139 138,
 ⟨some 140, .load (some 2) (.s 1), some (139, true)⟩,
 ⟨some 141, .bsl 1 1 [(.int .i64 0)] [(0, (.c (.int .i64 0)))], some (139, true)⟩,
 ⟨some 142, .call 50 [(.s 140), (.s 141)], some (139, true)⟩,
 ⟨some 143, .bin .eql (.s 142) (.c (.int .i64 2)), some (139, true)⟩,
 oP 144 139 143 false,
 oM 145 144,
 ⟨some 147, .load (some 2) (.s 1), some (145, true)⟩,
 ⟨some 146, .call 133 [(.c (.int .i64 2))], some (145, true)⟩,
 ⟨some 148, .call 42 [(.s 147), (.c (.int .i64 8))], some (145, true)⟩,
 ⟨some 149, .ext (.s 148) 0, some (145, true)⟩,
 ⟨some 150, .ext (.s 148) 1, some (145, true)⟩,
 ⟨some 151, .zbb (.s 146) [(.s 149), (.s 150)], some (145, true)⟩,
 oP 152 145 151 false,
 oM 153 152,
 ⟨some 155, .load (some 2) (.s 1), some (153, true)⟩,
 ⟨some 154, .call 134 [(.c (.int .i64 2))], some (153, true)⟩,
 ⟨some 156, .call 61 [(.s 155), (.c (.int .i64 3))], some (153, true)⟩,
 ⟨some 157, .ext (.s 156) 0, some (153, true)⟩,
 ⟨some 158, .ext (.s 156) 1, some (153, true)⟩,
 ⟨some 159, .zbb (.s 154) [(.s 157), (.s 158)], some (153, true)⟩,
 oP 160 153 159 false,
 oM 161 160,
 ⟨some 163, .load (some 2) (.s 1), some (161, true)⟩,
 ⟨some 162, .call 134 [(.c (.int .i64 2))], some (161, true)⟩,
 ⟨some 164, .call 62 [(.s 163), (.c (.int .u64 8))], some (161, true)⟩,
 ⟨some 165, .ext (.s 164) 0, some (161, true)⟩,
 ⟨some 166, .ext (.s 164) 1, some (161, true)⟩,
 ⟨some 167, .zbb (.s 162) [(.s 165), (.s 166)], some (161, true)⟩,
 oP 168 161 167 false,
 oM 4 168])
 (.seq (.reg false false [
 oM 169 4,
 oM 170 169,
 ⟨some 171, .call 135 [(.f 136)], some (170, true)⟩,
 ⟨some 172, .call 73 [(.s 171)], some (170, true)⟩,
 ⟨some 173, .bin .eql (.s 172) (.c (.int .i64 50)), some (170, true)⟩,
 oP 174 170 173 false,
 oM 175 174,
 ⟨some 176, .call 135 [(.f 137)], some (175, true)⟩,
 ⟨some 177, .call 73 [(.s 176)], some (175, true)⟩,
 ⟨some 178, .bin .eql (.s 177) (.c (.int .i64 50)), some (175, true)⟩,
 oP 179 175 178 false,
 oM 180 179,
 ⟨some 181, .call 135 [(.f 138)], some (180, true)⟩,
 ⟨some 182, .call 73 [(.s 181)], some (180, true)⟩,
 ⟨some 183, .bin .eql (.s 182) (.c (.int .i64 50)), some (180, true)⟩,
 oP 184 180 183 false,
 oM 0 184])
 (.ret))))))),
  [.tmp 0], true⟩
theorem zrp : zbv Try.prog 37 zvw := .ofL (by kernel_rfl)
def zvK : Mx.Fn := ⟨22,
 .seq (.reg false false [
 oO 2 0,
 ⟨some 4, .mov (.c (.slice none 0 0)), none⟩,
 oK 5 0])
 (.seq (.reg false false [
 oN 9 2 2,
 ⟨some 10, .call 145 [(.s 9)], none⟩,
 oM 8 10,
 oX 11 8 0,
 oX 12 8 1,
 ⟨some 6, .alloc [(.int .i64 0), (.slice none 0 0), (.slice none 0 0), (.slice none 0 0), (.slice none 0 0)], none⟩,
 oS 5 6 11,
 oM 7 12])
 (.seq (.seq (.reg false false [
 oM 13 7,
 oD 14 .neq 13 0])
 (.cond (.s 14)
 (.seq (.reg false false [
 oM 15 7,
 ⟨some 4, .mov (.c (.slice none 0 0)), none⟩,
 oM 5 15])
 (.ret))
 (.skip)))
 (.seq (.reg false false [
 oF 16 2 6,
 oL 17 16,
 oM 18 1,
 ⟨some 19, .call 146 [(.s 17), (.s 18)], none⟩,
 oX 20 19 0,
 oX 21 19 1,
 oM 4 20,
 oM 5 21])
 (.ret)))),
  [.tmp 4, .tmp 5], false⟩
theorem zsv : zbv Try.prog 41 zvK := .ofL (by kernel_rfl)
def zvx : Mx.Fn := ⟨77,
 .seq (.reg false false [
 oO 2 0,
 oK 4 0,
 oK 5 0])
 (.seq (.reg false false [
 oN 16 2 2,
 ⟨some 17, .call 145 [(.s 16)], none⟩,
 oM 15 17,
 oX 18 15 0,
 oX 19 15 1,
 ⟨some 6, .alloc [(.int .i64 0), (.slice none 0 0), (.slice none 0 0), (.slice none 0 0), (.slice none 0 0)], none⟩,
 oS 5 6 18,
 oM 7 19])
 (.seq (.seq (.reg false false [
 oM 20 7,
 oD 21 .neq 20 0])
 (.cond (.s 21)
 (.seq (.reg false false [
 oM 22 7,
 oK 4 0,
 oM 5 22])
 (.ret))
 (.skip)))
 (.seq (.reg false false [
 oF 24 2 6,
 oL 25 24,
 oM 26 1,
 ⟨some 27, .call 146 [(.s 25), (.s 26)], none⟩,
 oM 23 27,
 oX 28 23 0,
 oX 29 23 1,
 oM 8 28,
 oM 7 29])
 (.seq (.seq (.reg false false [
 oM 30 7,
 oD 31 .neq 30 0])
 (.cond (.s 31)
 (.seq (.reg false false [
 oM 32 7,
 oK 4 0,
 oM 5 32])
 (.ret))
 (.skip)))
 (.seq (.reg false false [
 oK 9 1])
 (.seq (.seq (.reg false false [
 oF 33 0 6,
 oF 34 1 33,
 oL 35 34,
 oE 36 35,
 oK 37 0])
 (.block 0 (.loop (.seq (.reg false false [
 oB 38 .lss 37 36])
 (.seq (.cond (.s 38)
 (.skip)
 (.exit 0))
 (.seq (.block 1 (.seq (.reg false false [
 oM 39 37,
 oI 40 3 35 37,
 oN 41 3 40,
 ⟨some 11, .alloc [(.int .i64 0), (.slice none 0 0), (.slice none 0 0)], none⟩,
 oM 10 39,
 oS 3 11 41])
 (.seq (.reg false false [
 oK 12 0])
 (.seq (.seq (.reg false false [
 oF 42 1 11,
 oL 43 42,
 oE 44 43,
 oK 45 0])
 (.block 2 (.loop (.seq (.reg false false [
 oB 46 .lss 45 44])
 (.seq (.cond (.s 46)
 (.skip)
 (.exit 2))
 (.seq (.block 3 (.seq (.reg false false [
 oI 47 1 43 45,
 oL 48 47,
 oM 14 48])
 (.reg true false [
 oM 49 12,
 oF 50 2 6,
 oL 51 50,
 oM 52 14,
 oI 53 1 51 52,
 oL 54 53,
 oB 55 .mul 49 54,
 oM 56 8,
 oM 57 14,
 oI 58 1 56 57,
 oL 59 58,
 oB 60 .add 55 59,
 oM 12 60])))
 (.reg false false [
 oD 61 .add 45 1,
 oM 45 61])))))))
 (.reg true false [
 oM 62 9,
 oF 63 2 11,
 oL 64 63,
 oM 65 12,
 oI 66 1 64 65,
 oL 67 66,
 oM 68 8,
 oM 69 10,
 oI 70 1 68 69,
 oL 71 70,
 oI 72 1 67 71,
 oL 73 72,
 oB 74 .mul 62 73,
 oM 9 74])))))
 (.reg false false [
 oD 75 .add 37 1,
 oM 37 75])))))))
 (.seq (.reg false false [
 oM 76 9,
 oM 4 76,
 oK 5 0])
 (.ret)))))))),
  [.tmp 4, .tmp 5], true⟩
theorem zr4 : zbv Try.prog 42 zvx := .ofL (by kernel_rfl)
def zvQ : Mx.Fn := ⟨43,
 .seq (.reg false false [
 oO 2 0,
 oK 4 0])
 (.seq (.reg false false [
 oN 10 2 2,
 ⟨some 11, .call 145 [(.s 10)], none⟩,
 oM 9 11,
 oX 12 9 0,
 oX 13 9 1,
 ⟨some 5, .alloc [(.int .i64 0), (.slice none 0 0), (.slice none 0 0), (.slice none 0 0), (.slice none 0 0)], none⟩,
 oS 5 5 12,
 oM 6 13])
 (.seq (.seq (.reg false false [
 oM 14 6,
 oD 15 .neq 14 0])
 (.cond (.s 15)
 (.seq (.reg false false [
 oM 16 6,
 oM 4 16])
 (.ret))
 (.skip)))
 (.seq (.seq (.reg false false [
 oM 17 1,
 oE 18 17,
 oF 19 0 5,
 oF 20 1 19,
 oL 21 20,
 oE 22 21,
 oB 23 .neq 18 22])
 (.cond (.s 23)
 (.seq (.reg false false [
 oK 4 2])
 (.ret))
 (.skip)))
 (.seq (.seq (.reg false false [
 oM 24 1,
 oE 25 24,
 oK 26 0])
 (.block 0 (.loop (.seq (.reg false false [
 oB 27 .lss 26 25])
 (.seq (.cond (.s 27)
 (.skip)
 (.exit 0))
 (.seq (.block 1 (.seq (.reg false false [
 oM 28 26,
 oI 29 1 24 26,
 oL 30 29,
 oM 7 28,
 oM 8 30])
 (.seq (.reg false false [
 oM 31 8,
 ⟨some 32, .bin .lss (.s 31) (.c (.int .i64 (-1))), none⟩,
 oM 33 32,
 ⟨some 34, .mov (.s 8), some (33, false)⟩,
 ⟨some 35, .fld 2 (.s 5), some (33, false)⟩,
 ⟨some 36, .load none (.s 35), some (33, false)⟩,
 ⟨some 37, .mov (.s 7), some (33, false)⟩,
 ⟨some 38, .idxS 1 (.s 36) (.s 37), some (33, false)⟩,
 ⟨some 39, .load none (.s 38), some (33, false)⟩,
 ⟨some 40, .bin .geq (.s 34) (.s 39), some (33, false)⟩,
 ⟨some 41, .pick (.s 33) (.c (.bool true)) (.s 40), none⟩])
 (.cond (.s 41)
 (.seq (.reg false false [
 oK 4 2])
 (.ret))
 (.skip)))))
 (.reg false false [
 oD 42 .add 26 1,
 oM 26 42])))))))
 (.seq (.reg false false [
 oK 4 0])
 (.ret)))))),
  [.tmp 4], true⟩
theorem zrA : zbv Try.prog 50 zvQ := .ofL (by kernel_rfl)
def zvu : Mx.Fn := ⟨34,
 .seq (.reg false false [
 oO 1 0,
 ⟨some 2, .mov (.c (.slice none 0 0)), none⟩,
 oK 3 0])
 (.seq (.reg false false [
 oN 9 2 1,
 ⟨some 10, .call 145 [(.s 9)], none⟩,
 oM 8 10,
 oX 11 8 0,
 oX 12 8 1,
 ⟨some 4, .alloc [(.int .i64 0), (.slice none 0 0), (.slice none 0 0), (.slice none 0 0), (.slice none 0 0)], none⟩,
 oS 5 4 11,
 oM 5 12])
 (.seq (.seq (.reg false false [
 oM 13 5,
 oD 14 .neq 13 0])
 (.cond (.s 14)
 (.seq (.reg false false [
 oM 15 5,
 ⟨some 2, .mov (.c (.slice none 0 0)), none⟩,
 oM 3 15])
 (.ret))
 (.skip)))
 (.seq (.reg false false [
 oF 16 0 4,
 oF 17 1 16,
 oL 18 17,
 oE 19 18,
 ⟨some 20, .mk 3 72 [(.slice none 0 0), (.slice none 0 0), (.slice none 0 0)] (.s 19) (.s 19), none⟩,
 oM 6 20])
 (.seq (.seq (.reg false false [
 oM 21 6,
 oE 22 21,
 oK 23 0])
 (.block 0 (.loop (.seq (.reg false false [
 oB 24 .lss 23 22])
 (.seq (.cond (.s 24)
 (.skip)
 (.exit 0))
 (.seq (.block 1 (.seq (.reg false false [
 oM 25 23,
 oM 7 25])
 (.reg false false [
 oM 26 6,
 oM 27 7,
 oN 28 5 4,
 oM 29 7,
 ⟨some 30, .call 151 [(.s 28), (.s 29)], none⟩,
 oI 31 3 26 27,
 oS 3 31 30])))
 (.reg false false [
 oD 32 .add 23 1,
 oM 23 32])))))))
 (.seq (.reg false false [
 oM 33 6,
 oM 2 33,
 oK 3 0])
 (.ret)))))),
  [.tmp 2, .tmp 3], false⟩
theorem zr9 : zbv Try.prog 51 zvu := .ofL (by kernel_rfl)
def zvq : Mx.Fn := ⟨14,
 .seq (.reg false false [
 oO 1 0,
 ⟨some 2, .mov (.c (.slice none 0 0)), none⟩,
 oK 3 0])
 (.seq (.reg false false [
 oN 7 2 1,
 ⟨some 8, .call 145 [(.s 7)], none⟩,
 oM 6 8,
 oX 9 6 0,
 oX 10 6 1,
 ⟨some 4, .alloc [(.int .i64 0), (.slice none 0 0), (.slice none 0 0), (.slice none 0 0), (.slice none 0 0)], none⟩,
 oS 5 4 9,
 oM 5 10])
 (.seq (.reg false false [
 oF 11 3 4,
 oL 12 11,
 oM 13 5,
 oM 2 12,
 oM 3 13])
 (.ret))),
  [.tmp 2, .tmp 3], false⟩
theorem zr1 : zbv Try.prog 54 zvq := .ofL (by kernel_rfl)
def zvA : Mx.Fn := ⟨14,
 .seq (.reg false false [
 oO 1 0,
 ⟨some 2, .mov (.c (.slice none 0 0)), none⟩,
 oK 3 0])
 (.seq (.reg false false [
 oN 7 2 1,
 ⟨some 8, .call 145 [(.s 7)], none⟩,
 oM 6 8,
 oX 9 6 0,
 oX 10 6 1,
 ⟨some 4, .alloc [(.int .i64 0), (.slice none 0 0), (.slice none 0 0), (.slice none 0 0), (.slice none 0 0)], none⟩,
 oS 5 4 9,
 oM 5 10])
 (.seq (.reg false false [
 oF 11 4 4,
 oL 12 11,
 oM 13 5,
 oM 2 12,
 oM 3 13])
 (.ret))),
  [.tmp 2, .tmp 3], false⟩
theorem zsn : zbv Try.prog 55 zvA := .ofL (by kernel_rfl)
def zvT : Mx.Fn := ⟨16,
 .seq (.reg false false [
 oO 1 0,
 ⟨some 2, .mov (.c (.slice none 0 0)), none⟩,
 oK 3 0])
 (.seq (.reg false false [
 oN 7 2 1,
 ⟨some 8, .call 145 [(.s 7)], none⟩,
 oM 6 8,
 oX 9 6 0,
 oX 10 6 1,
 ⟨some 4, .alloc [(.int .i64 0), (.slice none 0 0), (.slice none 0 0), (.slice none 0 0), (.slice none 0 0)], none⟩,
 oS 5 4 9,
 oM 5 10])
 (.seq (.seq (.reg false false [
 oM 11 5,
 oD 12 .neq 11 0])
 (.cond (.s 12)
 (.seq (.reg false false [
 oM 13 5,
 ⟨some 2, .mov (.c (.slice none 0 0)), none⟩,
 oM 3 13])
 (.ret))
 (.skip)))
 (.seq (.reg false false [
 oN 14 5 4,
 ⟨some 15, .call 153 [(.s 14)], none⟩,
 oM 2 15,
 oK 3 0])
 (.ret)))),
  [.tmp 2, .tmp 3], false⟩
theorem zrX : zbv Try.prog 56 zvT := .ofL (by kernel_rfl)
def zvG : Mx.Fn := ⟨31,
 .seq (.reg false false [
 oO 2 0,
 ⟨some 4, .mov (.c (.int .u64 0)), none⟩,
 oK 5 0])
 (.seq (.reg false false [
 oN 9 2 2,
 ⟨some 10, .call 145 [(.s 9)], none⟩,
 oM 8 10,
 oX 11 8 0,
 oX 12 8 1,
 ⟨some 6, .alloc [(.int .i64 0), (.slice none 0 0), (.slice none 0 0), (.slice none 0 0), (.slice none 0 0)], none⟩,
 oS 5 6 11,
 oM 7 12])
 (.seq (.seq (.reg false false [
 oM 13 7,
 oD 14 .neq 13 0])
 (.cond (.s 14)
 (.seq (.reg false false [
 oM 15 7,
 ⟨some 4, .mov (.c (.int .u64 0)), none⟩,
 oM 5 15])
 (.ret))
 (.skip)))
 (.seq (.seq (.reg false false [
 oM 16 1,
 oD 17 .lss 16 0,
 oM 18 17,
 ⟨some 19, .mov (.s 1), some (18, false)⟩,
 ⟨some 20, .fld 0 (.s 6), some (18, false)⟩,
 ⟨some 21, .fld 1 (.s 20), some (18, false)⟩,
 ⟨some 22, .load none (.s 21), some (18, false)⟩,
 ⟨some 23, .len (.s 22), some (18, false)⟩,
 ⟨some 24, .bin .geq (.s 19) (.s 23), some (18, false)⟩,
 ⟨some 25, .pick (.s 18) (.c (.bool true)) (.s 24), none⟩])
 (.cond (.s 25)
 (.seq (.reg false false [
 ⟨some 4, .mov (.c (.int .u64 0)), none⟩,
 oK 5 2])
 (.ret))
 (.skip)))
 (.seq (.reg false false [
 oN 26 5 6,
 ⟨some 27, .call 153 [(.s 26)], none⟩,
 oM 28 1,
 oI 29 1 27 28,
 oL 30 29,
 oM 4 30,
 oK 5 0])
 (.ret))))),
  [.tmp 4, .tmp 5], true⟩
theorem zsz : zbv Try.prog 61 zvG := .ofL (by kernel_rfl)
def zvN : Mx.Fn := ⟨27,
 .seq (.reg false false [
 oO 2 0,
 ⟨some 4, .mov (.c (.int .u64 0)), none⟩,
 oK 5 0])
 (.seq (.reg false false [
 oN 9 2 2,
 ⟨some 10, .call 145 [(.s 9)], none⟩,
 oM 8 10,
 oX 11 8 0,
 oX 12 8 1,
 ⟨some 6, .alloc [(.int .i64 0), (.slice none 0 0), (.slice none 0 0), (.slice none 0 0), (.slice none 0 0)], none⟩,
 oS 5 6 11,
 oM 7 12])
 (.seq (.seq (.reg false false [
 oM 13 7,
 oD 14 .neq 13 0])
 (.cond (.s 14)
 (.seq (.reg false false [
 oM 15 7,
 ⟨some 4, .mov (.c (.int .u64 0)), none⟩,
 oM 5 15])
 (.ret))
 (.skip)))
 (.seq (.seq (.reg false false [
 oM 16 1,
 oF 17 0 6,
 oF 18 1 17,
 oL 19 18,
 oE 20 19,
 oB 21 .shr 16 20,
 ⟨some 22, .bin .neq (.s 21) (.c (.int .u64 0)), none⟩])
 (.cond (.s 22)
 (.seq (.reg false false [
 ⟨some 4, .mov (.c (.int .u64 0)), none⟩,
 oK 5 2])
 (.ret))
 (.skip)))
 (.seq (.reg false false [
 oF 23 3 6,
 oL 24 23,
 oM 25 1,
 ⟨some 26, .call 154 [(.s 24), (.s 25)], none⟩,
 oM 4 26,
 oK 5 0])
 (.ret))))),
  [.tmp 4, .tmp 5], true⟩
theorem zsp : zbv Try.prog 62 zvN := .ofL (by kernel_rfl)
def zvE : Mx.Fn := ⟨61,
 .seq (.reg false false [
 oO 2 0,
 ⟨some 4, .mov (.c (.int .u64 0)), none⟩,
 oK 5 0])
 (.seq (.reg false false [
 oN 13 2 2,
 ⟨some 14, .call 145 [(.s 13)], none⟩,
 oM 12 14,
 oX 15 12 0,
 oX 16 12 1,
 ⟨some 6, .alloc [(.int .i64 0), (.slice none 0 0), (.slice none 0 0), (.slice none 0 0), (.slice none 0 0)], none⟩,
 oS 5 6 15,
 oM 7 16])
 (.seq (.seq (.reg false false [
 oM 17 7,
 oD 18 .neq 17 0])
 (.cond (.s 18)
 (.seq (.reg false false [
 oM 19 7,
 ⟨some 4, .mov (.c (.int .u64 0)), none⟩,
 oM 5 19])
 (.ret))
 (.skip)))
 (.seq (.seq (.reg false false [
 oM 20 1,
 oF 21 0 6,
 oF 22 1 21,
 oL 23 22,
 oE 24 23,
 oB 25 .shr 20 24,
 ⟨some 26, .bin .neq (.s 25) (.c (.int .u64 0)), none⟩])
 (.cond (.s 26)
 (.seq (.reg false false [
 ⟨some 4, .mov (.c (.int .u64 0)), none⟩,
 oK 5 2])
 (.ret))
 (.skip)))
 (.seq (.reg false false [
 oF 27 3 6,
 oL 28 27,
 oE 29 28,
 ⟨some 30, .mk 1 8 [(.int .u64 0)] (.s 29) (.s 29), none⟩,
 oM 8 30])
 (.seq (.seq (.reg false false [
 oF 31 3 6,
 oL 32 31,
 oE 33 32,
 oK 34 0])
 (.block 0 (.loop (.seq (.reg false false [
 oB 35 .lss 34 33])
 (.seq (.cond (.s 35)
 (.skip)
 (.exit 0))
 (.seq (.block 1 (.seq (.reg false false [
 oM 36 34,
 oI 37 1 32 34,
 oL 38 37,
 oM 9 36,
 oM 10 38])
 (.seq (.reg false false [
 oM 39 8,
 oE 40 39,
 oK 41 0])
 (.block 2 (.loop (.seq (.reg false false [
 oB 42 .lss 41 40])
 (.seq (.cond (.s 42)
 (.skip)
 (.exit 2))
 (.seq (.block 3 (.seq (.reg false false [
 oM 43 41,
 oM 11 43])
 (.reg true false [
 oM 44 8,
 oM 45 11,
 oI 46 1 44 45,
 oL 47 46,
 oM 48 10,
 oM 49 11,
 oB 50 .shr 48 49,
 ⟨some 51, .bin .and (.s 50) (.c (.int .u64 1)), none⟩,
 oM 52 9,
 oB 53 .shl 51 52,
 oB 54 .or 47 53,
 oI 55 1 44 45,
 oS 1 55 54])))
 (.reg false false [
 oD 56 .add 41 1,
 oM 41 56])))))))))
 (.reg false false [
 oD 57 .add 34 1,
 oM 34 57])))))))
 (.seq (.reg false false [
 oM 58 8,
 oM 59 1,
 ⟨some 60, .call 154 [(.s 58), (.s 59)], none⟩,
 oM 4 60,
 oK 5 0])
 (.ret))))))),
  [.tmp 4, .tmp 5], true⟩
theorem zrH : zbv Try.prog 63 zvE := .ofL (by kernel_rfl)
def zvv : Mx.Fn := ⟨8,
 .seq (.reg false false [
 ⟨some 2, .mov (.c (.slice none 0 0)), none⟩])
 (.seq (.seq (.reg false false [
 oM 3 0,
 ⟨some 4, .eqn false (.s 3), none⟩])
 (.cond (.s 4)
 (.seq (.reg false false [
 ⟨some 2, .mov (.c (.slice none 0 0)), none⟩])
 (.ret))
 (.skip)))
 (.seq (.reg false false [
 ⟨some 5, .bsl 1 0 [(.int .i64 0)] [], none⟩,
 oM 6 0,
 ⟨some 7, .app 1 8 (.s 5) (.s 6), none⟩,
 oM 2 7])
 (.ret))),
  [.tmp 2], false⟩
theorem zrJ : zbv Try.prog 68 zvv := .ofL (by kernel_rfl)
def zvU : Mx.Fn := ⟨19,
 .seq (.reg false false [
 oO 1 0,
 oK 2 0,
 oK 3 0])
 (.seq (.reg false false [
 oN 7 2 1,
 ⟨some 8, .call 145 [(.s 7)], none⟩,
 oM 6 8,
 oX 9 6 0,
 oX 10 6 1,
 ⟨some 4, .alloc [(.int .i64 0), (.slice none 0 0), (.slice none 0 0), (.slice none 0 0), (.slice none 0 0)], none⟩,
 oS 5 4 9,
 oM 5 10])
 (.seq (.seq (.reg false false [
 oM 11 5,
 oD 12 .neq 11 0])
 (.cond (.s 12)
 (.seq (.reg false false [
 oM 13 5,
 oK 2 0,
 oM 3 13])
 (.ret))
 (.skip)))
 (.seq (.reg false false [
 oF 14 2 4,
 oL 15 14,
 ⟨some 16, .call 160 [(.s 15)], none⟩,
 oX 17 16 0,
 oX 18 16 1,
 oM 2 17,
 oM 3 18])
 (.ret)))),
  [.tmp 2, .tmp 3], true⟩
theorem zsk : zbv Try.prog 70 zvU := .ofL (by kernel_rfl)
def zvH : Mx.Fn := ⟨28,
 .seq (.reg false false [
 oO 1 0,
 oK 2 0,
 oK 3 0])
 (.seq (.reg false false [
 oN 8 2 1,
 ⟨some 9, .call 145 [(.s 8)], none⟩,
 oM 7 9,
 oX 10 7 0,
 oX 11 7 1,
 ⟨some 4, .alloc [(.int .i64 0), (.slice none 0 0), (.slice none 0 0), (.slice none 0 0), (.slice none 0 0)], none⟩,
 oS 5 4 10,
 oM 5 11])
 (.seq (.seq (.reg false false [
 oM 12 5,
 oD 13 .neq 12 0])
 (.cond (.s 13)
 (.seq (.reg false false [
 oM 14 5,
 oK 2 0,
 oM 3 14])
 (.ret))
 (.skip)))
 (.seq (.reg false false [
 oK 6 1])
 (.seq (.seq (.reg false false [
 oF 15 0 4,
 oF 16 1 15,
 oL 17 16,
 oE 18 17,
 oK 19 0])
 (.block 0 (.loop (.seq (.reg false false [
 oB 20 .lss 19 18])
 (.seq (.cond (.s 20)
 (.skip)
 (.exit 0))
 (.seq (.block 1 (.reg false false [
 oM 21 6,
 oF 22 0 4,
 oF 23 0 22,
 oL 24 23,
 oB 25 .mul 21 24,
 oM 6 25]))
 (.reg false false [
 oD 26 .add 19 1,
 oM 19 26])))))))
 (.seq (.reg false false [
 oM 27 6,
 oM 2 27,
 oK 3 0])
 (.ret)))))),
  [.tmp 2, .tmp 3], true⟩
theorem zr0 : zbv Try.prog 71 zvH := .ofL (by kernel_rfl)
def zvR : Mx.Fn := ⟨11,
 .seq (.reg false false [
 oO 1 0,
 oK 2 0])
 (.seq (.reg false false [
 oN 6 2 1,
 ⟨some 7, .call 145 [(.s 6)], none⟩,
 oM 5 7,
 oX 8 5 0,
 oX 9 5 1,
 ⟨some 3, .alloc [(.int .i64 0), (.slice none 0 0), (.slice none 0 0), (.slice none 0 0), (.slice none 0 0)], none⟩,
 oS 5 3 8,
 oM 4 9])
 (.seq (.reg false false [
 oM 10 4,
 oM 2 10])
 (.ret))),
  [.tmp 2], true⟩
theorem zrv : zbv Try.prog 73 zvR := .ofL (by kernel_rfl)
def zvy : Mx.Fn := ⟨4,
 .seq (.reg false false [
 oO 1 0,
 ⟨some 2, .mov (.c .nilFunc), none⟩])
 (.seq (.reg false false [
 ⟨some 3, .clo 167 [] [(.s 1)], none⟩,
 oM 2 3])
 (.ret)),
  [.tmp 2], false⟩
theorem zrK : zbv Try.prog 79 zvy := .ofL (by kernel_rfl)
def zvJ : Mx.Fn := ⟨4,
 .seq (.reg false false [
 oO 1 0,
 ⟨some 2, .mov (.c .nilFunc), none⟩])
 (.seq (.reg false false [
 ⟨some 3, .clo 168 [] [(.s 1)], none⟩,
 oM 2 3])
 (.ret)),
  [.tmp 2], false⟩
theorem zr8 : zbv Try.prog 80 zvJ := .ofL (by kernel_rfl)
def ztZ : Mx.Fn := ⟨26,
 .seq (.reg false false [
 ⟨some 4, .mov (.c (.bool false)), none⟩])
 (.seq (.seq (.reg false false [
 oM 6 0,
 oE 7 6,
 oM 8 1,
 oE 9 8,
 oB 10 .neq 7 9])
 (.cond (.s 10)
 (.seq (.reg false false [
 ⟨some 4, .mov (.c (.bool false)), none⟩])
 (.ret))
 (.skip)))
 (.seq (.seq (.reg false false [
 oM 11 0,
 oE 12 11,
 oK 13 0])
 (.block 0 (.loop (.seq (.reg false false [
 oB 14 .lss 13 12])
 (.seq (.cond (.s 14)
 (.skip)
 (.exit 0))
 (.seq (.block 1 (.seq (.reg false false [
 oM 15 13,
 oM 5 15])
 (.seq (.reg true false [
 oM 16 0,
 oM 17 5,
 oI 18 1 16 17,
 oL 19 18,
 oM 20 1,
 oM 21 5,
 oI 22 1 20 21,
 oL 23 22,
 oB 24 .neq 19 23])
 (.cond (.s 24)
 (.seq (.reg false false [
 ⟨some 4, .mov (.c (.bool false)), none⟩])
 (.ret))
 (.skip)))))
 (.reg false false [
 oD 25 .add 13 1,
 oM 13 25])))))))
 (.seq (.reg false false [
 ⟨some 4, .mov (.c (.bool true)), none⟩])
 (.ret)))),
  [.tmp 4], true⟩
theorem zqd : zbv Try.prog 110 ztZ := .ofL (by kernel_rfl)
def ztu : Mx.Fn := ⟨18,
 .seq (.reg false false [
 ⟨some 0, .alloc [(.int .i64 0), (.slice none 0 0)], none⟩])
 (.seq (.reg false false [
 ⟨some 1, .bsl 1 2 [(.int .i64 0)] [(0, (.c (.int .i64 3))), (1, (.c (.int .i64 7)))], none⟩,
 ⟨some 2, .bsl 1 1 [(.slice none 0 0)] [(0, (.s 1))], none⟩,
 ⟨some 3, .build [(.int .i64 0), (.slice none 0 0), (.slice none 0 0)] [(0, 1, (.c (.int .i64 2))), (2, 1, (.s 2))], none⟩,
 ⟨some 4, .bsl 1 1 [(.int .i64 0)] [(0, (.c (.int .i64 0)))], none⟩,
 ⟨some 5, .bsl 1 2 [(.int .i64 0)] [(0, (.c (.int .i64 10))), (1, (.c (.int .i64 0)))], none⟩,
 ⟨some 6, .bsl 1 2 [(.int .i64 0)] [(0, (.c (.int .i64 4))), (1, (.c (.int .i64 6)))], none⟩,
 ⟨some 7, .bsl 1 2 [(.slice none 0 0)] [(0, (.s 5)), (1, (.s 6))], none⟩,
 ⟨some 8, .build [(.int .i64 0), (.slice none 0 0), (.slice none 0 0)] [(0, 1, (.c (.int .i64 2))), (1, 1, (.s 4)), (2, 1, (.s 7))], none⟩,
 ⟨some 9, .bsl 1 2 [(.int .i64 0)] [(0, (.c (.int .i64 0))), (1, (.c (.int .i64 1)))], none⟩,
 ⟨some 10, .bsl 1 2 [(.int .i64 0)] [(0, (.c (.int .i64 5))), (1, (.c (.int .i64 5)))], none⟩,
 ⟨some 11, .bsl 1 2 [(.int .i64 0)] [(0, (.c (.int .i64 2))), (1, (.c (.int .i64 8)))], none⟩,
 ⟨some 12, .bsl 1 2 [(.int .i64 0)] [(0, (.c (.int .i64 9))), (1, (.c (.int .i64 1)))], none⟩,
 ⟨some 13, .bsl 1 2 [(.int .i64 0)] [(0, (.c (.int .i64 0))), (1, (.c (.int .i64 10)))], none⟩,
 ⟨some 14, .bsl 1 4 [(.slice none 0 0)] [(0, (.s 10)), (1, (.s 11)), (2, (.s 12)), (3, (.s 13))], none⟩,
 ⟨some 15, .build [(.int .i64 0), (.slice none 0 0), (.slice none 0 0)] [(0, 1, (.c (.int .i64 2))), (1, 1, (.s 9)), (2, 1, (.s 14))], none⟩,
 ⟨some 16, .bsl 3 3 [(.int .i64 0), (.slice none 0 0), (.slice none 0 0)] [(0, (.s 3)), (1, (.s 8)), (2, (.s 15))], none⟩,
 ⟨some 17, .build [(.int .i64 0), (.slice none 0 0)] [(0, 1, (.c (.int .i64 10))), (1, 1, (.s 16))], none⟩,
 oS 2 0 17])
 (.ret)),
  [.cell 0 (some 2)], false⟩
theorem zo3 : zbv Try.prog 130 ztu := .ofL (by kernel_rfl)
def ztK : Mx.Fn := ⟨4,
 .seq (.reg false false [
 oO 1 0,
 ⟨some 2, .mov (.c .nilFunc), none⟩])
 (.seq (.reg false false [
 ⟨some 3, .clo 201 [] [(.s 1)], none⟩,
 oM 2 3])
 (.ret)),
  [.tmp 2], false⟩
theorem zpE : zbv Try.prog 131 ztK := .ofL (by kernel_rfl)
def ztJ : Mx.Fn := ⟨4,
 .seq (.reg false false [
 oO 1 0,
 ⟨some 2, .mov (.c .nilFunc), none⟩])
 (.seq (.reg false false [
 ⟨some 3, .clo 203 [] [(.s 1)], none⟩,
 oM 2 3])
 (.ret)),
  [.tmp 2], false⟩
theorem zpN : zbv Try.prog 132 ztJ := .ofL (by kernel_rfl)
def zuA : Mx.Fn := ⟨4,
 .seq (.reg false false [
 oO 1 0,
 ⟨some 2, .mov (.c .nilFunc), none⟩])
 (.seq (.reg false false [
 ⟨some 3, .clo 204 [] [(.s 1)], none⟩,
 oM 2 3])
 (.ret)),
  [.tmp 2], false⟩
theorem zpX : zbv Try.prog 133 zuA := .ofL (by kernel_rfl)
def ztO : Mx.Fn := ⟨4,
 .seq (.reg false false [
 oO 1 0,
 ⟨some 2, .mov (.c .nilFunc), none⟩])
 (.seq (.reg false false [
 ⟨some 3, .clo 205 [] [(.s 1)], none⟩,
 oM 2 3])
 (.ret)),
  [.tmp 2], false⟩
theorem zqC : zbv Try.prog 134 ztO := .ofL (by kernel_rfl)
def ztg : Mx.Fn := ⟨8,
 .seq (.reg false false [
 ⟨some 2, .alloc [(.int .i64 0), (.slice none 0 0)], none⟩])
 (.seq (.reg false false [
 ⟨some 4, .call 130 [], none⟩,
 ⟨some 3, .alloc [(.int .i64 0), (.slice none 0 0)], none⟩,
 oS 2 3 4])
 (.seq (.reg false false [
 oM 5 0,
 ⟨some 6, .zbb (.s 5) [(.s 3)], none⟩])
 (.seq (.reg false false [
 oN 7 2 3,
 oS 2 2 7])
 (.ret)))),
  [.cell 2 (some 2)], false⟩
theorem zqn : zbv Try.prog 135 ztg := .ofL (by kernel_rfl)
def zsW : Mx.Fn := ⟨5,
 .reg false false [
 oM 2 0,
 ⟨some 3, .nilck (.s 2), none⟩,
 oF 4 0 3,
 ⟨none, .store 1 (.s 4) (.c (.int .i64 11)), none⟩],
  [], false⟩
theorem zqE : zbv Try.prog 136 zsW := .ofL (by kernel_rfl)
def zsO : Mx.Fn := ⟨9,
 .reg false false [
 oM 2 0,
 ⟨some 3, .nilck (.s 2), none⟩,
 oF 4 1 3,
 oL 5 4,
 ⟨some 6, .bsl 1 1 [(.int .i64 0)] [(0, (.c (.int .i64 1)))], none⟩,
 ⟨some 7, .idxS 3 (.s 5) (.c (.int .i64 1)), none⟩,
 oF 8 1 7,
 oS 1 8 6],
  [], false⟩
theorem zpp : zbv Try.prog 137 zsO := .ofL (by kernel_rfl)
def zs2 : Mx.Fn := ⟨10,
 .reg false false [
 oM 2 0,
 ⟨some 3, .nilck (.s 2), none⟩,
 oF 4 1 3,
 oL 5 4,
 ⟨some 6, .bsl 1 2 [(.int .i64 0)] [(0, (.c (.int .i64 3))), (1, (.c (.int .i64 8)))], none⟩,
 ⟨some 7, .bsl 1 1 [(.slice none 0 0)] [(0, (.s 6))], none⟩,
 ⟨some 8, .idxS 3 (.s 5) (.c (.int .i64 0)), none⟩,
 oF 9 2 8,
 oS 1 9 7],
  [], false⟩
theorem zo9 : zbv Try.prog 138 zs2 := .ofL (by kernel_rfl)
def zsX : Mx.Fn := ⟨140,
 .seq (.reg false false [
 oO 1 0,
 ⟨some 2, .alloc [(.int .i64 0), (.slice none 0 0), (.slice none 0 0), (.slice none 0 0), (.slice none 0 0)], none⟩,
 oK 3 0])
 (.seq (.seq (.reg false false [
 oF 15 0 1,
 oL 16 15,
 oD 17 .lss 16 1,
 oM 18 17,
 ⟨some 19, .fld 0 (.s 1), some (18, false)⟩,
 ⟨some 20, .load none (.s 19), some (18, false)⟩,
 ⟨some 21, .bin .gtr (.s 20) (.c (.int .i64 60)), some (18, false)⟩,
 ⟨some 22, .pick (.s 18) (.c (.bool true)) (.s 21), none⟩,
 oM 23 22,
 ⟨some 24, .fld 1 (.s 1), some (23, false)⟩,
 ⟨some 25, .load none (.s 24), some (23, false)⟩,
 ⟨some 26, .len (.s 25), some (23, false)⟩,
 ⟨some 27, .bin .lss (.s 26) (.c (.int .i64 1)), some (23, false)⟩,
 ⟨some 28, .pick (.s 23) (.c (.bool true)) (.s 27), none⟩,
 oM 29 28,
 ⟨some 30, .fld 1 (.s 1), some (29, false)⟩,
 ⟨some 31, .load none (.s 30), some (29, false)⟩,
 ⟨some 32, .len (.s 31), some (29, false)⟩,
 ⟨some 33, .bin .gtr (.s 32) (.c (.int .i64 8)), some (29, false)⟩,
 ⟨some 34, .pick (.s 29) (.c (.bool true)) (.s 33), none⟩])
 (.cond (.s 34)
 (.seq (.reg false false [
 ⟨some 35, .build [(.int .i64 0), (.slice none 0 0), (.slice none 0 0), (.slice none 0 0), (.slice none 0 0)] [], none⟩,
 oS 5 2 35,
 oK 3 50])
 (.ret))
 (.skip)))
 (.seq (.reg true false [
 oN 36 2 1,
 oF 37 1 1,
 oL 38 37,
 oE 39 38,
 oF 41 1 1,
 oL 42 41,
 oE 43 42,
 ⟨some 40, .mk 1 8 [(.int .i64 0)] (.s 39) (.s 39), none⟩,
 ⟨some 44, .mk 1 8 [(.int .u64 0)] (.s 43) (.s 43), none⟩,
 ⟨some 45, .build [(.int .i64 0), (.slice none 0 0), (.slice none 0 0), (.slice none 0 0), (.slice none 0 0)] [(0, 2, (.s 36)), (2, 1, (.s 40)), (3, 1, (.s 44))], none⟩,
 ⟨some 4, .alloc [(.int .i64 0), (.slice none 0 0), (.slice none 0 0), (.slice none 0 0), (.slice none 0 0)], none⟩,
 oS 5 4 45])
 (.seq (.reg false false [
 oK 5 1])
 (.seq (.seq (.reg false false [
 oF 46 0 4,
 oF 47 1 46,
 oL 48 47,
 oE 49 48,
 oK 50 0])
 (.block 0 (.loop (.seq (.reg false false [
 oB 51 .lss 50 49])
 (.seq (.cond (.s 51)
 (.skip)
 (.exit 0))
 (.seq (.block 1 (.seq (.reg false false [
 oM 52 50,
 oI 53 3 48 50,
 oN 54 3 53,
 ⟨some 7, .alloc [(.int .i64 0), (.slice none 0 0), (.slice none 0 0)], none⟩,
 oM 6 52,
 oS 3 7 54])
 (.seq (.seq (.reg false false [
 oF 55 0 7,
 oL 56 55,
 oD 57 .lss 56 1,
 oM 58 57,
 ⟨some 59, .fld 0 (.s 7), some (58, false)⟩,
 ⟨some 60, .load none (.s 59), some (58, false)⟩,
 ⟨some 61, .bin .gtr (.s 60) (.c (.int .i64 4)), some (58, false)⟩,
 ⟨some 62, .pick (.s 58) (.c (.bool true)) (.s 61), none⟩])
 (.cond (.s 62)
 (.seq (.reg false false [
 ⟨some 63, .build [(.int .i64 0), (.slice none 0 0), (.slice none 0 0), (.slice none 0 0), (.slice none 0 0)] [], none⟩,
 oS 5 2 63,
 oK 3 50])
 (.ret))
 (.skip)))
 (.seq (.reg false false [
 oF 64 2 4,
 oL 65 64,
 oM 66 6,
 oF 67 0 7,
 oL 68 67,
 oI 69 1 65 66,
 oS 1 69 68])
 (.reg false false [
 oM 70 5,
 oF 71 0 7,
 oL 72 71,
 oB 73 .mul 70 72,
 oM 5 73])))))
 (.reg false false [
 oD 74 .add 50 1,
 oM 50 74])))))))
 (.seq (.seq (.reg false false [
 oM 75 5,
 oD 76 .gtr 75 1024])
 (.cond (.s 76)
 (.seq (.reg false false [
 ⟨some 77, .build [(.int .i64 0), (.slice none 0 0), (.slice none 0 0), (.slice none 0 0), (.slice none 0 0)] [], none⟩,
 oS 5 2 77,
 oK 3 50])
 (.ret))
 (.skip)))
 (.seq (.seq (.reg false false [
 oF 78 0 4,
 oF 79 1 78,
 oL 80 79,
 oE 81 80,
 oK 82 0])
 (.block 2 (.loop (.seq (.reg false false [
 oB 83 .lss 82 81])
 (.seq (.cond (.s 83)
 (.skip)
 (.exit 2))
 (.seq (.block 3 (.seq (.reg false false [
 oM 84 82,
 oI 85 3 80 82,
 oN 86 3 85,
 ⟨some 9, .alloc [(.int .i64 0), (.slice none 0 0), (.slice none 0 0)], none⟩,
 oM 8 84,
 oS 3 9 86])
 (.seq (.reg false false [
 ⟨some 10, .mov (.c (.int .i64 (-1))), none⟩])
 (.seq (.seq (.reg false false [
 oF 87 1 9,
 oL 88 87,
 oE 89 88,
 oK 90 0])
 (.block 4 (.loop (.seq (.reg false false [
 oB 91 .lss 90 89])
 (.seq (.cond (.s 91)
 (.skip)
 (.exit 4))
 (.seq (.block 5 (.seq (.reg false false [
 oI 92 1 88 90,
 oL 93 92,
 oM 12 93])
 (.seq (.seq (.reg false false [
 oM 94 12,
 oM 95 10,
 oB 96 .leq 94 95,
 oM 97 96,
 ⟨some 98, .mov (.s 12), some (97, false)⟩,
 ⟨some 99, .fld 0 (.s 4), some (97, false)⟩,
 ⟨some 100, .fld 1 (.s 99), some (97, false)⟩,
 ⟨some 101, .load none (.s 100), some (97, false)⟩,
 ⟨some 102, .len (.s 101), some (97, false)⟩,
 ⟨some 103, .bin .geq (.s 98) (.s 102), some (97, false)⟩,
 ⟨some 104, .pick (.s 97) (.c (.bool true)) (.s 103), none⟩,
 oM 105 104,
 ⟨some 106, .mov (.s 12), some (105, false)⟩,
 ⟨some 107, .mov (.s 8), some (105, false)⟩,
 ⟨some 108, .bin .eql (.s 106) (.s 107), some (105, false)⟩,
 ⟨some 109, .pick (.s 105) (.c (.bool true)) (.s 108), none⟩])
 (.cond (.s 109)
 (.seq (.reg false false [
 ⟨some 110, .build [(.int .i64 0), (.slice none 0 0), (.slice none 0 0), (.slice none 0 0), (.slice none 0 0)] [], none⟩,
 oS 5 2 110,
 oK 3 50])
 (.ret))
 (.skip)))
 (.seq (.reg false false [
 oM 111 12,
 oM 10 111])
 (.reg true false [
 oF 112 3 4,
 oL 113 112,
 oM 114 8,
 oI 115 1 113 114,
 oL 116 115,
 oM 117 12,
 ⟨some 118, .bin .shl (.c (.int .u64 1)) (.s 117), none⟩,
 oB 119 .or 116 118,
 oI 120 1 113 114,
 oS 1 120 119])))))
 (.reg false false [
 oD 121 .add 90 1,
 oM 90 121])))))))
 (.seq (.reg false false [
 oN 122 5 4,
 oN 123 3 9,
 ⟨some 124, .call 206 [(.s 122), (.s 123)], none⟩,
 ⟨some 125, .un .not (.s 124), none⟩])
 (.cond (.s 125)
 (.seq (.reg false false [
 ⟨some 126, .build [(.int .i64 0), (.slice none 0 0), (.slice none 0 0), (.slice none 0 0), (.slice none 0 0)] [], none⟩,
 oS 5 2 126,
 oK 3 50])
 (.ret))
 (.skip)))))))
 (.reg false false [
 oD 127 .add 82 1,
 oM 82 127])))))))
 (.seq (.reg false false [
 oF 129 3 4,
 oL 130 129,
 ⟨some 131, .call 207 [(.s 130)], none⟩,
 oM 128 131,
 oX 132 128 0,
 oX 133 128 1,
 oM 13 132,
 oM 14 133])
 (.seq (.seq (.reg false false [
 oM 134 14,
 ⟨some 135, .un .not (.s 134), none⟩])
 (.cond (.s 135)
 (.seq (.reg false false [
 ⟨some 136, .build [(.int .i64 0), (.slice none 0 0), (.slice none 0 0), (.slice none 0 0), (.slice none 0 0)] [], none⟩,
 oS 5 2 136,
 oK 3 50])
 (.ret))
 (.skip)))
 (.seq (.reg false false [
 oM 137 13,
 oF 138 4 4,
 oS 1 138 137])
 (.seq (.reg false false [
 oN 139 5 4,
 oS 5 2 139,
 oK 3 0])
 (.ret))))))))))),
  [.cell 2 (some 5), .tmp 3], false⟩
theorem zpr : zbv Try.prog 145 zsX := .ofL (by kernel_rfl)
def ztR : Mx.Fn := ⟨29,
 .seq (.reg false false [
 ⟨some 4, .mov (.c (.slice none 0 0)), none⟩,
 oK 5 0])
 (.seq (.reg false false [
 oM 9 0,
 ⟨some 10, .call 208 [(.s 9)], none⟩,
 oM 8 10,
 oX 11 8 0,
 oX 12 8 1,
 oM 6 11,
 oM 7 12])
 (.seq (.seq (.reg false false [
 oM 13 7,
 ⟨some 14, .un .not (.s 13), none⟩])
 (.cond (.s 14)
 (.seq (.reg false false [
 ⟨some 4, .mov (.c (.slice none 0 0)), none⟩,
 oK 5 20])
 (.ret))
 (.skip)))
 (.seq (.seq (.reg false false [
 oM 15 1,
 oD 16 .lss 15 0,
 oM 17 16,
 ⟨some 18, .mov (.s 1), some (17, false)⟩,
 ⟨some 19, .mov (.s 6), some (17, false)⟩,
 ⟨some 20, .bin .geq (.s 18) (.s 19), some (17, false)⟩,
 ⟨some 21, .pick (.s 17) (.c (.bool true)) (.s 20), none⟩])
 (.cond (.s 21)
 (.seq (.reg false false [
 ⟨some 4, .mov (.c (.slice none 0 0)), none⟩,
 oK 5 2])
 (.ret))
 (.skip)))
 (.seq (.reg false false [
 oM 22 0,
 oE 23 22,
 oM 24 0,
 oM 25 6,
 oM 26 1,
 ⟨some 27, .call 210 [(.s 24), (.s 25), (.s 26)], none⟩,
 ⟨some 28, .call 209 [(.s 23), (.s 27)], none⟩,
 oM 4 28,
 oK 5 0])
 (.ret))))),
  [.tmp 4, .tmp 5], false⟩
theorem zqz : zbv Try.prog 146 ztR := .ofL (by kernel_rfl)
def zte : Mx.Fn := ⟨105,
 .seq (.reg false false [
 oO 2 0,
 ⟨some 4, .alloc [(.slice none 0 0), (.slice none 0 0), (.slice none 0 0)], none⟩])
 (.seq (.reg false false [
 oF 16 0 2,
 oF 17 1 16,
 oL 18 17,
 oM 19 1,
 oI 20 3 18 19,
 oN 21 3 20,
 ⟨some 5, .alloc [(.int .i64 0), (.slice none 0 0), (.slice none 0 0)], none⟩,
 oS 3 5 21])
 (.seq (.reg false false [
 oF 23 1 5,
 oL 24 23,
 oM 25 1,
 ⟨some 26, .call 213 [(.s 24), (.s 25)], none⟩,
 oM 22 26,
 oX 27 22 0,
 oX 28 22 1,
 oM 6 27,
 oM 7 28])
 (.seq (.reg false false [
 oF 29 1 5,
 oL 30 29,
 ⟨some 31, .call 68 [(.s 30)], none⟩,
 oM 32 6,
 oM 33 1,
 ⟨some 34, .bsl 1 1 [(.int .i64 0)] [(0, (.s 33))], none⟩,
 ⟨some 35, .call 214 [(.s 31), (.s 32), (.s 34)], none⟩,
 ⟨some 36, .build [(.slice none 0 0), (.slice none 0 0), (.slice none 0 0)] [(0, 1, (.s 35))], none⟩,
 ⟨some 8, .alloc [(.slice none 0 0), (.slice none 0 0), (.slice none 0 0)], none⟩,
 oS 3 8 36])
 (.seq (.reg false false [
 ⟨some 9, .alloc [(.int .i64 0)], none⟩,
 ⟨none, .store 1 (.s 9) (.c (.int .i64 1)), none⟩])
 (.seq (.seq (.reg false false [
 oF 37 0 8,
 oL 38 37,
 oE 39 38,
 oK 40 0])
 (.block 0 (.loop (.seq (.reg false false [
 oB 41 .lss 40 39])
 (.seq (.cond (.s 41)
 (.skip)
 (.exit 0))
 (.seq (.block 1 (.seq (.reg false false [
 oM 42 40,
 oI 43 1 38 40,
 oL 44 43,
 oM 10 42,
 oM 11 44])
 (.seq (.reg true false [
 oF 45 1 8,
 oL 46 45,
 oF 47 2 2,
 oL 48 47,
 oM 49 11,
 oI 50 1 48 49,
 oL 51 50,
 ⟨some 52, .bsl 1 1 [(.int .i64 0)] [(0, (.s 51))], none⟩,
 ⟨some 53, .app 1 8 (.s 46) (.s 52), none⟩,
 oF 54 1 8,
 oS 1 54 53])
 (.seq (.reg false false [
 oM 55 10,
 oM 56 6,
 oB 57 .gtr 55 56])
 (.cond (.s 57)
 (.reg true false [
 oL 58 9,
 oF 59 2 2,
 oL 60 59,
 oM 61 11,
 oI 62 1 60 61,
 oL 63 62,
 oB 64 .mul 58 63,
 oS 1 9 64])
 (.skip))))))
 (.reg false false [
 oD 65 .add 40 1,
 oM 40 65])))))))
 (.seq (.reg false false [
 oF 66 2 5,
 oL 67 66,
 oE 68 67,
 oF 69 0 5,
 oL 70 69,
 oB 71 .mul 68 70,
 ⟨some 72, .mk 1 8 [(.int .i64 0)] (.s 71) (.s 71), none⟩,
 oF 73 2 8,
 oS 1 73 72])
 (.seq (.seq (.reg false false [
 oN 74 3 5,
 ⟨some 75, .call 215 [(.s 74)], none⟩])
 (.block 2 (.zdf (.s 75) [76, 77] (.seq (.reg false false [
 oM 12 76])
 (.reg false false [
 oM 13 77]))
 (.block 3 (.seq (.reg false false [
 oM 78 13,
 oE 79 78,
 oK 80 0])
 (.block 4 (.loop (.seq (.reg false false [
 oB 81 .lss 80 79])
 (.seq (.cond (.s 81)
 (.skip)
 (.exit 4))
 (.seq (.block 5 (.seq (.reg false false [
 oM 82 80,
 oI 83 1 78 80,
 oL 84 83,
 oM 14 82,
 oM 15 84])
 (.reg true false [
 oF 85 2 8,
 oL 86 85,
 oM 87 12,
 oL 88 9,
 oB 89 .quo 87 88,
 oF 90 0 5,
 oL 91 90,
 oB 92 .mul 89 91,
 oM 93 14,
 oB 94 .add 92 93,
 oL 95 9,
 oB 96 .mul 94 95,
 oM 97 12,
 oL 98 9,
 oB 99 .rem 97 98,
 oB 100 .add 96 99,
 oM 101 15,
 oI 102 1 86 100,
 oS 1 102 101])))
 (.reg false false [
 oD 103 .add 80 1,
 oM 80 103])))))))))))
 (.seq (.reg false false [
 oN 104 3 8,
 oS 3 4 104])
 (.ret))))))))),
  [.cell 4 (some 3)], false⟩
theorem zqD : zbv Try.prog 151 zte := .ofL (by kernel_rfl)
def zsU : Mx.Fn := ⟨47,
 .seq (.reg false false [
 oO 1 0,
 ⟨some 2, .mov (.c (.slice none 0 0)), none⟩])
 (.seq (.reg false false [
 oF 8 3 1,
 oL 9 8,
 oE 10 9,
 ⟨some 11, .mk 1 8 [(.int .u64 0)] (.s 10) (.s 10), none⟩,
 oM 3 11])
 (.seq (.seq (.reg false false [
 oF 12 3 1,
 oL 13 12,
 oE 14 13,
 oK 15 0])
 (.block 0 (.loop (.seq (.reg false false [
 oB 16 .lss 15 14])
 (.seq (.cond (.s 16)
 (.skip)
 (.exit 0))
 (.seq (.block 1 (.seq (.reg false false [
 oM 17 15,
 oI 18 1 13 15,
 oL 19 18,
 oM 4 17,
 oM 5 19])
 (.seq (.reg false false [
 oM 20 5,
 oM 21 4,
 ⟨some 22, .bin .shl (.c (.int .u64 1)) (.s 21), none⟩,
 oB 23 .or 20 22,
 oM 6 23])
 (.seq (.reg false false [
 oM 24 3,
 oE 25 24,
 oK 26 0])
 (.block 2 (.loop (.seq (.reg false false [
 oB 27 .lss 26 25])
 (.seq (.cond (.s 27)
 (.skip)
 (.exit 2))
 (.seq (.block 3 (.seq (.reg false false [
 oM 28 26,
 oM 7 28])
 (.seq (.reg false false [
 oM 29 6,
 oM 30 7,
 oB 31 .shr 29 30,
 ⟨some 32, .bin .and (.s 31) (.c (.int .u64 1)), none⟩,
 ⟨some 33, .bin .eql (.s 32) (.c (.int .u64 1)), none⟩])
 (.cond (.s 33)
 (.reg true false [
 oM 34 3,
 oM 35 7,
 oI 36 1 34 35,
 oL 37 36,
 oM 38 6,
 oM 39 7,
 ⟨some 40, .bin .shl (.c (.int .u64 1)) (.s 39), none⟩,
 oB 41 .andNot 38 40,
 oB 42 .or 37 41,
 oI 43 1 34 35,
 oS 1 43 42])
 (.skip)))))
 (.reg false false [
 oD 44 .add 26 1,
 oM 26 44]))))))))))
 (.reg false false [
 oD 45 .add 15 1,
 oM 15 45])))))))
 (.seq (.reg false false [
 oM 46 3,
 oM 2 46])
 (.ret)))),
  [.tmp 2], false⟩
theorem zp5 : zbv Try.prog 153 zsU := .ofL (by kernel_rfl)
def zuq : Mx.Fn := ⟨12,
 .seq (.reg false false [
 oO 2 0,
 ⟨some 4, .mov (.c (.int .u64 0)), none⟩])
 (.seq (.reg false false [
 ⟨some 5, .alloc [(.int .u64 0)], none⟩,
 ⟨none, .store 1 (.s 5) (.c (.int .u64 0)), none⟩])
 (.seq (.reg false false [
 ⟨some 6, .alloc [.nilFunc], none⟩])
 (.seq (.reg false false [
 ⟨some 7, .clo 216 [] [(.s 2), (.s 5), (.s 6)], none⟩,
 oS 1 6 7])
 (.seq (.reg false false [
 oL 8 6,
 oM 9 1,
 ⟨some 10, .zbb (.s 8) [(.s 9)], none⟩])
 (.seq (.reg false false [
 oL 11 5,
 oM 4 11])
 (.ret)))))),
  [.tmp 4], true⟩
theorem zqa : zbv Try.prog 154 zuq := .ofL (by kernel_rfl)
def ztb : Mx.Fn := ⟨14,
 .seq (.reg false false [
 oK 2 0,
 oK 3 0])
 (.seq (.reg false false [
 oM 7 0,
 ⟨some 8, .call 208 [(.s 7)], none⟩,
 oM 6 8,
 oX 9 6 0,
 oX 10 6 1,
 oM 4 9,
 oM 5 10])
 (.seq (.seq (.reg false false [
 oM 11 5,
 ⟨some 12, .un .not (.s 11), none⟩])
 (.cond (.s 12)
 (.seq (.reg false false [
 oK 2 0,
 oK 3 20])
 (.ret))
 (.skip)))
 (.seq (.reg false false [
 oM 13 4,
 oM 2 13,
 oK 3 0])
 (.ret)))),
  [.tmp 2, .tmp 3], true⟩
theorem zpG : zbv Try.prog 160 ztb := .ofL (by kernel_rfl)
def zsT : Mx.Fn := ⟨13,
 .seq (.reg false false [
 ⟨some 5, .mov (.c (.bool false)), none⟩])
 (.seq (.reg false false [
 oM 6 0,
 oL 7 2,
 oB 8 .eql 6 7,
 oM 9 8,
 ⟨some 10, .mov (.s 1), some (9, true)⟩,
 ⟨some 11, .bin .eql (.s 10) (.c (.int .i64 0)), some (9, true)⟩,
 oP 12 9 11 false,
 oM 5 12])
 (.ret)),
  [.tmp 5], false⟩
theorem zpe : zbv Try.prog 167 zsT := .ofL (by kernel_rfl)
def zsL : Mx.Fn := ⟨13,
 .seq (.reg false false [
 ⟨some 5, .mov (.c (.bool false)), none⟩])
 (.seq (.reg false false [
 oM 6 1,
 oD 7 .eql 6 0,
 oM 8 7,
 ⟨some 9, .mov (.s 0), some (8, true)⟩,
 ⟨some 10, .load none (.s 2), some (8, true)⟩,
 ⟨some 11, .call 110 [(.s 9), (.s 10)], some (8, true)⟩,
 oP 12 8 11 false,
 oM 5 12])
 (.ret)),
  [.tmp 5], false⟩
theorem zpI : zbv Try.prog 168 zsL := .ofL (by kernel_rfl)
def zut : Mx.Fn := ⟨13,
 .seq (.reg false false [
 ⟨some 5, .mov (.c (.bool false)), none⟩])
 (.seq (.reg false false [
 oM 6 1,
 oD 7 .eql 6 0,
 oM 8 7,
 ⟨some 9, .mov (.s 0), some (8, true)⟩,
 ⟨some 10, .load none (.s 2), some (8, true)⟩,
 ⟨some 11, .call 202 [(.s 9), (.s 10)], some (8, true)⟩,
 oP 12 8 11 false,
 oM 5 12])
 (.ret)),
  [.tmp 5], false⟩
theorem zpi : zbv Try.prog 201 zut := .ofL (by kernel_rfl)
def zum : Mx.Fn := ⟨26,
 .seq (.reg false false [
 ⟨some 4, .mov (.c (.bool false)), none⟩])
 (.seq (.seq (.reg false false [
 oM 6 0,
 oE 7 6,
 oM 8 1,
 oE 9 8,
 oB 10 .neq 7 9])
 (.cond (.s 10)
 (.seq (.reg false false [
 ⟨some 4, .mov (.c (.bool false)), none⟩])
 (.ret))
 (.skip)))
 (.seq (.seq (.reg false false [
 oM 11 0,
 oE 12 11,
 oK 13 0])
 (.block 0 (.loop (.seq (.reg false false [
 oB 14 .lss 13 12])
 (.seq (.cond (.s 14)
 (.skip)
 (.exit 0))
 (.seq (.block 1 (.seq (.reg false false [
 oM 15 13,
 oM 5 15])
 (.seq (.reg true false [
 oM 16 0,
 oM 17 5,
 oI 18 1 16 17,
 oL 19 18,
 oM 20 1,
 oM 21 5,
 oI 22 1 20 21,
 oL 23 22,
 oB 24 .neq 19 23])
 (.cond (.s 24)
 (.seq (.reg false false [
 ⟨some 4, .mov (.c (.bool false)), none⟩])
 (.ret))
 (.skip)))))
 (.reg false false [
 oD 25 .add 13 1,
 oM 13 25])))))))
 (.seq (.reg false false [
 ⟨some 4, .mov (.c (.bool true)), none⟩])
 (.ret)))),
  [.tmp 4], true⟩
theorem zpf : zbv Try.prog 202 zum := .ofL (by kernel_rfl)
def zsY : Mx.Fn := ⟨13,
 .seq (.reg false false [
 ⟨some 5, .mov (.c (.bool false)), none⟩])
 (.seq (.reg false false [
 oM 6 0,
 oL 7 2,
 oB 8 .eql 6 7,
 oM 9 8,
 ⟨some 10, .mov (.s 1), some (9, true)⟩,
 ⟨some 11, .bin .eql (.s 10) (.c (.int .i64 0)), some (9, true)⟩,
 oP 12 9 11 false,
 oM 5 12])
 (.ret)),
  [.tmp 5], false⟩
theorem zp3 : zbv Try.prog 203 zsY := .ofL (by kernel_rfl)
def ztr : Mx.Fn := ⟨15,
 .seq (.reg false false [
 ⟨some 5, .mov (.c (.bool false)), none⟩])
 (.seq (.reg false false [
 oK 6 0])
 (.seq (.reg false false [
 oM 7 0,
 oM 8 6,
 oB 9 .eql 7 8,
 oM 10 9,
 ⟨some 11, .mov (.s 1), some (10, true)⟩,
 ⟨some 12, .load none (.s 2), some (10, true)⟩,
 ⟨some 13, .bin .eql (.s 11) (.s 12), some (10, true)⟩,
 oP 14 10 13 false,
 oM 5 14])
 (.ret))),
  [.tmp 5], false⟩
theorem zqA : zbv Try.prog 204 ztr := .ofL (by kernel_rfl)
def zs8 : Mx.Fn := ⟨15,
 .seq (.reg false false [
 ⟨some 5, .mov (.c (.bool false)), none⟩])
 (.seq (.reg false false [
 ⟨some 6, .mov (.c (.int .u64 0)), none⟩])
 (.seq (.reg false false [
 oM 7 0,
 oM 8 6,
 oB 9 .eql 7 8,
 oM 10 9,
 ⟨some 11, .mov (.s 1), some (10, true)⟩,
 ⟨some 12, .load none (.s 2), some (10, true)⟩,
 ⟨some 13, .bin .eql (.s 11) (.s 12), some (10, true)⟩,
 oP 14 10 13 false,
 oM 5 14])
 (.ret))),
  [.tmp 5], false⟩
theorem zp1 : zbv Try.prog 205 zs8 := .ofL (by kernel_rfl)
def zsZ : Mx.Fn := ⟨66,
 .seq (.reg false false [
 oO 2 0,
 oO 3 1,
 ⟨some 4, .alloc [(.bool false)], none⟩])
 (.seq (.reg false false [
 oK 5 1])
 (.seq (.seq (.reg false false [
 oF 13 1 3,
 oL 14 13,
 oE 15 14,
 oK 16 0])
 (.block 0 (.loop (.seq (.reg false false [
 oB 17 .lss 16 15])
 (.seq (.cond (.s 17)
 (.skip)
 (.exit 0))
 (.seq (.block 1 (.seq (.reg false false [
 oI 18 1 14 16,
 oL 19 18,
 oM 7 19])
 (.reg false false [
 oM 20 5,
 oF 21 2 2,
 oL 22 21,
 oM 23 7,
 oI 24 1 22 23,
 oL 25 24,
 oB 26 .mul 20 25,
 oM 5 26])))
 (.reg false false [
 oD 27 .add 16 1,
 oM 16 27])))))))
 (.seq (.seq (.reg false false [
 oF 28 2 3,
 oL 29 28,
 oE 30 29,
 oM 31 5,
 oB 32 .neq 30 31])
 (.cond (.s 32)
 (.seq (.reg false false [
 ⟨none, .store 1 (.s 4) (.c (.bool false)), none⟩])
 (.ret))
 (.skip)))
 (.seq (.seq (.reg false false [
 oN 33 3 3,
 ⟨some 34, .call 215 [(.s 33)], none⟩])
 (.block 2 (.zdf (.s 34) [35, 36] (.reg false false [
 oM 9 36])
 (.block 3 (.seq (.reg false false [
 oF 37 0 2,
 oF 38 0 37,
 oL 39 38,
 oM 10 39])
 (.seq (.seq (.reg false false [
 oM 40 9,
 oE 41 40,
 oK 42 0])
 (.block 4 (.loop (.seq (.reg false false [
 oB 43 .lss 42 41])
 (.seq (.cond (.s 43)
 (.skip)
 (.exit 4))
 (.seq (.block 5 (.seq (.reg false false [
 oI 44 1 40 42,
 oL 45 44,
 oM 12 45])
 (.seq (.seq (.reg false false [
 oM 46 12,
 oD 47 .lss 46 0,
 oM 48 47,
 ⟨some 49, .mov (.s 12), some (48, false)⟩,
 ⟨some 50, .mov (.s 10), some (48, false)⟩,
 ⟨some 51, .bin .gtr (.s 49) (.s 50), some (48, false)⟩,
 ⟨some 52, .pick (.s 48) (.c (.bool true)) (.s 51), none⟩])
 (.cond (.s 52)
 (.seq (.reg false false [
 ⟨none, .store 1 (.s 4) (.c (.bool false)), none⟩])
 (.ret))
 (.skip)))
 (.reg false false [
 oM 53 10,
 oM 54 12,
 oB 55 .sub 53 54,
 oM 10 55]))))
 (.reg false false [
 oD 56 .add 42 1,
 oM 42 56])))))))
 (.seq (.reg false false [
 oM 57 9,
 oE 58 57,
 oF 59 0 3,
 oL 60 59,
 oB 61 .neq 58 60,
 oM 62 61,
 ⟨some 63, .mov (.s 10), some (62, false)⟩,
 ⟨some 64, .bin .neq (.s 63) (.c (.int .i64 0)), some (62, false)⟩,
 ⟨some 65, .pick (.s 62) (.c (.bool true)) (.s 64), none⟩])
 (.cond (.s 65)
 (.seq (.reg false false [
 ⟨none, .store 1 (.s 4) (.c (.bool false)), none⟩])
 (.ret))
 (.skip)))))))))
 (.seq (.reg false false [
 ⟨none, .store 1 (.s 4) (.c (.bool true)), none⟩])
 (.ret)))))),
  [.cell 4 none], true⟩
theorem zpY : zbv Try.prog 206 zsZ := .ofL (by kernel_rfl)
def zuB : Mx.Fn := ⟨44,
 .seq (.reg false false [
 ⟨some 2, .mov (.c (.slice none 0 0)), none⟩,
 ⟨some 3, .mov (.c (.bool false)), none⟩])
 (.scope (.seq (.reg false false [
 oM 8 0,
 oE 9 8,
 ⟨some 10, .mk 1 8 [(.int .i64 0)] (.c (.int .i64 0)) (.s 9), none⟩,
 oM 4 10,
 ⟨some 5, .mov (.c (.int .u64 0)), none⟩])
 (.seq (.label 0)
 (.seq (.block 0 (.loop (.seq (.seq (.reg false false [
 oM 11 4,
 oE 12 11,
 oM 13 0,
 oE 14 13,
 oB 15 .lss 12 14])
 (.cond (.s 15)
 (.skip)
 (.exit 0)))
 (.block 1 (.seq (.seq (.reg false false [
 oM 16 0,
 oE 17 16,
 oK 18 0])
 (.block 2 (.loop (.seq (.reg false false [
 oB 19 .lss 18 17])
 (.seq (.cond (.s 19)
 (.skip)
 (.exit 2))
 (.seq (.block 3 (.seq (.reg false false [
 oM 20 18,
 oI 21 1 16 18,
 oL 22 21,
 oM 6 20,
 oM 7 22])
 (.seq (.reg false false [
 oM 23 5,
 oM 24 6,
 oB 25 .shr 23 24,
 ⟨some 26, .bin .and (.s 25) (.c (.int .u64 1)), none⟩,
 ⟨some 27, .bin .eql (.s 26) (.c (.int .u64 0)), none⟩,
 oM 28 27,
 ⟨some 29, .mov (.s 7), some (28, true)⟩,
 ⟨some 30, .mov (.s 5), some (28, true)⟩,
 ⟨some 31, .bin .andNot (.s 29) (.s 30), some (28, true)⟩,
 ⟨some 32, .bin .eql (.s 31) (.c (.int .u64 0)), some (28, true)⟩,
 oP 33 28 32 false])
 (.cond (.s 33)
 (.seq (.reg false false [
 oM 34 4,
 oM 35 6,
 ⟨some 36, .bsl 1 1 [(.int .i64 0)] [(0, (.s 35))], none⟩,
 ⟨some 37, .app 1 8 (.s 34) (.s 36), none⟩,
 oM 4 37])
 (.seq (.reg false false [
 oM 38 5,
 oM 39 6,
 ⟨some 40, .bin .shl (.c (.int .u64 1)) (.s 39), none⟩,
 oB 41 .or 38 40,
 oM 5 41])
 (.exit 1)))
 (.skip)))))
 (.reg false false [
 oD 42 .add 18 1,
 oM 18 42])))))))
 (.seq (.reg false false [
 ⟨some 2, .mov (.c (.slice none 0 0)), none⟩,
 ⟨some 3, .mov (.c (.bool false)), none⟩])
 (.ret)))))))
 (.seq (.reg false false [
 oM 43 4,
 oM 2 43,
 ⟨some 3, .mov (.c (.bool true)), none⟩])
 (.ret)))))),
  [.tmp 2, .tmp 3], false⟩
theorem zp4 : zbv Try.prog 207 zuB := .ofL (by kernel_rfl)
def ztU : Mx.Fn := ⟨30,
 .seq (.reg false false [
 oK 2 0,
 ⟨some 3, .mov (.c (.bool false)), none⟩])
 (.scope (.seq (.seq (.reg false false [
 oM 6 0,
 oE 7 6,
 oD 8 .gtr 7 12])
 (.cond (.s 8)
 (.seq (.reg false false [
 oK 2 0,
 ⟨some 3, .mov (.c (.bool false)), none⟩])
 (.ret))
 (.skip)))
 (.seq (.reg false false [
 oK 2 1,
 ⟨some 3, .mov (.c (.bool true)), none⟩])
 (.seq (.label 0)
 (.seq (.seq (.reg false false [
 oM 9 0,
 oE 10 9,
 oK 11 0])
 (.block 0 (.loop (.seq (.reg false false [
 oB 12 .lss 11 10])
 (.seq (.cond (.s 12)
 (.skip)
 (.exit 0))
 (.seq (.block 1 (.seq (.reg false false [
 oI 13 1 9 11,
 oL 14 13,
 oM 5 14])
 (.seq (.block 2 (.seq (.seq (.reg false false [
 oM 16 5,
 oD 17 .lss 16 1,
 oM 15 17])
 (.cond (.s 15)
 (.skip)
 (.seq (.reg false false [
 oM 18 5,
 oD 19 .gtr 18 8,
 oM 15 19])
 (.cond (.s 15)
 (.skip)
 (.reg false false [
 oM 20 2,
 oM 21 5,
 oB 22 .mul 20 21,
 oD 23 .gtr 22 4096,
 oM 15 23])))))
 (.cond (.s 15)
 (.seq (.reg false false [
 oK 2 0,
 ⟨some 3, .mov (.c (.bool false)), none⟩])
 (.exit 0))
 (.skip))))
 (.reg false false [
 oM 24 2,
 oM 25 5,
 oB 26 .mul 24 25,
 oM 2 26]))))
 (.reg false false [
 oD 27 .add 11 1,
 oM 11 27])))))))
 (.seq (.reg false false [
 oM 28 2,
 oM 29 3,
 oM 2 28,
 oM 3 29])
 (.ret))))))),
  [.tmp 2, .tmp 3], true⟩
theorem zpT : zbv Try.prog 208 ztU := .ofL (by kernel_rfl)
def zs7 : Mx.Fn := ⟨18,
 .seq (.reg false false [
 ⟨some 4, .mov (.c (.slice none 0 0)), none⟩])
 (.seq (.reg false false [
 oM 8 0,
 ⟨some 9, .mk 1 8 [(.int .i64 0)] (.s 8) (.s 8), none⟩,
 ⟨some 5, .alloc [(.slice none 0 0)], none⟩,
 oS 1 5 9])
 (.seq (.seq (.reg false false [
 oM 10 1])
 (.block 0 (.zdf (.s 10) [11, 12] (.seq (.reg false false [
 oM 6 11])
 (.reg false false [
 oM 7 12]))
 (.block 1 (.reg false false [
 oL 13 5,
 oM 14 6,
 oM 15 7,
 oI 16 1 13 14,
 oS 1 16 15])))))
 (.seq (.reg false false [
 oL 17 5,
 oM 4 17])
 (.ret)))),
  [.tmp 4], false⟩
theorem zqI : zbv Try.prog 209 zs7 := .ofL (by kernel_rfl)
def zus : Mx.Fn := ⟨8,
 .seq (.reg false false [
 oO 3 0,
 oO 4 1,
 oO 5 2,
 ⟨some 6, .mov (.c .nilFunc), none⟩])
 (.seq (.reg false false [
 ⟨some 7, .clo 232 [] [(.s 5), (.s 4), (.s 3)], none⟩,
 oM 6 7])
 (.ret)),
  [.tmp 6], false⟩
theorem zpJ : zbv Try.prog 210 zus := .ofL (by kernel_rfl)
def zta : Mx.Fn := ⟨54,
 .seq (.reg false false [
 oK 4 0,
 ⟨some 5, .mov (.c (.bool false)), none⟩])
 (.seq (.reg false false [
 oM 10 0,
 oE 11 10,
 oM 6 11])
 (.seq (.reg false false [
 oM 12 6,
 oK 7 0,
 oM 8 12])
 (.seq (.block 0 (.loop (.seq (.seq (.reg false false [
 oM 13 7,
 oM 14 8,
 oB 15 .lss 13 14])
 (.cond (.s 15)
 (.skip)
 (.exit 0)))
 (.block 1 (.seq (.reg false false [
 oM 16 7,
 oM 17 8,
 oB 18 .add 16 17,
 ⟨some 19, .conv .u64 (.s 18), none⟩,
 ⟨some 20, .bin .shr (.s 19) (.c (.int .u64 1)), none⟩,
 ⟨some 21, .conv .i64 (.s 20), none⟩,
 oM 9 21])
 (.seq (.reg false false [
 oM 22 0,
 oM 23 9,
 oI 24 1 22 23,
 oL 25 24,
 oM 26 1,
 ⟨some 27, .call 226 [(.s 25), (.s 26)], none⟩])
 (.cond (.s 27)
 (.reg false false [
 oM 28 9,
 oD 29 .add 28 1,
 oM 7 29])
 (.reg false false [
 oM 30 9,
 oM 8 30]))))))))
 (.seq (.reg false false [
 oM 31 7,
 oM 32 7,
 oM 33 6,
 oB 34 .lss 32 33,
 oM 35 34,
 ⟨some 36, .mov (.s 0), some (35, true)⟩,
 ⟨some 37, .mov (.s 7), some (35, true)⟩,
 ⟨some 38, .idxS 1 (.s 36) (.s 37), some (35, true)⟩,
 ⟨some 39, .load none (.s 38), some (35, true)⟩,
 ⟨some 40, .mov (.s 1), some (35, true)⟩,
 ⟨some 41, .bin .eql (.s 39) (.s 40), some (35, true)⟩,
 ⟨some 42, .mov (.s 41), some (35, true)⟩,
 ⟨some 43, .mov (.s 0), some (42, false)⟩,
 ⟨some 44, .mov (.s 7), some (42, false)⟩,
 ⟨some 45, .idxS 1 (.s 43) (.s 44), some (42, false)⟩,
 ⟨some 46, .load none (.s 45), some (42, false)⟩,
 ⟨some 47, .call 233 [(.s 46)], some (42, false)⟩,
 ⟨some 48, .mov (.s 47), some (42, false)⟩,
 ⟨some 49, .mov (.s 1), some (48, true)⟩,
 ⟨some 50, .call 233 [(.s 49)], some (48, true)⟩,
 ⟨some 51, .pick (.s 48) (.s 50) (.c (.bool false)), some (42, false)⟩,
 ⟨some 52, .pick (.s 42) (.c (.bool true)) (.s 51), some (35, true)⟩,
 oP 53 35 52 false,
 oM 4 31,
 oM 5 53])
 (.ret))))),
  [.tmp 4, .tmp 5], true⟩
theorem zp2 : zbv Try.prog 213 zta := .ofL (by kernel_rfl)
def ztF : Mx.Fn := ⟨95,
 .seq (.reg false false [
 ⟨some 6, .mov (.c (.slice none 0 0)), none⟩])
 (.seq (.reg false false [
 oM 10 0,
 oM 11 1,
 ⟨some 12, .slc 1 (.s 10) (some (.s 11)) none none, none⟩])
 (.seq (.reg false false [
 oM 13 2,
 oE 14 13,
 oM 7 14])
 (.seq (.seq (.reg false false [
 oM 15 7,
 oD 16 .eql 15 0])
 (.cond (.s 16)
 (.seq (.reg false false [
 oM 17 0,
 oM 6 17])
 (.ret))
 (.skip)))
 (.seq (.reg false false [
 oM 18 0,
 oE 19 18,
 oM 8 19])
 (.seq (.seq (.reg false false [
 oM 20 1,
 oM 21 8,
 oB 22 .eql 20 21])
 (.cond (.s 22)
 (.seq (.reg false false [
 oM 23 0,
 oM 24 2,
 ⟨some 25, .app 1 8 (.s 23) (.s 24), none⟩,
 oM 6 25])
 (.ret))
 (.skip)))
 (.seq (.seq (.reg false false [
 oM 26 8,
 oM 27 7,
 oB 28 .add 26 27,
 oM 29 0,
 ⟨some 30, .bad, none⟩,
 oB 31 .gtr 28 30])
 (.cond (.s 31)
 (.seq (.reg false false [
 oM 32 0,
 oM 33 1,
 ⟨some 34, .slc 1 (.s 32) none (some (.s 33)) none, none⟩,
 oM 35 8,
 oM 36 7,
 oB 37 .add 35 36,
 oM 38 1,
 oB 39 .sub 37 38,
 ⟨some 40, .bad, none⟩,
 oM 9 40])
 (.seq (.reg false false [
 oM 41 9,
 oM 42 1,
 ⟨some 43, .slc 1 (.s 41) (some (.s 42)) none none, none⟩,
 oM 44 2,
 ⟨some 45, .copy 1 (.s 43) (.s 44), none⟩])
 (.seq (.reg true false [
 oM 46 9,
 oM 47 1,
 oM 48 7,
 oB 49 .add 47 48,
 ⟨some 50, .slc 1 (.s 46) (some (.s 49)) none none, none⟩,
 oM 51 0,
 oM 52 1,
 ⟨some 53, .slc 1 (.s 51) (some (.s 52)) none none, none⟩,
 ⟨some 54, .copy 1 (.s 50) (.s 53), none⟩])
 (.seq (.reg false false [
 oM 55 9,
 oM 6 55])
 (.ret)))))
 (.skip)))
 (.seq (.reg false false [
 oM 56 0,
 oM 57 8,
 oM 58 7,
 oB 59 .add 57 58,
 ⟨some 60, .slc 1 (.s 56) none (some (.s 59)) none, none⟩,
 oM 0 60])
 (.seq (.seq (.reg false false [
 oM 61 2,
 oM 62 0,
 oM 63 1,
 oM 64 7,
 oB 65 .add 63 64,
 ⟨some 66, .slc 1 (.s 62) (some (.s 65)) none none, none⟩,
 ⟨some 67, .bad, none⟩,
 ⟨some 68, .un .not (.s 67), none⟩])
 (.cond (.s 68)
 (.seq (.reg true false [
 oM 69 0,
 oM 70 1,
 oM 71 7,
 oB 72 .add 70 71,
 ⟨some 73, .slc 1 (.s 69) (some (.s 72)) none none, none⟩,
 oM 74 0,
 oM 75 1,
 ⟨some 76, .slc 1 (.s 74) (some (.s 75)) none none, none⟩,
 ⟨some 77, .copy 1 (.s 73) (.s 76), none⟩])
 (.seq (.reg false false [
 oM 78 0,
 oM 79 1,
 ⟨some 80, .slc 1 (.s 78) (some (.s 79)) none none, none⟩,
 oM 81 2,
 ⟨some 82, .copy 1 (.s 80) (.s 81), none⟩])
 (.seq (.reg false false [
 oM 83 0,
 oM 6 83])
 (.ret))))
 (.skip)))
 (.seq (.reg false false [
 oM 84 0,
 oM 85 8,
 ⟨some 86, .slc 1 (.s 84) (some (.s 85)) none none, none⟩,
 oM 87 2,
 ⟨some 88, .copy 1 (.s 86) (.s 87), none⟩])
 (.seq (.reg false false [
 oM 89 0,
 oM 90 1,
 ⟨some 91, .slc 1 (.s 89) (some (.s 90)) none none, none⟩,
 oM 92 7,
 ⟨some 93, .call 235 [(.s 91), (.s 92)], none⟩])
 (.seq (.reg false false [
 oM 94 0,
 oM 6 94])
 (.ret)))))))))))),
  [.tmp 6], false⟩
theorem zpv : zbv Try.prog 214 ztF := .ofL (by kernel_rfl)
def ztl : Mx.Fn := ⟨4,
 .seq (.reg false false [
 oO 1 0,
 ⟨some 2, .mov (.c .nilFunc), none⟩])
 (.seq (.reg false false [
 ⟨some 3, .clo 236 [] [(.s 1)], none⟩,
 oM 2 3])
 (.ret)),
  [.tmp 2], false⟩
theorem zqH : zbv Try.prog 215 ztl := .ofL (by kernel_rfl)
def zt2 : Mx.Fn := ⟨29,
 .seq (.reg false false [
 oL 6 1,
 oE 7 6,
 oK 8 0])
 (.block 0 (.loop (.seq (.reg false false [
 oB 9 .lss 8 7])
 (.seq (.cond (.s 9)
 (.skip)
 (.exit 0))
 (.seq (.block 1 (.seq (.reg false false [
 oM 10 8,
 oM 5 10])
 (.seq (.reg false false [
 oM 11 0,
 oL 12 2,
 oB 13 .andNot 11 12,
 oM 14 5,
 oB 15 .shr 13 14,
 ⟨some 16, .bin .and (.s 15) (.c (.int .u64 1)), none⟩,
 ⟨some 17, .bin .eql (.s 16) (.c (.int .u64 1)), none⟩])
 (.cond (.s 17)
 (.seq (.reg true false [
 oL 18 2,
 oM 19 5,
 ⟨some 20, .bin .shl (.c (.int .u64 1)) (.s 19), none⟩,
 oB 21 .or 18 20,
 oS 1 2 21])
 (.reg true false [
 oL 22 3,
 oL 23 1,
 oM 24 5,
 oI 25 1 23 24,
 oL 26 25,
 ⟨some 27, .zbb (.s 22) [(.s 26)], none⟩]))
 (.skip)))))
 (.reg false false [
 oD 28 .add 8 1,
 oM 8 28])))))),
  [], false⟩
theorem zpk : zbv Try.prog 216 zt2 := .ofL (by kernel_rfl)
def zt8 : Mx.Fn := ⟨17,
 .seq (.reg false false [
 ⟨some 4, .mov (.c (.bool false)), none⟩])
 (.seq (.reg false false [
 oM 5 0,
 ⟨some 6, .call 242 [(.s 5)], none⟩,
 oM 7 6,
 ⟨some 8, .mov (.s 1), some (7, true)⟩,
 ⟨some 9, .call 242 [(.s 8)], some (7, true)⟩,
 ⟨some 10, .un .not (.s 9), some (7, true)⟩,
 oP 11 7 10 false,
 oM 12 11,
 ⟨some 13, .mov (.s 0), some (12, false)⟩,
 ⟨some 14, .mov (.s 1), some (12, false)⟩,
 ⟨some 15, .bin .lss (.s 13) (.s 14), some (12, false)⟩,
 ⟨some 16, .pick (.s 12) (.c (.bool true)) (.s 15), none⟩,
 oM 4 16])
 (.ret)),
  [.tmp 4], true⟩
theorem zqm : zbv Try.prog 226 zt8 := .ofL (by kernel_rfl)
def zuc : Mx.Fn := ⟨32,
 .seq (.reg true false [
 oL 9 1,
 oL 10 2,
 oM 5 9,
 oM 6 10])
 (.seq (.reg false false [
 oL 11 3,
 oE 12 11,
 oK 13 0])
 (.block 0 (.loop (.seq (.reg false false [
 oB 14 .lss 13 12])
 (.seq (.cond (.s 14)
 (.skip)
 (.exit 0))
 (.seq (.block 1 (.seq (.reg false false [
 oM 15 13,
 oI 16 1 11 13,
 oL 17 16,
 oM 7 15,
 oM 8 17])
 (.seq (.reg false false [
 oM 18 6,
 oM 19 8,
 oB 20 .quo 18 19,
 oM 6 20])
 (.seq (.seq (.reg false false [
 oM 21 0,
 oM 22 7,
 oM 23 5,
 oM 24 6,
 oB 25 .quo 23 24,
 ⟨some 26, .zbb (.s 21) [(.s 22), (.s 25)], none⟩,
 ⟨some 27, .un .not (.s 26), none⟩])
 (.cond (.s 27)
 (.ret)
 (.skip)))
 (.reg false false [
 oM 28 5,
 oM 29 6,
 oB 30 .rem 28 29,
 oM 5 30])))))
 (.reg false false [
 oD 31 .add 13 1,
 oM 13 31]))))))),
  [], false⟩
theorem zpQ : zbv Try.prog 232 zuc := .ofL (by kernel_rfl)
def zs0 : Mx.Fn := ⟨6,
 .seq (.reg false false [
 ⟨some 2, .mov (.c (.bool false)), none⟩])
 (.seq (.reg false false [
 oM 3 0,
 oM 4 0,
 oB 5 .neq 3 4,
 oM 2 5])
 (.ret)),
  [.tmp 2], true⟩
theorem zql : zbv Try.prog 233 zs0 := .ofL (by kernel_rfl)
def zuk : Mx.Fn := ⟨10,
 .reg false false [
 oM 4 0,
 oM 5 0,
 oE 6 5,
 oM 7 1,
 oB 8 .sub 6 7,
 ⟨some 9, .call 244 [(.s 4), (.s 8)], none⟩],
  [], false⟩
theorem zpl : zbv Try.prog 235 zuk := .ofL (by kernel_rfl)
def zue : Mx.Fn := ⟨19,
 .seq (.reg false false [
 oF 5 2 1,
 oL 6 5,
 oE 7 6,
 oK 8 0])
 (.block 0 (.loop (.seq (.reg false false [
 oB 9 .lss 8 7])
 (.seq (.cond (.s 9)
 (.skip)
 (.exit 0))
 (.seq (.block 1 (.seq (.reg false false [
 oM 10 8,
 oI 11 1 6 8,
 oL 12 11,
 oM 3 10,
 oM 4 12])
 (.seq (.reg false false [
 oM 13 0,
 oM 14 3,
 oM 15 4,
 ⟨some 16, .zbb (.s 13) [(.s 14), (.s 15)], none⟩,
 ⟨some 17, .un .not (.s 16), none⟩])
 (.cond (.s 17)
 (.ret)
 (.skip)))))
 (.reg false false [
 oD 18 .add 8 1,
 oM 8 18])))))),
  [], false⟩
theorem zpL : zbv Try.prog 236 zue := .ofL (by kernel_rfl)
def ztB : Mx.Fn := ⟨6,
 .seq (.reg false false [
 ⟨some 2, .mov (.c (.bool false)), none⟩])
 (.seq (.reg false false [
 oM 3 0,
 oM 4 0,
 oB 5 .neq 3 4,
 oM 2 5])
 (.ret)),
  [.tmp 2], true⟩
theorem zo5 : zbv Try.prog 242 ztB := .ofL (by kernel_rfl)
def ztk : Mx.Fn := ⟨14,
 .seq (.reg false false [
 oM 4 0,
 oM 5 1,
 ⟨some 6, .slc 1 (.s 4) none (some (.s 5)) none, none⟩,
 ⟨some 7, .call 246 [(.s 6)], none⟩])
 (.seq (.reg false false [
 oM 8 0,
 oM 9 1,
 ⟨some 10, .slc 1 (.s 8) (some (.s 9)) none none, none⟩,
 ⟨some 11, .call 246 [(.s 10)], none⟩])
 (.reg false false [
 oM 12 0,
 ⟨some 13, .call 246 [(.s 12)], none⟩])),
  [], false⟩
theorem zqF : zbv Try.prog 244 ztk := .ofL (by kernel_rfl)
def ztX : Mx.Fn := ⟨28,
 .seq (.reg false false [
 oM 4 0,
 oE 5 4,
 oD 6 .sub 5 1,
 oK 2 0,
 oM 3 6])
 (.block 0 (.loop (.seq (.seq (.reg false false [
 oM 7 2,
 oM 8 3,
 oB 9 .lss 7 8])
 (.cond (.s 9)
 (.skip)
 (.exit 0)))
 (.seq (.block 1 (.reg true false [
 oM 14 0,
 oM 15 2,
 oM 16 0,
 oM 17 3,
 oM 18 0,
 oM 19 3,
 oI 20 1 18 19,
 oL 21 20,
 oM 22 0,
 oM 23 2,
 oI 24 1 22 23,
 oL 25 24,
 oI 26 1 14 15,
 oS 1 26 21,
 oI 27 1 16 17,
 oS 1 27 25]))
 (.reg false false [
 oM 10 2,
 oD 11 .add 10 1,
 oM 12 3,
 oD 13 .sub 12 1,
 oM 2 11,
 oM 3 13]))))),
  [], false⟩
theorem zqi : zbv Try.prog 246 ztX := .ofL (by kernel_rfl)
def tab : List (Nat × Mx.Fn) := [(37, zvw), (41, zvK), (42, zvx), (50, zvQ), (51, zvu), (54, zvq), (55, zvA), (56, zvT), (61, zvG), (62, zvN), (63, zvE), (68, zvv), (70, zvU), (71, zvH), (73, zvR), (79, zvy), (80, zvJ), (110, ztZ), (130, ztu), (131, ztK), (132, ztJ), (133, zuA), (134, ztO), (135, ztg), (136, zsW), (137, zsO), (138, zs2), (145, zsX), (146, ztR), (151, zte), (153, zsU), (154, zuq), (160, ztb), (167, zsT), (168, zsL), (201, zut), (202, zum), (203, zsY), (204, ztr), (205, zs8), (206, zsZ), (207, zuB), (208, ztU), (209, zs7), (210, zus), (213, zta), (214, ztF), (215, ztl), (216, zt2), (226, zt8), (232, zuc), (233, zs0), (235, zuk), (236, zue), (242, ztB), (244, ztk), (246, ztX)]
theorem zuu : ∀ x ∈ tab, zbv Try.prog x.1 x.2 := by
  intro x hx
  simp only [tab, List.mem_cons, List.not_mem_nil, or_false] at hx
  rcases hx with rfl | rfl | rfl | rfl | rfl | rfl | rfl | rfl | rfl | rfl | rfl | rfl | rfl | rfl | rfl | rfl | rfl | rfl | rfl | rfl | rfl | rfl | rfl | rfl | rfl | rfl | rfl | rfl | rfl | rfl | rfl | rfl | rfl | rfl | rfl | rfl | rfl | rfl | rfl | rfl | rfl | rfl | rfl | rfl | rfl | rfl | rfl | rfl | rfl | rfl | rfl | rfl | rfl | rfl | rfl | rfl | rfl
  · exact zrp
  · exact zsv
  · exact zr4
  · exact zrA
  · exact zr9
  · exact zr1
  · exact zsn
  · exact zrX
  · exact zsz
  · exact zsp
  · exact zrH
  · exact zrJ
  · exact zsk
  · exact zr0
  · exact zrv
  · exact zrK
  · exact zr8
  · exact zqd
  · exact zo3
  · exact zpE
  · exact zpN
  · exact zpX
  · exact zqC
  · exact zqn
  · exact zqE
  · exact zpp
  · exact zo9
  · exact zpr
  · exact zqz
  · exact zqD
  · exact zp5
  · exact zqa
  · exact zpG
  · exact zpe
  · exact zpI
  · exact zpi
  · exact zpf
  · exact zp3
  · exact zqA
  · exact zp1
  · exact zpY
  · exact zp4
  · exact zpT
  · exact zqI
  · exact zpJ
  · exact zp2
  · exact zpv
  · exact zqH
  · exact zpk
  · exact zqm
  · exact zpQ
  · exact zql
  · exact zpl
  · exact zpL
  · exact zo5
  · exact zqF
  · exact zqi
end Go.Proofs.Ytobhjbbinnbdaaa.W
