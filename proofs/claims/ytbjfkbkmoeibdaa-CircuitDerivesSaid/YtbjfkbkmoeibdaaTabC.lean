/-
  The plain form of the functions that one law reaches, printed by a program of this repo (wip/mx) and held against the loaded program by the kernel. Conditions: none.
-/
import Derived.Test.YtbjfkbkmoeibdaaMx16
import Derived.Test.YtbjfkbkmoeibdaaRows
namespace Go.Proofs.Ytbjfkbkmoeibdaa.C
open Go Go.Mx
set_option linter.unusedSimpArgs false
set_option linter.unusedVariables false
set_option maxRecDepth 100000
-- haruspex/haruspexlaw15.CircuitChecks,haruspex/haruspexlaw15.CircuitEvals,haruspex/haruspexlaw15.CircuitDerives,haruspex/haruspexlaw15.CircuitAdds,haruspex/haruspexlaw15.CircuitGrows: [3, 4, 5, 6, 7]; [3, 4, 5, 6, 7, 10, 11, 12, 13, 14, 15, 16, 17, 18, 19, 20, 21, 22, 23, 24, 25, 26, 27, 28, 29, 30, 31, 32, 34, 38, 39, 40, 41, 42, 43, 44, 45, 46, 47, 48, 49, 50, 51, 52, 53, 54, 55, 56, 57, 58, 67, 68, 69, 70, 71, 72, 73, 74, 75, 76, 77, 79, 85, 91]
/-- haruspex/haruspexlaw15.CircuitEvals -/
def fn4 : Mx.Fn := ⟨68,
 .seq (.reg false false [
 ⟨some 5, .box (.s 0), none⟩,
 ⟨some 6, .box (.s 1), none⟩,
 ⟨some 7, .box (.s 2), none⟩,
 ⟨some 8, .box (.s 3), none⟩,
 ⟨some 10, .mov (.c (.bool false)), none⟩])
 (.seq (.seq (.reg false false [
 ⟨some 19, .call 10 [], none⟩,
 ⟨some 20, .un .not (.s 19), none⟩])
 (.cond (.s 20)
 (.seq (.reg false false [
 ⟨some 10, .mov (.c (.bool false)), none⟩])
 (.ret))
 (.skip)))
 (.seq (.seq (.reg false false [
 ⟨some 21, .load (some 3) (.s 5), none⟩,
 ⟨some 22, .load (some 6) (.s 6), none⟩,
 ⟨some 23, .load (some 2) (.s 7), none⟩,
 ⟨some 24, .call 11 [(.s 21), (.s 22), (.s 23)], none⟩,
 ⟨some 25, .mov (.c (.int .i64 0)), none⟩])
 (.block 0 (.loop (.seq (.reg false false [
 ⟨some 26, .bin .lss (.s 25) (.c (.int .i64 4)), none⟩])
 (.seq (.cond (.s 26)
 (.skip)
 (.exit 0))
 (.seq (.block 1 (.seq (.reg false false [
 ⟨some 27, .idxV (some 2) 4 (.s 24) (.s 25), none⟩,
 ⟨some 12, .alloc [(.slice none 0 0), (.slice none 0 0)], none⟩,
 ⟨none, .store 2 (.s 12) (.s 27), none⟩])
 (.seq (.reg true false [
 ⟨some 28, .fld 0 (.s 12), none⟩,
 ⟨some 29, .load none (.s 28), none⟩,
 ⟨some 30, .fld 0 (.s 12), none⟩,
 ⟨some 31, .load none (.s 30), none⟩,
 ⟨some 32, .len (.s 31), none⟩,
 ⟨some 33, .mm false [(.s 32), (.c (.int .i64 10))], none⟩,
 ⟨some 34, .slc 1 (.s 29) none (some (.s 33)) none, none⟩,
 ⟨some 35, .load (some 8) (.s 8), none⟩,
 ⟨some 37, .mov (.s 4), none⟩,
 ⟨some 38, .mov (.s 4), none⟩,
 ⟨some 39, .len (.s 38), none⟩,
 ⟨some 40, .mm false [(.s 39), (.c (.int .i64 10))], none⟩,
 ⟨some 41, .slc 1 (.s 37) none (some (.s 40)) none, none⟩,
 ⟨some 43, .mov (.c (.int .i64 0)), none⟩,
 ⟨some 36, .call 19 [(.s 34), (.s 35)], none⟩,
 ⟨some 42, .build [(.slice none 0 0), (.slice none 0 0)] [(0, 1, (.s 36)), (1, 1, (.s 41))], none⟩])
 (.block 2 (.loop (.seq (.reg false false [
 ⟨some 44, .bin .lss (.s 43) (.c (.int .i64 2)), none⟩])
 (.seq (.cond (.s 44)
 (.skip)
 (.exit 2))
 (.seq (.block 3 (.seq (.reg false false [
 ⟨some 45, .idxV none 2 (.s 42) (.s 43), none⟩,
 ⟨some 14, .mov (.s 45), none⟩])
 (.seq (.reg false false [
 ⟨some 47, .load (some 2) (.s 12), none⟩,
 ⟨some 48, .mov (.s 14), none⟩,
 ⟨some 49, .call 20 [(.s 47), (.s 48)], none⟩,
 ⟨some 46, .mov (.s 49), none⟩,
 ⟨some 50, .ext (.s 46) 0, none⟩,
 ⟨some 51, .ext (.s 46) 1, none⟩,
 ⟨some 15, .mov (.s 50), none⟩,
 ⟨some 16, .mov (.s 51), none⟩])
 (.seq (.reg false false [
 ⟨some 53, .load (some 2) (.s 12), none⟩,
 ⟨some 54, .mov (.s 14), none⟩,
 ⟨some 55, .call 21 [(.s 53), (.s 54)], none⟩,
 ⟨some 52, .mov (.s 55), none⟩,
 ⟨some 56, .ext (.s 52) 0, none⟩,
 ⟨some 57, .ext (.s 52) 1, none⟩,
 ⟨some 17, .mov (.s 56), none⟩,
 ⟨some 18, .mov (.s 57), none⟩])
 (.seq (.reg false false [
 ⟨some 58, .mov (.s 15), none⟩,
 ⟨some 59, .mov (.s 17), none⟩,
 ⟨some 60, .bin .neq (.s 58) (.s 59), none⟩,
 ⟨some 61, .mov (.s 60), none⟩,
 ⟨some 62, .mov (.s 16), some (61, false)⟩,
 ⟨some 63, .mov (.s 18), some (61, false)⟩,
 ⟨some 64, .bin .neq (.s 62) (.s 63), some (61, false)⟩,
 ⟨some 65, .pick (.s 61) (.c (.bool true)) (.s 64), none⟩])
 (.cond (.s 65)
 (.seq (.reg false false [
 ⟨some 10, .mov (.c (.bool false)), none⟩])
 (.ret))
 (.skip)))))))
 (.reg false false [
 ⟨some 66, .bin .add (.s 43) (.c (.int .i64 1)), none⟩,
 ⟨some 43, .mov (.s 66), none⟩])))))))))
 (.reg false false [
 ⟨some 67, .bin .add (.s 25) (.c (.int .i64 1)), none⟩,
 ⟨some 25, .mov (.s 67), none⟩])))))))
 (.seq (.reg false false [
 ⟨some 10, .mov (.c (.bool true)), none⟩])
 (.ret)))),
 [.tmp 10], true⟩
theorem fn4_ok : FnOk Try.prog 4 fn4 := by unfold FnOk; kernel_rfl
/-- haruspex/haruspexlaw15.CircuitDerives -/
def fn5 : Mx.Fn := ⟨69,
 .seq (.reg false false [
 ⟨some 5, .box (.s 0), none⟩,
 ⟨some 6, .box (.s 1), none⟩,
 ⟨some 7, .box (.s 2), none⟩,
 ⟨some 8, .box (.s 3), none⟩,
 ⟨some 10, .mov (.c (.bool false)), none⟩])
 (.seq (.seq (.reg false false [
 ⟨some 19, .call 10 [], none⟩,
 ⟨some 20, .un .not (.s 19), none⟩])
 (.cond (.s 20)
 (.seq (.reg false false [
 ⟨some 10, .mov (.c (.bool false)), none⟩])
 (.ret))
 (.skip)))
 (.seq (.seq (.reg false false [
 ⟨some 21, .load (some 3) (.s 5), none⟩,
 ⟨some 22, .load (some 6) (.s 6), none⟩,
 ⟨some 23, .load (some 2) (.s 7), none⟩,
 ⟨some 24, .call 11 [(.s 21), (.s 22), (.s 23)], none⟩,
 ⟨some 25, .mov (.c (.int .i64 0)), none⟩])
 (.block 0 (.loop (.seq (.reg false false [
 ⟨some 26, .bin .lss (.s 25) (.c (.int .i64 4)), none⟩])
 (.seq (.cond (.s 26)
 (.skip)
 (.exit 0))
 (.seq (.block 1 (.seq (.reg false false [
 ⟨some 27, .idxV (some 2) 4 (.s 24) (.s 25), none⟩,
 ⟨some 12, .alloc [(.slice none 0 0), (.slice none 0 0)], none⟩,
 ⟨none, .store 2 (.s 12) (.s 27), none⟩])
 (.seq (.reg true false [
 ⟨some 28, .fld 0 (.s 12), none⟩,
 ⟨some 29, .load none (.s 28), none⟩,
 ⟨some 30, .fld 0 (.s 12), none⟩,
 ⟨some 31, .load none (.s 30), none⟩,
 ⟨some 32, .len (.s 31), none⟩,
 ⟨some 33, .mm false [(.s 32), (.c (.int .i64 10))], none⟩,
 ⟨some 34, .slc 1 (.s 29) none (some (.s 33)) none, none⟩,
 ⟨some 35, .load (some 8) (.s 8), none⟩,
 ⟨some 37, .mov (.s 4), none⟩,
 ⟨some 38, .mov (.s 4), none⟩,
 ⟨some 39, .len (.s 38), none⟩,
 ⟨some 40, .mm false [(.s 39), (.c (.int .i64 10))], none⟩,
 ⟨some 41, .slc 1 (.s 37) none (some (.s 40)) none, none⟩,
 ⟨some 43, .mov (.c (.int .i64 0)), none⟩,
 ⟨some 36, .call 19 [(.s 34), (.s 35)], none⟩,
 ⟨some 42, .build [(.slice none 0 0), (.slice none 0 0)] [(0, 1, (.s 36)), (1, 1, (.s 41))], none⟩])
 (.block 2 (.loop (.seq (.reg false false [
 ⟨some 44, .bin .lss (.s 43) (.c (.int .i64 2)), none⟩])
 (.seq (.cond (.s 44)
 (.skip)
 (.exit 2))
 (.seq (.block 3 (.seq (.reg false false [
 ⟨some 45, .idxV none 2 (.s 42) (.s 43), none⟩,
 ⟨some 14, .mov (.s 45), none⟩])
 (.seq (.reg false false [
 ⟨some 47, .load (some 2) (.s 12), none⟩,
 ⟨some 48, .mov (.s 14), none⟩,
 ⟨some 49, .call 22 [(.s 47), (.s 48)], none⟩,
 ⟨some 46, .mov (.s 49), none⟩,
 ⟨some 50, .ext (.s 46) 0, none⟩,
 ⟨some 51, .ext (.s 46) 1, none⟩,
 ⟨some 15, .mov (.s 50), none⟩,
 ⟨some 16, .mov (.s 51), none⟩])
 (.seq (.reg false false [
 ⟨some 53, .load (some 2) (.s 12), none⟩,
 ⟨some 54, .mov (.s 14), none⟩,
 ⟨some 55, .call 23 [(.s 53), (.s 54)], none⟩,
 ⟨some 52, .mov (.s 55), none⟩,
 ⟨some 56, .ext (.s 52) 0, none⟩,
 ⟨some 57, .ext (.s 52) 1, none⟩,
 ⟨some 17, .mov (.s 56), none⟩,
 ⟨some 18, .mov (.s 57), none⟩])
 (.seq (.reg false false [
 ⟨some 58, .mov (.s 16), none⟩,
 ⟨some 59, .mov (.s 18), none⟩,
 ⟨some 60, .bin .neq (.s 58) (.s 59), none⟩,
 ⟨some 61, .mov (.s 60), none⟩,
 ⟨some 62, .mov (.s 15), some (61, false)⟩,
 ⟨some 63, .mov (.s 17), some (61, false)⟩,
 ⟨some 64, .call 24 [(.s 62), (.s 63)], some (61, false)⟩,
 ⟨some 65, .un .not (.s 64), some (61, false)⟩,
 ⟨some 66, .pick (.s 61) (.c (.bool true)) (.s 65), none⟩])
 (.cond (.s 66)
 (.seq (.reg false false [
 ⟨some 10, .mov (.c (.bool false)), none⟩])
 (.ret))
 (.skip)))))))
 (.reg false false [
 ⟨some 67, .bin .add (.s 43) (.c (.int .i64 1)), none⟩,
 ⟨some 43, .mov (.s 67), none⟩])))))))))
 (.reg false false [
 ⟨some 68, .bin .add (.s 25) (.c (.int .i64 1)), none⟩,
 ⟨some 25, .mov (.s 68), none⟩])))))))
 (.seq (.reg false false [
 ⟨some 10, .mov (.c (.bool true)), none⟩])
 (.ret)))),
 [.tmp 10], true⟩
theorem fn5_ok : FnOk Try.prog 5 fn5 := by unfold FnOk; kernel_rfl
/-- haruspex/haruspexlaw15.wakes -/
def fn10 : Mx.Fn := ⟨89,
 .seq (.reg false false [
 ⟨some 0, .mov (.c (.bool false)), none⟩])
 (.seq (.reg false false [
 ⟨some 11, .call 28 [], none⟩,
 ⟨some 1, .alloc [(.slice none 0 0), (.slice none 0 0)], none⟩,
 ⟨none, .store 2 (.s 1) (.s 11), none⟩])
 (.seq (.reg false false [
 ⟨some 13, .load (some 2) (.s 1), none⟩,
 ⟨some 14, .bsl 1 1 [(.int .i64 0)] [(0, (.c (.int .i64 (-1))))], none⟩,
 ⟨some 15, .call 22 [(.s 13), (.s 14)], none⟩,
 ⟨some 12, .mov (.s 15), none⟩,
 ⟨some 16, .ext (.s 12) 0, none⟩,
 ⟨some 17, .ext (.s 12) 1, none⟩,
 ⟨some 2, .mov (.s 16), none⟩,
 ⟨some 3, .mov (.s 17), none⟩])
 (.seq (.reg false false [
 ⟨some 19, .load (some 2) (.s 1), none⟩,
 ⟨some 20, .call 14 [(.s 19)], none⟩,
 ⟨some 18, .mov (.s 20), none⟩,
 ⟨some 21, .ext (.s 18) 0, none⟩,
 ⟨some 22, .ext (.s 18) 1, none⟩,
 ⟨some 23, .ext (.s 18) 2, none⟩,
 ⟨some 24, .ext (.s 18) 3, none⟩,
 ⟨some 4, .mov (.s 21), none⟩,
 ⟨some 5, .mov (.s 22), none⟩,
 ⟨some 6, .mov (.s 23), none⟩,
 ⟨some 7, .mov (.s 24), none⟩])
 (.seq (.reg false false [
 ⟨some 26, .load (some 2) (.s 1), none⟩,
 ⟨some 27, .call 15 [(.s 26)], none⟩,
 ⟨some 25, .mov (.s 27), none⟩,
 ⟨some 28, .ext (.s 25) 0, none⟩,
 ⟨some 29, .ext (.s 25) 1, none⟩,
 ⟨some 30, .ext (.s 25) 2, none⟩,
 ⟨some 8, .mov (.s 28), none⟩,
 ⟨some 9, .mov (.s 29), none⟩,
 ⟨some 10, .mov (.s 30), none⟩])
 (.seq (.reg false false [
 ⟨some 31, .load (some 2) (.s 1), none⟩,
 ⟨some 32, .bsl 1 1 [(.int .i64 0)] [(0, (.c (.int .i64 (-1))))], none⟩,
 ⟨some 33, .call 34 [(.s 31), (.c (.int .i64 8)), (.s 32)], none⟩,
 ⟨some 34, .mov (.s 33), none⟩,
 ⟨some 35, .load (some 2) (.s 1), some (34, true)⟩,
 ⟨some 36, .bsl 1 1 [(.int .i64 0)] [(0, (.c (.int .i64 0)))], some (34, true)⟩,
 ⟨some 37, .call 34 [(.s 35), (.c (.int .i64 3)), (.s 36)], some (34, true)⟩,
 ⟨some 38, .pick (.s 34) (.s 37) (.c (.bool false)), none⟩,
 ⟨some 39, .mov (.s 38), none⟩,
 ⟨some 40, .load (some 2) (.s 1), some (39, true)⟩,
 ⟨some 41, .bsl 1 1 [(.int .i64 0)] [(0, (.c (.int .i64 1)))], some (39, true)⟩,
 ⟨some 42, .call 34 [(.s 40), (.c (.int .i64 5)), (.s 41)], some (39, true)⟩,
 ⟨some 43, .pick (.s 39) (.s 42) (.c (.bool false)), none⟩,
 ⟨some 44, .mov (.s 43), none⟩,
 ⟨some 45, .mov (.s 3), some (44, true)⟩,
 ⟨some 46, .bin .eql (.s 45) (.c (.int .i64 0)), some (44, true)⟩,
 ⟨some 47, .pick (.s 44) (.s 46) (.c (.bool false)), none⟩,
 ⟨some 48, .mov (.s 47), none⟩,
 ⟨some 49, .mov (.s 2), some (48, true)⟩,
 ⟨some 50, .bsl 1 2 [(.int .i64 0)] [(0, (.c (.int .i64 3))), (1, (.c (.int .i64 5)))], some (48, true)⟩,
 ⟨some 51, .bsl 1 1 [(.slice none 0 0)] [(0, (.s 50))], some (48, true)⟩,
 ⟨some 52, .call 24 [(.s 49), (.s 51)], some (48, true)⟩,
 ⟨some 53, .pick (.s 48) (.s 52) (.c (.bool false)), none⟩,
 ⟨some 54, .mov (.s 53), none⟩,
 ⟨some 55, .mov (.s 4), some (54, true)⟩,
 ⟨some 56, .pick (.s 54) (.s 55) (.c (.bool false)), none⟩,
 ⟨some 57, .mov (.s 56), none⟩,
 ⟨some 58, .mov (.s 5), some (57, true)⟩,
 ⟨some 59, .pick (.s 57) (.s 58) (.c (.bool false)), none⟩,
 ⟨some 60, .mov (.s 59), none⟩,
 ⟨some 61, .mov (.s 6), some (60, true)⟩,
 ⟨some 62, .pick (.s 60) (.s 61) (.c (.bool false)), none⟩,
 ⟨some 63, .mov (.s 62), none⟩,
 ⟨some 64, .mov (.s 7), some (63, true)⟩,
 ⟨some 65, .bin .eql (.s 64) (.c (.int .i64 0)), some (63, true)⟩,
 ⟨some 66, .pick (.s 63) (.s 65) (.c (.bool false)), none⟩,
 ⟨some 67, .mov (.s 66), none⟩,
 ⟨some 68, .mov (.s 8), some (67, true)⟩,
 ⟨some 69, .bin .eql (.s 68) (.c (.int .i64 7)), some (67, true)⟩,
 ⟨some 70, .pick (.s 67) (.s 69) (.c (.bool false)), none⟩,
 ⟨some 71, .mov (.s 70), none⟩,
 ⟨some 72, .mov (.s 9), some (71, true)⟩,
 ⟨some 73, .bin .eql (.s 72) (.c (.int .i64 6)), some (71, true)⟩,
 ⟨some 74, .pick (.s 71) (.s 73) (.c (.bool false)), none⟩,
 ⟨some 75, .mov (.s 74), none⟩,
 ⟨some 76, .mov (.s 10), some (75, true)⟩,
 ⟨some 77, .bin .eql (.s 76) (.c (.int .i64 0)), some (75, true)⟩,
 ⟨some 78, .pick (.s 75) (.s 77) (.c (.bool false)), none⟩,
 ⟨some 79, .mov (.s 78), none⟩,
 ⟨some 80, .load (some 2) (.s 1), some (79, true)⟩,
 ⟨some 81, .call 13 [(.s 80)], some (79, true)⟩,
 ⟨some 82, .bin .eql (.s 81) (.c (.int .i64 0)), some (79, true)⟩,
 ⟨some 83, .pick (.s 79) (.s 82) (.c (.bool false)), none⟩,
 ⟨some 84, .mov (.s 83), none⟩,
 ⟨some 85, .build [(.slice none 0 0), (.slice none 0 0)] [], some (84, true)⟩,
 ⟨some 86, .call 13 [(.s 85)], some (84, true)⟩,
 ⟨some 87, .bin .eql (.s 86) (.c (.int .i64 150)), some (84, true)⟩,
 ⟨some 88, .pick (.s 84) (.s 87) (.c (.bool false)), none⟩,
 ⟨some 0, .mov (.s 88), none⟩])
 (.ret)))))),
 [.tmp 0], true⟩
theorem fn10_ok : FnOk Try.prog 10 fn10 := by unfold FnOk; kernel_rfl
/-- haruspex/haruspexlaw15.circuits -/
def fn11 : Mx.Fn := ⟨25,
 .seq (.reg false false [
 ⟨some 3, .box (.s 0), none⟩,
 ⟨some 4, .box (.s 1), none⟩,
 ⟨some 5, .box (.s 2), none⟩,
 ⟨some 6, .alloc [(.slice none 0 0), (.slice none 0 0), (.slice none 0 0), (.slice none 0 0), (.slice none 0 0), (.slice none 0 0), (.slice none 0 0), (.slice none 0 0)], none⟩])
 (.seq (.reg false false [
 ⟨some 8, .load (some 3) (.s 3), none⟩,
 ⟨some 9, .call 25 [(.s 8)], none⟩,
 ⟨some 7, .alloc [(.slice none 0 0), (.slice none 0 0)], none⟩,
 ⟨none, .store 2 (.s 7) (.s 9), none⟩])
 (.seq (.reg true true [
 ⟨some 10, .load (some 2) (.s 7), none⟩,
 ⟨some 11, .idxA 3 2 (.s 4) (.c (.int .i64 0)), none⟩,
 ⟨some 12, .load (some 3) (.s 11), none⟩,
 ⟨some 13, .load (some 2) (.s 7), none⟩,
 ⟨some 15, .idxA 3 2 (.s 4) (.c (.int .i64 1)), none⟩,
 ⟨some 16, .load (some 3) (.s 15), none⟩,
 ⟨some 17, .idxA 3 2 (.s 4) (.c (.int .i64 0)), none⟩,
 ⟨some 18, .load (some 3) (.s 17), none⟩,
 ⟨some 19, .load (some 2) (.s 7), none⟩,
 ⟨some 22, .load (some 2) (.s 5), none⟩,
 ⟨some 14, .call 38 [(.s 12), (.s 13)], none⟩,
 ⟨some 20, .call 38 [(.s 18), (.s 19)], none⟩,
 ⟨some 21, .call 38 [(.s 16), (.s 20)], none⟩,
 ⟨some 23, .call 39 [(.s 22)], none⟩,
 ⟨some 24, .build [(.slice none 0 0), (.slice none 0 0), (.slice none 0 0), (.slice none 0 0), (.slice none 0 0), (.slice none 0 0), (.slice none 0 0), (.slice none 0 0)] [(0, 2, (.s 10)), (2, 2, (.s 14)), (4, 2, (.s 21)), (6, 2, (.s 23))], none⟩,
 ⟨none, .store 8 (.s 6) (.s 24), none⟩])
 (.ret))),
 [.cell 6 (some 8)], false⟩
theorem fn11_ok : FnOk Try.prog 11 fn11 := by unfold FnOk; kernel_rfl
/-- haruspex/haruspexref15.Right -/
def fn12 : Mx.Fn := ⟨37,
 .seq (.reg false false [
 ⟨some 1, .box (.s 0), none⟩,
 ⟨some 2, .mov (.c (.bool false)), none⟩])
 (.seq (.seq (.reg false false [
 ⟨some 4, .fld 0 (.s 1), none⟩,
 ⟨some 5, .load none (.s 4), none⟩,
 ⟨some 6, .call 40 [(.s 5)], none⟩,
 ⟨some 7, .un .not (.s 6), none⟩,
 ⟨some 8, .mov (.s 7), none⟩,
 ⟨some 9, .fld 1 (.s 1), some (8, false)⟩,
 ⟨some 10, .load none (.s 9), some (8, false)⟩,
 ⟨some 11, .len (.s 10), some (8, false)⟩,
 ⟨some 12, .bin .lss (.s 11) (.c (.int .i64 1)), some (8, false)⟩,
 ⟨some 13, .pick (.s 8) (.c (.bool true)) (.s 12), none⟩,
 ⟨some 14, .mov (.s 13), none⟩,
 ⟨some 15, .fld 1 (.s 1), some (14, false)⟩,
 ⟨some 16, .load none (.s 15), some (14, false)⟩,
 ⟨some 17, .len (.s 16), some (14, false)⟩,
 ⟨some 18, .bin .gtr (.s 17) (.c (.int .i64 4000)), some (14, false)⟩,
 ⟨some 19, .pick (.s 14) (.c (.bool true)) (.s 18), none⟩])
 (.cond (.s 19)
 (.seq (.reg false false [
 ⟨some 2, .mov (.c (.bool false)), none⟩])
 (.ret))
 (.skip)))
 (.seq (.seq (.reg false false [
 ⟨some 3, .mov (.c (.int .i64 0)), none⟩])
 (.block 0 (.loop (.seq (.seq (.reg false false [
 ⟨some 20, .mov (.s 3), none⟩,
 ⟨some 21, .fld 1 (.s 1), none⟩,
 ⟨some 22, .load none (.s 21), none⟩,
 ⟨some 23, .len (.s 22), none⟩,
 ⟨some 24, .bin .lss (.s 20) (.s 23), none⟩])
 (.cond (.s 24)
 (.skip)
 (.exit 0)))
 (.seq (.block 1 (.seq (.reg true false [
 ⟨some 27, .fld 1 (.s 1), none⟩,
 ⟨some 28, .load none (.s 27), none⟩,
 ⟨some 29, .mov (.s 3), none⟩,
 ⟨some 30, .idxS 5 (.s 28) (.s 29), none⟩,
 ⟨some 31, .load (some 5) (.s 30), none⟩,
 ⟨some 32, .mov (.s 3), none⟩,
 ⟨some 33, .fld 0 (.s 1), none⟩,
 ⟨some 34, .load none (.s 33), none⟩,
 ⟨some 35, .call 41 [(.s 31), (.s 32), (.s 34)], none⟩,
 ⟨some 36, .un .not (.s 35), none⟩])
 (.cond (.s 36)
 (.seq (.reg false false [
 ⟨some 2, .mov (.c (.bool false)), none⟩])
 (.ret))
 (.skip))))
 (.reg false false [
 ⟨some 25, .mov (.s 3), none⟩,
 ⟨some 26, .bin .add (.s 25) (.c (.int .i64 1)), none⟩,
 ⟨some 3, .mov (.s 26), none⟩]))))))
 (.seq (.reg false false [
 ⟨some 2, .mov (.c (.bool true)), none⟩])
 (.ret)))),
 [.tmp 2], true⟩
theorem fn12_ok : FnOk Try.prog 12 fn12 := by unfold FnOk; kernel_rfl
/-- haruspex/circuit.Check -/
def fn13 : Mx.Fn := ⟨63,
 .seq (.reg false false [
 ⟨some 1, .box (.s 0), none⟩,
 ⟨some 2, .mov (.c (.int .i64 0)), none⟩])
 (.seq (.seq (.reg false false [
 ⟨some 8, .fld 0 (.s 1), none⟩,
 ⟨some 9, .load none (.s 8), none⟩,
 ⟨some 10, .len (.s 9), none⟩,
 ⟨some 11, .bin .lss (.s 10) (.c (.int .i64 1)), none⟩,
 ⟨some 12, .mov (.s 11), none⟩,
 ⟨some 13, .fld 0 (.s 1), some (12, false)⟩,
 ⟨some 14, .load none (.s 13), some (12, false)⟩,
 ⟨some 15, .len (.s 14), some (12, false)⟩,
 ⟨some 16, .bin .gtr (.s 15) (.c (.int .i64 8)), some (12, false)⟩,
 ⟨some 17, .pick (.s 12) (.c (.bool true)) (.s 16), none⟩,
 ⟨some 18, .mov (.s 17), none⟩,
 ⟨some 19, .fld 1 (.s 1), some (18, false)⟩,
 ⟨some 20, .load none (.s 19), some (18, false)⟩,
 ⟨some 21, .len (.s 20), some (18, false)⟩,
 ⟨some 22, .bin .lss (.s 21) (.c (.int .i64 1)), some (18, false)⟩,
 ⟨some 23, .pick (.s 18) (.c (.bool true)) (.s 22), none⟩,
 ⟨some 24, .mov (.s 23), none⟩,
 ⟨some 25, .fld 1 (.s 1), some (24, false)⟩,
 ⟨some 26, .load none (.s 25), some (24, false)⟩,
 ⟨some 27, .len (.s 26), some (24, false)⟩,
 ⟨some 28, .bin .gtr (.s 27) (.c (.int .i64 4000)), some (24, false)⟩,
 ⟨some 29, .pick (.s 24) (.c (.bool true)) (.s 28), none⟩])
 (.cond (.s 29)
 (.seq (.reg false false [
 ⟨some 2, .mov (.c (.int .i64 150)), none⟩])
 (.ret))
 (.skip)))
 (.seq (.reg false false [
 ⟨some 3, .mov (.c (.int .i64 1)), none⟩])
 (.seq (.seq (.reg false false [
 ⟨some 30, .fld 0 (.s 1), none⟩,
 ⟨some 31, .load none (.s 30), none⟩,
 ⟨some 32, .len (.s 31), none⟩,
 ⟨some 33, .mov (.c (.int .i64 0)), none⟩])
 (.block 0 (.loop (.seq (.reg false false [
 ⟨some 34, .bin .lss (.s 33) (.s 32), none⟩])
 (.seq (.cond (.s 34)
 (.skip)
 (.exit 0))
 (.seq (.block 1 (.seq (.reg false false [
 ⟨some 35, .idxS 1 (.s 31) (.s 33), none⟩,
 ⟨some 36, .load none (.s 35), none⟩,
 ⟨some 5, .mov (.s 36), none⟩])
 (.seq (.seq (.reg false false [
 ⟨some 37, .mov (.s 5), none⟩,
 ⟨some 38, .bin .lss (.s 37) (.c (.int .i64 1)), none⟩,
 ⟨some 39, .mov (.s 38), none⟩,
 ⟨some 40, .mov (.s 5), some (39, false)⟩,
 ⟨some 41, .bin .gtr (.s 40) (.c (.int .i64 4)), some (39, false)⟩,
 ⟨some 42, .pick (.s 39) (.c (.bool true)) (.s 41), none⟩])
 (.cond (.s 42)
 (.seq (.reg false false [
 ⟨some 2, .mov (.c (.int .i64 150)), none⟩])
 (.ret))
 (.skip)))
 (.reg false false [
 ⟨some 43, .mov (.s 3), none⟩,
 ⟨some 44, .mov (.s 5), none⟩,
 ⟨some 45, .bin .mul (.s 43) (.s 44), none⟩,
 ⟨some 3, .mov (.s 45), none⟩]))))
 (.reg false false [
 ⟨some 46, .bin .add (.s 33) (.c (.int .i64 1)), none⟩,
 ⟨some 33, .mov (.s 46), none⟩])))))))
 (.seq (.seq (.reg false false [
 ⟨some 47, .mov (.s 3), none⟩,
 ⟨some 48, .bin .gtr (.s 47) (.c (.int .i64 1024)), none⟩])
 (.cond (.s 48)
 (.seq (.reg false false [
 ⟨some 2, .mov (.c (.int .i64 150)), none⟩])
 (.ret))
 (.skip)))
 (.seq (.seq (.reg false false [
 ⟨some 49, .fld 1 (.s 1), none⟩,
 ⟨some 50, .load none (.s 49), none⟩,
 ⟨some 51, .len (.s 50), none⟩,
 ⟨some 52, .mov (.c (.int .i64 0)), none⟩])
 (.block 2 (.loop (.seq (.reg false false [
 ⟨some 53, .bin .lss (.s 52) (.s 51), none⟩])
 (.seq (.cond (.s 53)
 (.skip)
 (.exit 2))
 (.seq (.block 3 (.seq (.reg false false [
 ⟨some 54, .mov (.s 52), none⟩,
 ⟨some 55, .idxS 5 (.s 50) (.s 52), none⟩,
 ⟨some 56, .load (some 5) (.s 55), none⟩,
 ⟨some 7, .alloc [(.int .i64 0), (.int .i64 0), (.int .i64 0), (.int .i64 0), (.slice none 0 0)], none⟩,
 ⟨some 6, .mov (.s 54), none⟩,
 ⟨none, .store 5 (.s 7) (.s 56), none⟩])
 (.seq (.reg false false [
 ⟨some 57, .load (some 2) (.s 1), none⟩,
 ⟨some 58, .mov (.s 6), none⟩,
 ⟨some 59, .load (some 5) (.s 7), none⟩,
 ⟨some 60, .call 42 [(.s 57), (.s 58), (.s 59)], none⟩,
 ⟨some 61, .un .not (.s 60), none⟩])
 (.cond (.s 61)
 (.seq (.reg false false [
 ⟨some 2, .mov (.c (.int .i64 150)), none⟩])
 (.ret))
 (.skip)))))
 (.reg false false [
 ⟨some 62, .bin .add (.s 52) (.c (.int .i64 1)), none⟩,
 ⟨some 52, .mov (.s 62), none⟩])))))))
 (.seq (.reg false false [
 ⟨some 2, .mov (.c (.int .i64 0)), none⟩])
 (.ret))))))),
 [.tmp 2], true⟩
theorem fn13_ok : FnOk Try.prog 13 fn13 := by unfold FnOk; kernel_rfl
/-- haruspex/circuit.Kinds -/
def fn14 : Mx.Fn := ⟨78,
 .seq (.reg false false [
 ⟨some 1, .box (.s 0), none⟩,
 ⟨some 2, .mov (.c (.bool false)), none⟩,
 ⟨some 3, .mov (.c (.bool false)), none⟩,
 ⟨some 4, .mov (.c (.bool false)), none⟩,
 ⟨some 5, .mov (.c (.int .i64 0)), none⟩])
 (.seq (.seq (.reg false false [
 ⟨some 12, .load (some 2) (.s 1), none⟩,
 ⟨some 13, .call 13 [(.s 12)], none⟩,
 ⟨some 5, .mov (.s 13), none⟩])
 (.seq (.reg false false [
 ⟨some 14, .mov (.s 5), none⟩,
 ⟨some 15, .bin .neq (.s 14) (.c (.int .i64 0)), none⟩])
 (.cond (.s 15)
 (.seq (.reg false false [
 ⟨some 16, .mov (.s 5), none⟩,
 ⟨some 2, .mov (.c (.bool false)), none⟩,
 ⟨some 3, .mov (.c (.bool false)), none⟩,
 ⟨some 4, .mov (.c (.bool false)), none⟩,
 ⟨some 5, .mov (.s 16), none⟩])
 (.ret))
 (.skip))))
 (.seq (.reg false false [
 ⟨some 2, .mov (.c (.bool true)), none⟩,
 ⟨some 3, .mov (.c (.bool true)), none⟩])
 (.seq (.reg false false [
 ⟨some 17, .load (some 2) (.s 1), none⟩,
 ⟨some 18, .call 43 [(.s 17)], none⟩,
 ⟨some 6, .mov (.s 18), none⟩])
 (.seq (.seq (.reg false false [
 ⟨some 19, .fld 1 (.s 1), none⟩,
 ⟨some 20, .load none (.s 19), none⟩,
 ⟨some 21, .len (.s 20), none⟩,
 ⟨some 22, .mov (.c (.int .i64 0)), none⟩])
 (.block 0 (.loop (.seq (.reg false false [
 ⟨some 23, .bin .lss (.s 22) (.s 21), none⟩])
 (.seq (.cond (.s 23)
 (.skip)
 (.exit 0))
 (.seq (.block 1 (.seq (.reg false false [
 ⟨some 24, .idxS 5 (.s 20) (.s 22), none⟩,
 ⟨some 25, .load (some 5) (.s 24), none⟩,
 ⟨some 8, .alloc [(.int .i64 0), (.int .i64 0), (.int .i64 0), (.int .i64 0), (.slice none 0 0)], none⟩,
 ⟨none, .store 5 (.s 8) (.s 25), none⟩])
 (.seq (.reg false false [
 ⟨some 9, .mov (.c (.int .u64 0)), none⟩])
 (.seq (.reg false false [
 ⟨some 26, .fld 4 (.s 8), none⟩,
 ⟨some 27, .load none (.s 26), none⟩,
 ⟨some 28, .len (.s 27), none⟩,
 ⟨some 29, .mov (.c (.int .i64 0)), none⟩])
 (.block 2 (.loop (.seq (.reg false false [
 ⟨some 30, .bin .lss (.s 29) (.s 28), none⟩])
 (.seq (.cond (.s 30)
 (.skip)
 (.exit 2))
 (.seq (.block 3 (.seq (.reg false false [
 ⟨some 31, .idxS 1 (.s 27) (.s 29), none⟩,
 ⟨some 32, .load none (.s 31), none⟩,
 ⟨some 11, .mov (.s 32), none⟩])
 (.seq (.seq (.reg false false [
 ⟨some 33, .fld 0 (.s 8), none⟩,
 ⟨some 34, .load none (.s 33), none⟩,
 ⟨some 35, .bin .eql (.s 34) (.c (.int .i64 3)), none⟩])
 (.cond (.s 35)
 (.reg true false [
 ⟨some 36, .mov (.s 2), none⟩,
 ⟨some 37, .mov (.s 36), none⟩,
 ⟨some 38, .mov (.s 6), some (37, true)⟩,
 ⟨some 39, .mov (.s 11), some (37, true)⟩,
 ⟨some 40, .idxS 1 (.s 38) (.s 39), some (37, true)⟩,
 ⟨some 41, .load none (.s 40), some (37, true)⟩,
 ⟨some 42, .mov (.s 6), some (37, true)⟩,
 ⟨some 43, .fld 4 (.s 8), some (37, true)⟩,
 ⟨some 44, .load none (.s 43), some (37, true)⟩,
 ⟨some 45, .idxS 1 (.s 44) (.c (.int .i64 0)), some (37, true)⟩,
 ⟨some 46, .load none (.s 45), some (37, true)⟩,
 ⟨some 47, .idxS 1 (.s 42) (.s 46), some (37, true)⟩,
 ⟨some 48, .load none (.s 47), some (37, true)⟩,
 ⟨some 49, .bin .eql (.s 41) (.s 48), some (37, true)⟩,
 ⟨some 50, .pick (.s 37) (.s 49) (.c (.bool false)), none⟩,
 ⟨some 2, .mov (.s 50), none⟩])
 (.reg false false [
 ⟨some 51, .mov (.s 3), none⟩,
 ⟨some 52, .mov (.s 51), none⟩,
 ⟨some 53, .mov (.s 6), some (52, true)⟩,
 ⟨some 54, .mov (.s 11), some (52, true)⟩,
 ⟨some 55, .idxS 1 (.s 53) (.s 54), some (52, true)⟩,
 ⟨some 56, .load none (.s 55), some (52, true)⟩,
 ⟨some 57, .mov (.s 9), some (52, true)⟩,
 ⟨some 58, .bin .and (.s 56) (.s 57), some (52, true)⟩,
 ⟨some 59, .bin .eql (.s 58) (.c (.int .u64 0)), some (52, true)⟩,
 ⟨some 60, .pick (.s 52) (.s 59) (.c (.bool false)), none⟩,
 ⟨some 3, .mov (.s 60), none⟩])))
 (.reg false false [
 ⟨some 61, .mov (.s 9), none⟩,
 ⟨some 62, .mov (.s 6), none⟩,
 ⟨some 63, .mov (.s 11), none⟩,
 ⟨some 64, .idxS 1 (.s 62) (.s 63), none⟩,
 ⟨some 65, .load none (.s 64), none⟩,
 ⟨some 66, .bsl 1 2 [(.int .u64 0)] [(0, (.s 61)), (1, (.s 65))], none⟩,
 ⟨some 67, .call 44 [(.s 66)], none⟩,
 ⟨some 9, .mov (.s 67), none⟩]))))
 (.reg false false [
 ⟨some 68, .bin .add (.s 29) (.c (.int .i64 1)), none⟩,
 ⟨some 29, .mov (.s 68), none⟩]))))))))))
 (.reg false false [
 ⟨some 69, .bin .add (.s 22) (.c (.int .i64 1)), none⟩,
 ⟨some 22, .mov (.s 69), none⟩])))))))
 (.seq (.reg false false [
 ⟨some 71, .load (some 2) (.s 1), none⟩,
 ⟨some 72, .call 45 [(.s 71)], none⟩,
 ⟨some 70, .mov (.s 72), none⟩,
 ⟨some 73, .ext (.s 70) 0, none⟩,
 ⟨some 74, .ext (.s 70) 1, none⟩,
 ⟨some 4, .mov (.s 74), none⟩])
 (.seq (.reg false false [
 ⟨some 75, .mov (.s 2), none⟩,
 ⟨some 76, .mov (.s 3), none⟩,
 ⟨some 77, .mov (.s 4), none⟩,
 ⟨some 2, .mov (.s 75), none⟩,
 ⟨some 3, .mov (.s 76), none⟩,
 ⟨some 4, .mov (.s 77), none⟩,
 ⟨some 5, .mov (.c (.int .i64 0)), none⟩])
 (.ret))))))),
 [.tmp 2, .tmp 3, .tmp 4, .tmp 5], true⟩
theorem fn14_ok : FnOk Try.prog 14 fn14 := by unfold FnOk; kernel_rfl
/-- haruspex/circuit.Size -/
def fn15 : Mx.Fn := ⟨29,
 .seq (.reg false false [
 ⟨some 1, .box (.s 0), none⟩,
 ⟨some 2, .mov (.c (.int .i64 0)), none⟩,
 ⟨some 3, .mov (.c (.int .i64 0)), none⟩,
 ⟨some 4, .mov (.c (.int .i64 0)), none⟩])
 (.seq (.seq (.reg false false [
 ⟨some 7, .load (some 2) (.s 1), none⟩,
 ⟨some 8, .call 13 [(.s 7)], none⟩,
 ⟨some 4, .mov (.s 8), none⟩])
 (.seq (.reg false false [
 ⟨some 9, .mov (.s 4), none⟩,
 ⟨some 10, .bin .neq (.s 9) (.c (.int .i64 0)), none⟩])
 (.cond (.s 10)
 (.seq (.reg false false [
 ⟨some 11, .mov (.s 4), none⟩,
 ⟨some 2, .mov (.c (.int .i64 0)), none⟩,
 ⟨some 3, .mov (.c (.int .i64 0)), none⟩,
 ⟨some 4, .mov (.s 11), none⟩])
 (.ret))
 (.skip))))
 (.seq (.seq (.reg false false [
 ⟨some 12, .fld 1 (.s 1), none⟩,
 ⟨some 13, .load none (.s 12), none⟩,
 ⟨some 14, .len (.s 13), none⟩,
 ⟨some 15, .mov (.c (.int .i64 0)), none⟩])
 (.block 0 (.loop (.seq (.reg false false [
 ⟨some 16, .bin .lss (.s 15) (.s 14), none⟩])
 (.seq (.cond (.s 16)
 (.skip)
 (.exit 0))
 (.seq (.block 1 (.seq (.reg false false [
 ⟨some 17, .idxS 5 (.s 13) (.s 15), none⟩,
 ⟨some 18, .load (some 5) (.s 17), none⟩,
 ⟨some 6, .alloc [(.int .i64 0), (.int .i64 0), (.int .i64 0), (.int .i64 0), (.slice none 0 0)], none⟩,
 ⟨none, .store 5 (.s 6) (.s 18), none⟩])
 (.reg false false [
 ⟨some 19, .mov (.s 3), none⟩,
 ⟨some 20, .fld 4 (.s 6), none⟩,
 ⟨some 21, .load none (.s 20), none⟩,
 ⟨some 22, .len (.s 21), none⟩,
 ⟨some 23, .bin .add (.s 19) (.s 22), none⟩,
 ⟨some 3, .mov (.s 23), none⟩])))
 (.reg false false [
 ⟨some 24, .bin .add (.s 15) (.c (.int .i64 1)), none⟩,
 ⟨some 15, .mov (.s 24), none⟩])))))))
 (.seq (.reg false false [
 ⟨some 25, .fld 1 (.s 1), none⟩,
 ⟨some 26, .load none (.s 25), none⟩,
 ⟨some 27, .len (.s 26), none⟩,
 ⟨some 28, .mov (.s 3), none⟩,
 ⟨some 2, .mov (.s 27), none⟩,
 ⟨some 3, .mov (.s 28), none⟩,
 ⟨some 4, .mov (.c (.int .i64 0)), none⟩])
 (.ret)))),
 [.tmp 2, .tmp 3, .tmp 4], true⟩
theorem fn15_ok : FnOk Try.prog 15 fn15 := by unfold FnOk; kernel_rfl
/-- haruspex/haruspexlaw15.Inputs -/
def fn19 : Mx.Fn := ⟨30,
 .seq (.reg false false [
 ⟨some 3, .box (.s 1), none⟩,
 ⟨some 4, .mov (.c (.slice none 0 0)), none⟩])
 (.seq (.reg false false [
 ⟨some 5, .mov (.c (.slice none 0 0)), none⟩])
 (.seq (.seq (.reg false false [
 ⟨some 8, .mov (.s 0), none⟩,
 ⟨some 9, .len (.s 8), none⟩,
 ⟨some 10, .mov (.c (.int .i64 0)), none⟩])
 (.block 0 (.loop (.seq (.reg false false [
 ⟨some 11, .bin .lss (.s 10) (.s 9), none⟩])
 (.seq (.cond (.s 11)
 (.skip)
 (.exit 0))
 (.seq (.block 1 (.seq (.reg false false [
 ⟨some 12, .mov (.s 10), none⟩,
 ⟨some 13, .idxS 1 (.s 8) (.s 10), none⟩,
 ⟨some 14, .load none (.s 13), none⟩,
 ⟨some 6, .mov (.s 12), none⟩,
 ⟨some 7, .mov (.s 14), none⟩])
 (.reg false false [
 ⟨some 15, .mov (.s 5), none⟩,
 ⟨some 16, .mov (.s 6), none⟩,
 ⟨some 17, .bin .rem (.s 16) (.c (.int .i64 8)), none⟩,
 ⟨some 18, .idxA 1 8 (.s 3) (.s 17), none⟩,
 ⟨some 19, .load none (.s 18), none⟩,
 ⟨some 20, .conv .i64 (.s 19), none⟩,
 ⟨some 21, .mov (.s 7), none⟩,
 ⟨some 22, .mm true [(.s 21), (.c (.int .i64 0))], none⟩,
 ⟨some 23, .bin .add (.s 22) (.c (.int .i64 1)), none⟩,
 ⟨some 24, .bin .rem (.s 20) (.s 23), none⟩,
 ⟨some 25, .bin .sub (.s 24) (.c (.int .i64 1)), none⟩,
 ⟨some 26, .bsl 1 1 [(.int .i64 0)] [(0, (.s 25))], none⟩,
 ⟨some 27, .app 1 8 (.s 15) (.s 26), none⟩,
 ⟨some 5, .mov (.s 27), none⟩])))
 (.reg false false [
 ⟨some 28, .bin .add (.s 10) (.c (.int .i64 1)), none⟩,
 ⟨some 10, .mov (.s 28), none⟩])))))))
 (.seq (.reg false false [
 ⟨some 29, .mov (.s 5), none⟩,
 ⟨some 4, .mov (.s 29), none⟩])
 (.ret)))),
 [.tmp 4], false⟩
theorem fn19_ok : FnOk Try.prog 19 fn19 := by unfold FnOk; kernel_rfl
/-- haruspex/circuit.Eval -/
def fn20 : Mx.Fn := ⟨36,
 .seq (.reg false false [
 ⟨some 2, .box (.s 0), none⟩,
 ⟨some 4, .mov (.c (.int .i64 0)), none⟩,
 ⟨some 5, .mov (.c (.int .i64 0)), none⟩])
 (.seq (.reg false false [
 ⟨some 10, .load (some 2) (.s 2), none⟩,
 ⟨some 11, .mov (.s 1), none⟩,
 ⟨some 12, .call 49 [(.s 10), (.s 11)], none⟩,
 ⟨some 9, .mov (.s 12), none⟩,
 ⟨some 13, .ext (.s 9) 0, none⟩,
 ⟨some 14, .ext (.s 9) 1, none⟩,
 ⟨some 6, .mov (.s 13), none⟩,
 ⟨some 7, .mov (.s 14), none⟩])
 (.seq (.seq (.reg false false [
 ⟨some 15, .mov (.s 7), none⟩,
 ⟨some 16, .bin .neq (.s 15) (.c (.int .i64 0)), none⟩])
 (.cond (.s 16)
 (.seq (.reg false false [
 ⟨some 17, .mov (.s 7), none⟩,
 ⟨some 4, .mov (.c (.int .i64 0)), none⟩,
 ⟨some 5, .mov (.s 17), none⟩])
 (.ret))
 (.skip)))
 (.seq (.seq (.reg false false [
 ⟨some 18, .mov (.s 6), none⟩,
 ⟨some 19, .clo 51 [(.s 18)] [], none⟩,
 ⟨some 20, .call 50 [(.s 19)], none⟩,
 ⟨some 8, .mov (.s 20), none⟩])
 (.seq (.reg false false [
 ⟨some 21, .mov (.s 8), none⟩,
 ⟨some 22, .bin .neq (.s 21) (.c (.int .i64 0)), none⟩])
 (.cond (.s 22)
 (.seq (.reg false false [
 ⟨some 23, .mov (.s 8), none⟩,
 ⟨some 4, .mov (.c (.int .i64 0)), none⟩,
 ⟨some 5, .mov (.s 23), none⟩])
 (.ret))
 (.skip))))
 (.seq (.reg true false [
 ⟨some 24, .mov (.s 6), none⟩,
 ⟨some 25, .nilck (.s 24), none⟩,
 ⟨some 26, .fld 3 (.s 25), none⟩,
 ⟨some 27, .load none (.s 26), none⟩,
 ⟨some 28, .mov (.s 6), none⟩,
 ⟨some 29, .nilck (.s 28), none⟩,
 ⟨some 30, .fld 3 (.s 29), none⟩,
 ⟨some 31, .load none (.s 30), none⟩,
 ⟨some 32, .len (.s 31), none⟩,
 ⟨some 33, .bin .sub (.s 32) (.c (.int .i64 1)), none⟩,
 ⟨some 34, .idxS 1 (.s 27) (.s 33), none⟩,
 ⟨some 35, .load none (.s 34), none⟩,
 ⟨some 4, .mov (.s 35), none⟩,
 ⟨some 5, .mov (.c (.int .i64 0)), none⟩])
 (.ret))))),
 [.tmp 4, .tmp 5], true⟩
theorem fn20_ok : FnOk Try.prog 20 fn20 := by unfold FnOk; kernel_rfl
/-- haruspex/haruspexref15.Eval -/
def fn21 : Mx.Fn := ⟨29,
 .seq (.reg false false [
 ⟨some 2, .box (.s 0), none⟩,
 ⟨some 4, .mov (.c (.int .i64 0)), none⟩,
 ⟨some 5, .mov (.c (.int .i64 0)), none⟩])
 (.seq (.seq (.reg false false [
 ⟨some 8, .load (some 2) (.s 2), none⟩,
 ⟨some 9, .call 12 [(.s 8)], none⟩,
 ⟨some 10, .un .not (.s 9), none⟩])
 (.cond (.s 10)
 (.seq (.reg false false [
 ⟨some 4, .mov (.c (.int .i64 0)), none⟩,
 ⟨some 5, .mov (.c (.int .i64 150)), none⟩])
 (.ret))
 (.skip)))
 (.seq (.seq (.reg false false [
 ⟨some 11, .load (some 2) (.s 2), none⟩,
 ⟨some 12, .mov (.s 1), none⟩,
 ⟨some 13, .call 52 [(.s 11), (.s 12)], none⟩,
 ⟨some 14, .un .not (.s 13), none⟩])
 (.cond (.s 14)
 (.seq (.reg false false [
 ⟨some 4, .mov (.c (.int .i64 0)), none⟩,
 ⟨some 5, .mov (.c (.int .i64 2)), none⟩])
 (.ret))
 (.skip)))
 (.seq (.reg false false [
 ⟨some 16, .load (some 2) (.s 2), none⟩,
 ⟨some 17, .mov (.s 1), none⟩,
 ⟨some 18, .call 53 [(.s 16), (.s 17)], none⟩,
 ⟨some 15, .mov (.s 18), none⟩,
 ⟨some 19, .ext (.s 15) 0, none⟩,
 ⟨some 20, .ext (.s 15) 1, none⟩,
 ⟨some 6, .mov (.s 19), none⟩,
 ⟨some 7, .mov (.s 20), none⟩])
 (.seq (.seq (.reg false false [
 ⟨some 21, .mov (.s 7), none⟩,
 ⟨some 22, .un .not (.s 21), none⟩])
 (.cond (.s 22)
 (.seq (.reg false false [
 ⟨some 4, .mov (.c (.int .i64 0)), none⟩,
 ⟨some 5, .mov (.c (.int .i64 6)), none⟩])
 (.ret))
 (.skip)))
 (.seq (.reg false false [
 ⟨some 23, .mov (.s 6), none⟩,
 ⟨some 24, .mov (.s 6), none⟩,
 ⟨some 25, .len (.s 24), none⟩,
 ⟨some 26, .bin .sub (.s 25) (.c (.int .i64 1)), none⟩,
 ⟨some 27, .idxS 1 (.s 23) (.s 26), none⟩,
 ⟨some 28, .load none (.s 27), none⟩,
 ⟨some 4, .mov (.s 28), none⟩,
 ⟨some 5, .mov (.c (.int .i64 0)), none⟩])
 (.ret)))))),
 [.tmp 4, .tmp 5], true⟩
theorem fn21_ok : FnOk Try.prog 21 fn21 := by unfold FnOk; kernel_rfl
/-- haruspex/circuit.Derive -/
def fn22 : Mx.Fn := ⟨25,
 .seq (.reg false false [
 ⟨some 2, .box (.s 0), none⟩,
 ⟨some 4, .mov (.c (.slice none 0 0)), none⟩,
 ⟨some 5, .mov (.c (.int .i64 0)), none⟩])
 (.seq (.reg false false [
 ⟨some 11, .load (some 2) (.s 2), none⟩,
 ⟨some 12, .mov (.s 1), none⟩,
 ⟨some 13, .call 49 [(.s 11), (.s 12)], none⟩,
 ⟨some 10, .mov (.s 13), none⟩,
 ⟨some 14, .ext (.s 10) 0, none⟩,
 ⟨some 15, .ext (.s 10) 1, none⟩,
 ⟨some 6, .alloc [(.pointer none)], none⟩,
 ⟨none, .store 1 (.s 6) (.s 14), none⟩,
 ⟨some 7, .mov (.s 15), none⟩])
 (.seq (.seq (.reg false false [
 ⟨some 16, .mov (.s 7), none⟩,
 ⟨some 17, .bin .neq (.s 16) (.c (.int .i64 0)), none⟩])
 (.cond (.s 17)
 (.seq (.reg false false [
 ⟨some 18, .mov (.s 7), none⟩,
 ⟨some 4, .mov (.c (.slice none 0 0)), none⟩,
 ⟨some 5, .mov (.s 18), none⟩])
 (.ret))
 (.skip)))
 (.seq (.reg false false [
 ⟨some 8, .alloc [(.slice none 0 0)], none⟩])
 (.seq (.seq (.reg false false [
 ⟨some 19, .clo 54 [] [(.s 6), (.s 8)], none⟩,
 ⟨some 20, .call 50 [(.s 19)], none⟩,
 ⟨some 9, .mov (.s 20), none⟩])
 (.seq (.reg false false [
 ⟨some 21, .mov (.s 9), none⟩,
 ⟨some 22, .bin .neq (.s 21) (.c (.int .i64 0)), none⟩])
 (.cond (.s 22)
 (.seq (.reg false false [
 ⟨some 23, .mov (.s 9), none⟩,
 ⟨some 4, .mov (.c (.slice none 0 0)), none⟩,
 ⟨some 5, .mov (.s 23), none⟩])
 (.ret))
 (.skip))))
 (.seq (.reg false false [
 ⟨some 24, .load none (.s 8), none⟩,
 ⟨some 4, .mov (.s 24), none⟩,
 ⟨some 5, .mov (.c (.int .i64 0)), none⟩])
 (.ret)))))),
 [.tmp 4, .tmp 5], false⟩
theorem fn22_ok : FnOk Try.prog 22 fn22 := by unfold FnOk; kernel_rfl
/-- haruspex/haruspexref15.Derive -/
def fn23 : Mx.Fn := ⟨183,
 .seq (.reg false false [
 ⟨some 2, .box (.s 0), none⟩,
 ⟨some 4, .mov (.c (.slice none 0 0)), none⟩,
 ⟨some 5, .mov (.c (.int .i64 0)), none⟩])
 (.seq (.seq (.reg false false [
 ⟨some 31, .load (some 2) (.s 2), none⟩,
 ⟨some 32, .mov (.s 1), none⟩,
 ⟨some 33, .call 21 [(.s 31), (.s 32)], none⟩,
 ⟨some 30, .mov (.s 33), none⟩,
 ⟨some 34, .ext (.s 30) 0, none⟩,
 ⟨some 35, .ext (.s 30) 1, none⟩,
 ⟨some 6, .mov (.s 34), none⟩,
 ⟨some 7, .mov (.s 35), none⟩])
 (.seq (.reg false false [
 ⟨some 36, .mov (.s 7), none⟩,
 ⟨some 37, .bin .neq (.s 36) (.c (.int .i64 0)), none⟩])
 (.cond (.s 37)
 (.seq (.reg false false [
 ⟨some 38, .mov (.s 7), none⟩,
 ⟨some 4, .mov (.c (.slice none 0 0)), none⟩,
 ⟨some 5, .mov (.s 38), none⟩])
 (.ret))
 (.skip))))
 (.seq (.reg false false [
 ⟨some 40, .load (some 2) (.s 2), none⟩,
 ⟨some 41, .mov (.s 1), none⟩,
 ⟨some 42, .call 53 [(.s 40), (.s 41)], none⟩,
 ⟨some 39, .mov (.s 42), none⟩,
 ⟨some 43, .ext (.s 39) 0, none⟩,
 ⟨some 44, .ext (.s 39) 1, none⟩,
 ⟨some 8, .mov (.s 43), none⟩,
 ⟨some 9, .mov (.s 44), none⟩])
 (.seq (.reg false false [
 ⟨some 45, .fld 1 (.s 2), none⟩,
 ⟨some 46, .load none (.s 45), none⟩,
 ⟨some 47, .len (.s 46), none⟩,
 ⟨some 10, .mov (.s 47), none⟩])
 (.seq (.reg false false [
 ⟨some 48, .mov (.s 10), none⟩,
 ⟨some 49, .mk 1 8 [(.int .i64 0)] (.s 48) (.s 48), none⟩,
 ⟨some 11, .mov (.s 49), none⟩])
 (.seq (.reg false false [
 ⟨some 50, .mov (.s 11), none⟩,
 ⟨some 51, .mov (.s 10), none⟩,
 ⟨some 52, .bin .sub (.s 51) (.c (.int .i64 1)), none⟩,
 ⟨some 53, .idxS 1 (.s 50) (.s 52), none⟩,
 ⟨none, .store 1 (.s 53) (.c (.int .i64 1)), none⟩])
 (.seq (.seq (.reg false false [
 ⟨some 54, .mov (.s 10), none⟩,
 ⟨some 55, .bin .sub (.s 54) (.c (.int .i64 2)), none⟩,
 ⟨some 12, .mov (.s 55), none⟩])
 (.block 0 (.loop (.seq (.seq (.reg false false [
 ⟨some 56, .mov (.s 12), none⟩,
 ⟨some 57, .bin .geq (.s 56) (.c (.int .i64 0)), none⟩])
 (.cond (.s 57)
 (.skip)
 (.exit 0)))
 (.seq (.block 1 (.seq (.reg false false [
 ⟨some 13, .mov (.c (.slice none 0 0)), none⟩])
 (.seq (.seq (.reg false false [
 ⟨some 60, .mov (.s 12), none⟩,
 ⟨some 61, .bin .add (.s 60) (.c (.int .i64 1)), none⟩,
 ⟨some 14, .mov (.s 61), none⟩])
 (.block 2 (.loop (.seq (.seq (.reg false false [
 ⟨some 62, .mov (.s 14), none⟩,
 ⟨some 63, .mov (.s 10), none⟩,
 ⟨some 64, .bin .lss (.s 62) (.s 63), none⟩])
 (.cond (.s 64)
 (.skip)
 (.exit 2)))
 (.seq (.block 3 (.seq (.reg false false [
 ⟨some 67, .fld 1 (.s 2), none⟩,
 ⟨some 68, .load none (.s 67), none⟩,
 ⟨some 69, .mov (.s 14), none⟩,
 ⟨some 70, .idxS 5 (.s 68) (.s 69), none⟩,
 ⟨some 71, .load (some 5) (.s 70), none⟩,
 ⟨some 15, .alloc [(.int .i64 0), (.int .i64 0), (.int .i64 0), (.int .i64 0), (.slice none 0 0)], none⟩,
 ⟨none, .store 5 (.s 15) (.s 71), none⟩])
 (.seq (.seq (.reg true true [
 ⟨some 72, .fld 4 (.s 15), none⟩,
 ⟨some 73, .load none (.s 72), none⟩,
 ⟨some 74, .mov (.s 12), none⟩,
 ⟨some 77, .fld 4 (.s 15), none⟩,
 ⟨some 78, .load none (.s 77), none⟩,
 ⟨some 79, .len (.s 78), none⟩,
 ⟨some 75, .call 56 [(.s 73), (.s 74)], none⟩,
 ⟨some 76, .len (.s 75), none⟩,
 ⟨some 80, .bin .eql (.s 76) (.s 79), none⟩])
 (.cond (.s 80)
 (.exit 3)
 (.skip)))
 (.seq (.reg false false [
 ⟨some 81, .mov (.s 11), none⟩,
 ⟨some 82, .mov (.s 14), none⟩,
 ⟨some 83, .idxS 1 (.s 81) (.s 82), none⟩,
 ⟨some 84, .load none (.s 83), none⟩,
 ⟨some 85, .bsl 1 1 [(.int .i64 0)] [(0, (.s 84))], none⟩,
 ⟨some 16, .mov (.s 85), none⟩])
 (.seq (.seq (.reg false false [
 ⟨some 86, .fld 0 (.s 15), none⟩,
 ⟨some 87, .load none (.s 86), none⟩,
 ⟨some 88, .bin .eql (.s 87) (.c (.int .i64 4)), none⟩])
 (.cond (.s 88)
 (.reg false false [
 ⟨some 89, .mov (.s 16), none⟩,
 ⟨some 90, .mov (.s 8), none⟩,
 ⟨some 91, .fld 4 (.s 15), none⟩,
 ⟨some 92, .load none (.s 91), none⟩,
 ⟨some 93, .mov (.s 12), none⟩,
 ⟨some 94, .call 56 [(.s 92), (.s 93)], none⟩,
 ⟨some 95, .call 48 [(.s 90), (.s 94)], none⟩,
 ⟨some 96, .app 1 8 (.s 89) (.s 95), none⟩,
 ⟨some 16, .mov (.s 96), none⟩])
 (.skip)))
 (.seq (.reg false false [
 ⟨some 98, .mov (.s 16), none⟩,
 ⟨some 99, .call 47 [(.s 98)], none⟩,
 ⟨some 97, .mov (.s 99), none⟩,
 ⟨some 100, .ext (.s 97) 0, none⟩,
 ⟨some 101, .ext (.s 97) 1, none⟩,
 ⟨some 17, .mov (.s 100), none⟩,
 ⟨some 18, .mov (.s 101), none⟩])
 (.seq (.seq (.reg false false [
 ⟨some 102, .mov (.s 18), none⟩,
 ⟨some 103, .un .not (.s 102), none⟩])
 (.cond (.s 103)
 (.seq (.reg false false [
 ⟨some 4, .mov (.c (.slice none 0 0)), none⟩,
 ⟨some 5, .mov (.c (.int .i64 6)), none⟩])
 (.ret))
 (.skip)))
 (.reg false false [
 ⟨some 104, .mov (.s 13), none⟩,
 ⟨some 105, .mov (.s 17), none⟩,
 ⟨some 106, .bsl 1 1 [(.int .i64 0)] [(0, (.s 105))], none⟩,
 ⟨some 107, .app 1 8 (.s 104) (.s 106), none⟩,
 ⟨some 13, .mov (.s 107), none⟩]))))))))
 (.reg false false [
 ⟨some 65, .mov (.s 14), none⟩,
 ⟨some 66, .bin .add (.s 65) (.c (.int .i64 1)), none⟩,
 ⟨some 14, .mov (.s 66), none⟩]))))))
 (.seq (.reg false false [
 ⟨some 109, .mov (.s 13), none⟩,
 ⟨some 110, .call 57 [(.s 109)], none⟩,
 ⟨some 108, .mov (.s 110), none⟩,
 ⟨some 111, .ext (.s 108) 0, none⟩,
 ⟨some 112, .ext (.s 108) 1, none⟩,
 ⟨some 19, .mov (.s 111), none⟩,
 ⟨some 20, .mov (.s 112), none⟩])
 (.seq (.seq (.reg false false [
 ⟨some 113, .mov (.s 20), none⟩,
 ⟨some 114, .un .not (.s 113), none⟩])
 (.cond (.s 114)
 (.seq (.reg false false [
 ⟨some 4, .mov (.c (.slice none 0 0)), none⟩,
 ⟨some 5, .mov (.c (.int .i64 6)), none⟩])
 (.ret))
 (.skip)))
 (.reg false false [
 ⟨some 115, .mov (.s 11), none⟩,
 ⟨some 116, .mov (.s 12), none⟩,
 ⟨some 117, .mov (.s 19), none⟩,
 ⟨some 118, .idxS 1 (.s 115) (.s 116), none⟩,
 ⟨none, .store 1 (.s 118) (.s 117), none⟩]))))))
 (.reg false false [
 ⟨some 58, .mov (.s 12), none⟩,
 ⟨some 59, .bin .sub (.s 58) (.c (.int .i64 1)), none⟩,
 ⟨some 12, .mov (.s 59), none⟩]))))))
 (.seq (.reg false false [
 ⟨some 21, .mov (.c (.slice none 0 0)), none⟩])
 (.seq (.seq (.reg false false [
 ⟨some 22, .mov (.c (.int .i64 0)), none⟩])
 (.block 4 (.loop (.seq (.seq (.reg false false [
 ⟨some 119, .mov (.s 22), none⟩,
 ⟨some 120, .fld 0 (.s 2), none⟩,
 ⟨some 121, .load none (.s 120), none⟩,
 ⟨some 122, .len (.s 121), none⟩,
 ⟨some 123, .bin .lss (.s 119) (.s 122), none⟩])
 (.cond (.s 123)
 (.skip)
 (.exit 4)))
 (.seq (.block 5 (.seq (.reg false false [
 ⟨some 23, .mov (.c (.slice none 0 0)), none⟩])
 (.seq (.seq (.reg false false [
 ⟨some 24, .mov (.c (.int .i64 0)), none⟩])
 (.block 6 (.loop (.seq (.seq (.reg false false [
 ⟨some 126, .mov (.s 24), none⟩,
 ⟨some 127, .fld 0 (.s 2), none⟩,
 ⟨some 128, .load none (.s 127), none⟩,
 ⟨some 129, .mov (.s 22), none⟩,
 ⟨some 130, .idxS 1 (.s 128) (.s 129), none⟩,
 ⟨some 131, .load none (.s 130), none⟩,
 ⟨some 132, .bin .lss (.s 126) (.s 131), none⟩])
 (.cond (.s 132)
 (.skip)
 (.exit 6)))
 (.seq (.block 7 (.seq (.reg false false [
 ⟨some 25, .mov (.c (.slice none 0 0)), none⟩])
 (.seq (.seq (.reg false false [
 ⟨some 26, .mov (.c (.int .i64 0)), none⟩])
 (.block 8 (.loop (.seq (.seq (.reg false false [
 ⟨some 135, .mov (.s 26), none⟩,
 ⟨some 136, .mov (.s 10), none⟩,
 ⟨some 137, .bin .lss (.s 135) (.s 136), none⟩])
 (.cond (.s 137)
 (.skip)
 (.exit 8)))
 (.seq (.block 9 (.seq (.reg false false [
 ⟨some 140, .fld 1 (.s 2), none⟩,
 ⟨some 141, .load none (.s 140), none⟩,
 ⟨some 142, .mov (.s 26), none⟩,
 ⟨some 143, .idxS 5 (.s 141) (.s 142), none⟩,
 ⟨some 144, .load (some 5) (.s 143), none⟩,
 ⟨some 27, .alloc [(.int .i64 0), (.int .i64 0), (.int .i64 0), (.int .i64 0), (.slice none 0 0)], none⟩,
 ⟨none, .store 5 (.s 27) (.s 144), none⟩])
 (.seq (.reg false false [
 ⟨some 145, .fld 0 (.s 27), none⟩,
 ⟨some 146, .load none (.s 145), none⟩,
 ⟨some 147, .bin .eql (.s 146) (.c (.int .i64 2)), none⟩,
 ⟨some 148, .mov (.s 147), none⟩,
 ⟨some 149, .fld 1 (.s 27), some (148, true)⟩,
 ⟨some 150, .load none (.s 149), some (148, true)⟩,
 ⟨some 151, .mov (.s 22), some (148, true)⟩,
 ⟨some 152, .bin .eql (.s 150) (.s 151), some (148, true)⟩,
 ⟨some 153, .pick (.s 148) (.s 152) (.c (.bool false)), none⟩,
 ⟨some 154, .mov (.s 153), none⟩,
 ⟨some 155, .fld 2 (.s 27), some (154, true)⟩,
 ⟨some 156, .load none (.s 155), some (154, true)⟩,
 ⟨some 157, .mov (.s 24), some (154, true)⟩,
 ⟨some 158, .bin .eql (.s 156) (.s 157), some (154, true)⟩,
 ⟨some 159, .pick (.s 154) (.s 158) (.c (.bool false)), none⟩])
 (.cond (.s 159)
 (.reg false false [
 ⟨some 160, .mov (.s 25), none⟩,
 ⟨some 161, .mov (.s 11), none⟩,
 ⟨some 162, .mov (.s 26), none⟩,
 ⟨some 163, .idxS 1 (.s 161) (.s 162), none⟩,
 ⟨some 164, .load none (.s 163), none⟩,
 ⟨some 165, .bsl 1 1 [(.int .i64 0)] [(0, (.s 164))], none⟩,
 ⟨some 166, .app 1 8 (.s 160) (.s 165), none⟩,
 ⟨some 25, .mov (.s 166), none⟩])
 (.skip)))))
 (.reg false false [
 ⟨some 138, .mov (.s 26), none⟩,
 ⟨some 139, .bin .add (.s 138) (.c (.int .i64 1)), none⟩,
 ⟨some 26, .mov (.s 139), none⟩]))))))
 (.seq (.reg false false [
 ⟨some 168, .mov (.s 25), none⟩,
 ⟨some 169, .call 57 [(.s 168)], none⟩,
 ⟨some 167, .mov (.s 169), none⟩,
 ⟨some 170, .ext (.s 167) 0, none⟩,
 ⟨some 171, .ext (.s 167) 1, none⟩,
 ⟨some 28, .mov (.s 170), none⟩,
 ⟨some 29, .mov (.s 171), none⟩])
 (.seq (.seq (.reg false false [
 ⟨some 172, .mov (.s 29), none⟩,
 ⟨some 173, .un .not (.s 172), none⟩])
 (.cond (.s 173)
 (.seq (.reg false false [
 ⟨some 4, .mov (.c (.slice none 0 0)), none⟩,
 ⟨some 5, .mov (.c (.int .i64 6)), none⟩])
 (.ret))
 (.skip)))
 (.reg false false [
 ⟨some 174, .mov (.s 23), none⟩,
 ⟨some 175, .mov (.s 28), none⟩,
 ⟨some 176, .bsl 1 1 [(.int .i64 0)] [(0, (.s 175))], none⟩,
 ⟨some 177, .app 1 8 (.s 174) (.s 176), none⟩,
 ⟨some 23, .mov (.s 177), none⟩]))))))
 (.reg false false [
 ⟨some 133, .mov (.s 24), none⟩,
 ⟨some 134, .bin .add (.s 133) (.c (.int .i64 1)), none⟩,
 ⟨some 24, .mov (.s 134), none⟩]))))))
 (.reg false false [
 ⟨some 178, .mov (.s 21), none⟩,
 ⟨some 179, .mov (.s 23), none⟩,
 ⟨some 180, .bsl 1 1 [(.slice none 0 0)] [(0, (.s 179))], none⟩,
 ⟨some 181, .app 1 24 (.s 178) (.s 180), none⟩,
 ⟨some 21, .mov (.s 181), none⟩]))))
 (.reg false false [
 ⟨some 124, .mov (.s 22), none⟩,
 ⟨some 125, .bin .add (.s 124) (.c (.int .i64 1)), none⟩,
 ⟨some 22, .mov (.s 125), none⟩]))))))
 (.seq (.reg false false [
 ⟨some 182, .mov (.s 21), none⟩,
 ⟨some 4, .mov (.s 182), none⟩,
 ⟨some 5, .mov (.c (.int .i64 0)), none⟩])
 (.ret)))))))))),
 [.tmp 4, .tmp 5], false⟩
theorem fn23_ok : FnOk Try.prog 23 fn23 := by unfold FnOk; kernel_rfl
/-- haruspex/haruspexref15.SameTable -/
def fn24 : Mx.Fn := ⟨27,
 .seq (.reg false false [
 ⟨some 4, .mov (.c (.bool false)), none⟩])
 (.seq (.seq (.reg false false [
 ⟨some 6, .mov (.s 0), none⟩,
 ⟨some 7, .len (.s 6), none⟩,
 ⟨some 8, .mov (.s 1), none⟩,
 ⟨some 9, .len (.s 8), none⟩,
 ⟨some 10, .bin .neq (.s 7) (.s 9), none⟩])
 (.cond (.s 10)
 (.seq (.reg false false [
 ⟨some 4, .mov (.c (.bool false)), none⟩])
 (.ret))
 (.skip)))
 (.seq (.seq (.reg false false [
 ⟨some 5, .mov (.c (.int .i64 0)), none⟩])
 (.block 0 (.loop (.seq (.seq (.reg false false [
 ⟨some 11, .mov (.s 5), none⟩,
 ⟨some 12, .mov (.s 0), none⟩,
 ⟨some 13, .len (.s 12), none⟩,
 ⟨some 14, .bin .lss (.s 11) (.s 13), none⟩])
 (.cond (.s 14)
 (.skip)
 (.exit 0)))
 (.seq (.block 1 (.seq (.reg true false [
 ⟨some 17, .mov (.s 0), none⟩,
 ⟨some 18, .mov (.s 5), none⟩,
 ⟨some 19, .idxS 1 (.s 17) (.s 18), none⟩,
 ⟨some 20, .load none (.s 19), none⟩,
 ⟨some 21, .mov (.s 1), none⟩,
 ⟨some 22, .mov (.s 5), none⟩,
 ⟨some 23, .idxS 1 (.s 21) (.s 22), none⟩,
 ⟨some 24, .load none (.s 23), none⟩,
 ⟨some 25, .call 58 [(.s 20), (.s 24)], none⟩,
 ⟨some 26, .un .not (.s 25), none⟩])
 (.cond (.s 26)
 (.seq (.reg false false [
 ⟨some 4, .mov (.c (.bool false)), none⟩])
 (.ret))
 (.skip))))
 (.reg false false [
 ⟨some 15, .mov (.s 5), none⟩,
 ⟨some 16, .bin .add (.s 15) (.c (.int .i64 1)), none⟩,
 ⟨some 5, .mov (.s 16), none⟩]))))))
 (.seq (.reg false false [
 ⟨some 4, .mov (.c (.bool true)), none⟩])
 (.ret)))),
 [.tmp 4], true⟩
theorem fn24_ok : FnOk Try.prog 24 fn24 := by unfold FnOk; kernel_rfl
/-- (haruspex/haruspexref15.Draft).Circuit -/
def fn25 : Mx.Fn := ⟨140,
 .seq (.reg false false [
 ⟨some 1, .box (.s 0), none⟩,
 ⟨some 2, .alloc [(.slice none 0 0), (.slice none 0 0)], none⟩])
 (.seq (.reg false false [
 ⟨some 3, .alloc [(.slice none 0 0), (.slice none 0 0)], none⟩])
 (.seq (.seq (.reg false false [
 ⟨some 4, .mov (.c (.int .i64 0)), none⟩])
 (.block 0 (.loop (.seq (.seq (.reg false false [
 ⟨some 14, .mov (.s 4), none⟩,
 ⟨some 15, .fld 0 (.s 1), none⟩,
 ⟨some 16, .load none (.s 15), none⟩,
 ⟨some 17, .len (.s 16), none⟩,
 ⟨some 18, .bin .lss (.s 14) (.s 17), none⟩,
 ⟨some 19, .mov (.s 18), none⟩,
 ⟨some 20, .mov (.s 4), some (19, true)⟩,
 ⟨some 21, .bin .lss (.s 20) (.c (.int .i64 4)), some (19, true)⟩,
 ⟨some 22, .pick (.s 19) (.s 21) (.c (.bool false)), none⟩])
 (.cond (.s 22)
 (.skip)
 (.exit 0)))
 (.seq (.block 1 (.reg true false [
 ⟨some 25, .fld 0 (.s 3), none⟩,
 ⟨some 26, .load none (.s 25), none⟩,
 ⟨some 27, .fld 0 (.s 1), none⟩,
 ⟨some 28, .load none (.s 27), none⟩,
 ⟨some 29, .mov (.s 4), none⟩,
 ⟨some 30, .idxS 1 (.s 28) (.s 29), none⟩,
 ⟨some 31, .load none (.s 30), none⟩,
 ⟨some 32, .bin .rem (.s 31) (.c (.int .u8 3)), none⟩,
 ⟨some 33, .conv .i64 (.s 32), none⟩,
 ⟨some 34, .bin .add (.c (.int .i64 1)) (.s 33), none⟩,
 ⟨some 35, .bsl 1 1 [(.int .i64 0)] [(0, (.s 34))], none⟩,
 ⟨some 36, .app 1 8 (.s 26) (.s 35), none⟩,
 ⟨some 37, .fld 0 (.s 3), none⟩,
 ⟨none, .store 1 (.s 37) (.s 36), none⟩]))
 (.reg false false [
 ⟨some 23, .mov (.s 4), none⟩,
 ⟨some 24, .bin .add (.s 23) (.c (.int .i64 1)), none⟩,
 ⟨some 4, .mov (.s 24), none⟩]))))))
 (.seq (.seq (.reg false false [
 ⟨some 38, .fld 0 (.s 3), none⟩,
 ⟨some 39, .load none (.s 38), none⟩,
 ⟨some 40, .len (.s 39), none⟩,
 ⟨some 41, .bin .eql (.s 40) (.c (.int .i64 0)), none⟩])
 (.cond (.s 41)
 (.reg false false [
 ⟨some 42, .bsl 1 1 [(.int .i64 0)] [(0, (.c (.int .i64 2)))], none⟩,
 ⟨some 43, .fld 0 (.s 3), none⟩,
 ⟨none, .store 1 (.s 43) (.s 42), none⟩])
 (.skip)))
 (.seq (.seq (.reg false false [
 ⟨some 5, .mov (.c (.int .i64 0)), none⟩])
 (.block 2 (.loop (.seq (.seq (.reg false false [
 ⟨some 44, .mov (.s 5), none⟩,
 ⟨some 45, .fld 0 (.s 3), none⟩,
 ⟨some 46, .load none (.s 45), none⟩,
 ⟨some 47, .len (.s 46), none⟩,
 ⟨some 48, .bin .lss (.s 44) (.s 47), none⟩])
 (.cond (.s 48)
 (.skip)
 (.exit 2)))
 (.seq (.block 3 (.seq (.reg false false [
 ⟨some 6, .mov (.c (.int .i64 0)), none⟩])
 (.block 4 (.loop (.seq (.seq (.reg false false [
 ⟨some 51, .mov (.s 6), none⟩,
 ⟨some 52, .fld 0 (.s 3), none⟩,
 ⟨some 53, .load none (.s 52), none⟩,
 ⟨some 54, .mov (.s 5), none⟩,
 ⟨some 55, .idxS 1 (.s 53) (.s 54), none⟩,
 ⟨some 56, .load none (.s 55), none⟩,
 ⟨some 57, .bin .lss (.s 51) (.s 56), none⟩])
 (.cond (.s 57)
 (.skip)
 (.exit 4)))
 (.seq (.block 5 (.reg false false [
 ⟨some 60, .fld 1 (.s 3), none⟩,
 ⟨some 61, .load none (.s 60), none⟩,
 ⟨some 62, .mov (.s 5), none⟩,
 ⟨some 63, .mov (.s 6), none⟩,
 ⟨some 64, .build [(.int .i64 0), (.int .i64 0), (.int .i64 0), (.int .i64 0), (.slice none 0 0)] [(0, 1, (.c (.int .i64 2))), (1, 1, (.s 62)), (2, 1, (.s 63))], none⟩,
 ⟨some 65, .bsl 5 1 [(.int .i64 0), (.int .i64 0), (.int .i64 0), (.int .i64 0), (.slice none 0 0)] [(0, (.s 64))], none⟩,
 ⟨some 66, .app 5 56 (.s 61) (.s 65), none⟩,
 ⟨some 67, .fld 1 (.s 3), none⟩,
 ⟨none, .store 1 (.s 67) (.s 66), none⟩]))
 (.reg false false [
 ⟨some 58, .mov (.s 6), none⟩,
 ⟨some 59, .bin .add (.s 58) (.c (.int .i64 1)), none⟩,
 ⟨some 6, .mov (.s 59), none⟩])))))))
 (.reg false false [
 ⟨some 49, .mov (.s 5), none⟩,
 ⟨some 50, .bin .add (.s 49) (.c (.int .i64 1)), none⟩,
 ⟨some 5, .mov (.s 50), none⟩]))))))
 (.seq (.reg false false [
 ⟨some 7, .mov (.c (.int .i64 1)), none⟩])
 (.seq (.seq (.reg false false [
 ⟨some 68, .fld 2 (.s 1), none⟩,
 ⟨some 69, .load none (.s 68), none⟩])
 (.cond (.s 69)
 (.reg false false [
 ⟨some 7, .mov (.c (.int .i64 100000000000)), none⟩])
 (.skip)))
 (.seq (.seq (.reg false false [
 ⟨some 8, .mov (.c (.int .i64 0)), none⟩])
 (.block 6 (.loop (.seq (.seq (.reg false false [
 ⟨some 70, .mov (.s 8), none⟩,
 ⟨some 71, .fld 1 (.s 1), none⟩,
 ⟨some 72, .load none (.s 71), none⟩,
 ⟨some 73, .len (.s 72), none⟩,
 ⟨some 74, .bin .lss (.s 70) (.s 73), none⟩,
 ⟨some 75, .mov (.s 74), none⟩,
 ⟨some 76, .mov (.s 8), some (75, true)⟩,
 ⟨some 77, .bin .lss (.s 76) (.c (.int .i64 30)), some (75, true)⟩,
 ⟨some 78, .pick (.s 75) (.s 77) (.c (.bool false)), none⟩])
 (.cond (.s 78)
 (.skip)
 (.exit 6)))
 (.seq (.block 7 (.seq (.reg false false [
 ⟨some 81, .fld 1 (.s 1), none⟩,
 ⟨some 82, .load none (.s 81), none⟩,
 ⟨some 83, .mov (.s 8), none⟩,
 ⟨some 84, .idxS 4 (.s 82) (.s 83), none⟩,
 ⟨some 85, .load (some 4) (.s 84), none⟩,
 ⟨some 9, .alloc [(.int .u8 0), (.int .u8 0), (.int .u8 0), (.int .u8 0)], none⟩,
 ⟨none, .store 4 (.s 9) (.s 85), none⟩])
 (.seq (.reg false false [
 ⟨some 86, .fld 1 (.s 3), none⟩,
 ⟨some 87, .load none (.s 86), none⟩,
 ⟨some 88, .len (.s 87), none⟩,
 ⟨some 10, .mov (.s 88), none⟩])
 (.seq (.seq (.reg false false [
 ⟨some 89, .idxA 1 4 (.s 9) (.c (.int .i64 0)), none⟩,
 ⟨some 90, .load none (.s 89), none⟩,
 ⟨some 91, .bin .rem (.s 90) (.c (.int .u8 5)), none⟩,
 ⟨some 92, .bin .eql (.s 91) (.c (.int .u8 0)), none⟩])
 (.cond (.s 92)
 (.seq (.reg false false [
 ⟨some 93, .fld 1 (.s 3), none⟩,
 ⟨some 94, .load none (.s 93), none⟩,
 ⟨some 95, .idxA 1 4 (.s 9) (.c (.int .i64 1)), none⟩,
 ⟨some 96, .load none (.s 95), none⟩,
 ⟨some 97, .bin .rem (.s 96) (.c (.int .u8 8)), none⟩,
 ⟨some 98, .conv .i64 (.s 97), none⟩,
 ⟨some 99, .mov (.s 7), none⟩,
 ⟨some 100, .bin .mul (.s 98) (.s 99), none⟩,
 ⟨some 101, .build [(.int .i64 0), (.int .i64 0), (.int .i64 0), (.int .i64 0), (.slice none 0 0)] [(0, 1, (.c (.int .i64 1))), (3, 1, (.s 100))], none⟩,
 ⟨some 102, .bsl 5 1 [(.int .i64 0), (.int .i64 0), (.int .i64 0), (.int .i64 0), (.slice none 0 0)] [(0, (.s 101))], none⟩,
 ⟨some 103, .app 5 56 (.s 94) (.s 102), none⟩,
 ⟨some 104, .fld 1 (.s 3), none⟩,
 ⟨none, .store 1 (.s 104) (.s 103), none⟩])
 (.exit 7))
 (.skip)))
 (.seq (.reg true false [
 ⟨some 105, .idxA 1 4 (.s 9) (.c (.int .i64 1)), none⟩,
 ⟨some 106, .load none (.s 105), none⟩,
 ⟨some 107, .conv .i64 (.s 106), none⟩,
 ⟨some 108, .mov (.s 10), none⟩,
 ⟨some 109, .bin .rem (.s 107) (.s 108), none⟩,
 ⟨some 110, .idxA 1 4 (.s 9) (.c (.int .i64 2)), none⟩,
 ⟨some 111, .load none (.s 110), none⟩,
 ⟨some 112, .conv .i64 (.s 111), none⟩,
 ⟨some 113, .mov (.s 10), none⟩,
 ⟨some 114, .bin .rem (.s 112) (.s 113), none⟩,
 ⟨some 11, .mov (.s 109), none⟩,
 ⟨some 12, .mov (.s 114), none⟩])
 (.seq (.reg false false [
 ⟨some 115, .mov (.s 11), none⟩,
 ⟨some 116, .mov (.s 12), none⟩,
 ⟨some 117, .mm false [(.s 115), (.s 116)], none⟩,
 ⟨some 118, .mov (.s 11), none⟩,
 ⟨some 119, .mov (.s 12), none⟩,
 ⟨some 120, .mm true [(.s 118), (.s 119)], none⟩,
 ⟨some 121, .bsl 1 2 [(.int .i64 0)] [(0, (.s 117)), (1, (.s 120))], none⟩,
 ⟨some 13, .mov (.s 121), none⟩])
 (.seq (.seq (.reg false false [
 ⟨some 122, .mov (.s 11), none⟩,
 ⟨some 123, .mov (.s 12), none⟩,
 ⟨some 124, .bin .eql (.s 122) (.s 123), none⟩])
 (.cond (.s 124)
 (.reg false false [
 ⟨some 125, .mov (.s 11), none⟩,
 ⟨some 126, .bsl 1 1 [(.int .i64 0)] [(0, (.s 125))], none⟩,
 ⟨some 13, .mov (.s 126), none⟩])
 (.skip)))
 (.reg false false [
 ⟨some 127, .fld 1 (.s 3), none⟩,
 ⟨some 128, .load none (.s 127), none⟩,
 ⟨some 129, .idxA 1 4 (.s 9) (.c (.int .i64 0)), none⟩,
 ⟨some 130, .load none (.s 129), none⟩,
 ⟨some 131, .bin .rem (.s 130) (.c (.int .u8 2)), none⟩,
 ⟨some 132, .conv .i64 (.s 131), none⟩,
 ⟨some 133, .bin .add (.c (.int .i64 3)) (.s 132), none⟩,
 ⟨some 134, .mov (.s 13), none⟩,
 ⟨some 135, .build [(.int .i64 0), (.int .i64 0), (.int .i64 0), (.int .i64 0), (.slice none 0 0)] [(0, 1, (.s 133)), (4, 1, (.s 134))], none⟩,
 ⟨some 136, .bsl 5 1 [(.int .i64 0), (.int .i64 0), (.int .i64 0), (.int .i64 0), (.slice none 0 0)] [(0, (.s 135))], none⟩,
 ⟨some 137, .app 5 56 (.s 128) (.s 136), none⟩,
 ⟨some 138, .fld 1 (.s 3), none⟩,
 ⟨none, .store 1 (.s 138) (.s 137), none⟩]))))))))
 (.reg false false [
 ⟨some 79, .mov (.s 8), none⟩,
 ⟨some 80, .bin .add (.s 79) (.c (.int .i64 1)), none⟩,
 ⟨some 8, .mov (.s 80), none⟩]))))))
 (.seq (.reg false false [
 ⟨some 139, .load (some 2) (.s 3), none⟩,
 ⟨none, .store 2 (.s 2) (.s 139), none⟩])
 (.ret))))))))),
 [.cell 2 (some 2)], false⟩
theorem fn25_ok : FnOk Try.prog 25 fn25 := by unfold FnOk; kernel_rfl
/-- slices.Clone[[]int,int] -/
def fn27 : Mx.Fn := ⟨8,
 .seq (.reg false false [
 ⟨some 2, .mov (.c (.slice none 0 0)), none⟩])
 (.seq (.seq (.reg false false [
 ⟨some 3, .mov (.s 0), none⟩,
 ⟨some 4, .eqn false (.s 3), none⟩])
 (.cond (.s 4)
 (.seq (.reg false false [
 ⟨some 2, .mov (.c (.slice none 0 0)), none⟩])
 (.ret))
 (.skip)))
 (.seq (.reg false false [
 ⟨some 5, .bsl 1 0 [(.int .i64 0)] [], none⟩,
 ⟨some 6, .mov (.s 0), none⟩,
 ⟨some 7, .app 1 8 (.s 5) (.s 6), none⟩,
 ⟨some 2, .mov (.s 7), none⟩])
 (.ret))),
 [.tmp 2], false⟩
theorem fn27_ok : FnOk Try.prog 27 fn27 := by unfold FnOk; kernel_rfl
/-- haruspex/haruspexlaw15.sample -/
def fn28 : Mx.Fn := ⟨14,
 .seq (.reg false false [
 ⟨some 0, .alloc [(.slice none 0 0), (.slice none 0 0)], none⟩])
 (.seq (.reg false false [
 ⟨some 1, .bsl 1 1 [(.int .i64 0)] [(0, (.c (.int .i64 2)))], none⟩,
 ⟨some 2, .call 32 [(.c (.int .i64 0)), (.c (.int .i64 0))], none⟩,
 ⟨some 3, .call 32 [(.c (.int .i64 0)), (.c (.int .i64 1))], none⟩,
 ⟨some 4, .call 30 [(.c (.int .i64 3))], none⟩,
 ⟨some 5, .call 30 [(.c (.int .i64 5))], none⟩,
 ⟨some 6, .bsl 1 2 [(.int .i64 0)] [(0, (.c (.int .i64 0))), (1, (.c (.int .i64 2)))], none⟩,
 ⟨some 7, .call 31 [(.s 6)], none⟩,
 ⟨some 8, .bsl 1 2 [(.int .i64 0)] [(0, (.c (.int .i64 1))), (1, (.c (.int .i64 3)))], none⟩,
 ⟨some 9, .call 31 [(.s 8)], none⟩,
 ⟨some 10, .bsl 1 2 [(.int .i64 0)] [(0, (.c (.int .i64 4))), (1, (.c (.int .i64 5)))], none⟩,
 ⟨some 11, .call 29 [(.s 10)], none⟩,
 ⟨some 12, .bsl 5 7 [(.int .i64 0), (.int .i64 0), (.int .i64 0), (.int .i64 0), (.slice none 0 0)] [(0, (.s 2)), (1, (.s 3)), (2, (.s 4)), (3, (.s 5)), (4, (.s 7)), (5, (.s 9)), (6, (.s 11))], none⟩,
 ⟨some 13, .build [(.slice none 0 0), (.slice none 0 0)] [(0, 1, (.s 1)), (1, 1, (.s 12))], none⟩,
 ⟨none, .store 2 (.s 0) (.s 13), none⟩])
 (.ret)),
 [.cell 0 (some 2)], false⟩
theorem fn28_ok : FnOk Try.prog 28 fn28 := by unfold FnOk; kernel_rfl
/-- haruspex/haruspexlaw15.sum -/
def fn29 : Mx.Fn := ⟨5,
 .seq (.reg false false [
 ⟨some 2, .alloc [(.int .i64 0), (.int .i64 0), (.int .i64 0), (.int .i64 0), (.slice none 0 0)], none⟩])
 (.seq (.reg false false [
 ⟨some 3, .mov (.s 0), none⟩,
 ⟨some 4, .build [(.int .i64 0), (.int .i64 0), (.int .i64 0), (.int .i64 0), (.slice none 0 0)] [(0, 1, (.c (.int .i64 3))), (4, 1, (.s 3))], none⟩,
 ⟨none, .store 5 (.s 2) (.s 4), none⟩])
 (.ret)),
 [.cell 2 (some 5)], false⟩
theorem fn29_ok : FnOk Try.prog 29 fn29 := by unfold FnOk; kernel_rfl
/-- haruspex/haruspexlaw15.number -/
def fn30 : Mx.Fn := ⟨5,
 .seq (.reg false false [
 ⟨some 2, .alloc [(.int .i64 0), (.int .i64 0), (.int .i64 0), (.int .i64 0), (.slice none 0 0)], none⟩])
 (.seq (.reg false false [
 ⟨some 3, .mov (.s 0), none⟩,
 ⟨some 4, .build [(.int .i64 0), (.int .i64 0), (.int .i64 0), (.int .i64 0), (.slice none 0 0)] [(0, 1, (.c (.int .i64 1))), (3, 1, (.s 3))], none⟩,
 ⟨none, .store 5 (.s 2) (.s 4), none⟩])
 (.ret)),
 [.cell 2 (some 5)], false⟩
theorem fn30_ok : FnOk Try.prog 30 fn30 := by unfold FnOk; kernel_rfl
/-- haruspex/haruspexlaw15.product -/
def fn31 : Mx.Fn := ⟨5,
 .seq (.reg false false [
 ⟨some 2, .alloc [(.int .i64 0), (.int .i64 0), (.int .i64 0), (.int .i64 0), (.slice none 0 0)], none⟩])
 (.seq (.reg false false [
 ⟨some 3, .mov (.s 0), none⟩,
 ⟨some 4, .build [(.int .i64 0), (.int .i64 0), (.int .i64 0), (.int .i64 0), (.slice none 0 0)] [(0, 1, (.c (.int .i64 4))), (4, 1, (.s 3))], none⟩,
 ⟨none, .store 5 (.s 2) (.s 4), none⟩])
 (.ret)),
 [.cell 2 (some 5)], false⟩
theorem fn31_ok : FnOk Try.prog 31 fn31 := by unfold FnOk; kernel_rfl
/-- haruspex/haruspexlaw15.is -/
def fn32 : Mx.Fn := ⟨8,
 .seq (.reg false false [
 ⟨some 4, .alloc [(.int .i64 0), (.int .i64 0), (.int .i64 0), (.int .i64 0), (.slice none 0 0)], none⟩])
 (.seq (.reg false false [
 ⟨some 5, .mov (.s 0), none⟩,
 ⟨some 6, .mov (.s 1), none⟩,
 ⟨some 7, .build [(.int .i64 0), (.int .i64 0), (.int .i64 0), (.int .i64 0), (.slice none 0 0)] [(0, 1, (.c (.int .i64 2))), (1, 1, (.s 5)), (2, 1, (.s 6))], none⟩,
 ⟨none, .store 5 (.s 4) (.s 7), none⟩])
 (.ret)),
 [.cell 4 (some 5)], false⟩
theorem fn32_ok : FnOk Try.prog 32 fn32 := by unfold FnOk; kernel_rfl
/-- haruspex/haruspexlaw15.value -/
def fn34 : Mx.Fn := ⟨22,
 .seq (.reg false false [
 ⟨some 3, .box (.s 0), none⟩,
 ⟨some 6, .mov (.c (.bool false)), none⟩])
 (.seq (.reg false false [
 ⟨some 10, .load (some 2) (.s 3), none⟩,
 ⟨some 11, .mov (.s 2), none⟩,
 ⟨some 12, .call 20 [(.s 10), (.s 11)], none⟩,
 ⟨some 9, .mov (.s 12), none⟩,
 ⟨some 13, .ext (.s 9) 0, none⟩,
 ⟨some 14, .ext (.s 9) 1, none⟩,
 ⟨some 7, .mov (.s 13), none⟩,
 ⟨some 8, .mov (.s 14), none⟩])
 (.seq (.reg false false [
 ⟨some 15, .mov (.s 8), none⟩,
 ⟨some 16, .bin .eql (.s 15) (.c (.int .i64 0)), none⟩,
 ⟨some 17, .mov (.s 16), none⟩,
 ⟨some 18, .mov (.s 7), some (17, true)⟩,
 ⟨some 19, .mov (.s 1), some (17, true)⟩,
 ⟨some 20, .bin .eql (.s 18) (.s 19), some (17, true)⟩,
 ⟨some 21, .pick (.s 17) (.s 20) (.c (.bool false)), none⟩,
 ⟨some 6, .mov (.s 21), none⟩])
 (.ret))),
 [.tmp 6], true⟩
theorem fn34_ok : FnOk Try.prog 34 fn34 := by unfold FnOk; kernel_rfl
/-- (haruspex/haruspexref15.Bend).Of -/
def fn38 : Mx.Fn := ⟨149,
 .seq (.reg false false [
 ⟨some 2, .box (.s 0), none⟩,
 ⟨some 3, .box (.s 1), none⟩,
 ⟨some 4, .alloc [(.slice none 0 0), (.slice none 0 0)], none⟩])
 (.seq (.reg false false [
 ⟨some 5, .mov (.c (.slice none 0 0)), none⟩])
 (.seq (.seq (.reg false false [
 ⟨some 6, .mov (.c (.int .i64 0)), none⟩])
 (.block 0 (.loop (.seq (.seq (.reg false false [
 ⟨some 11, .mov (.s 6), none⟩,
 ⟨some 12, .fld 1 (.s 3), none⟩,
 ⟨some 13, .load none (.s 12), none⟩,
 ⟨some 14, .len (.s 13), none⟩,
 ⟨some 15, .bin .lss (.s 11) (.s 14), none⟩])
 (.cond (.s 15)
 (.skip)
 (.exit 0)))
 (.seq (.block 1 (.seq (.reg false false [
 ⟨some 18, .fld 1 (.s 3), none⟩,
 ⟨some 19, .load none (.s 18), none⟩,
 ⟨some 20, .mov (.s 6), none⟩,
 ⟨some 21, .idxS 5 (.s 19) (.s 20), none⟩,
 ⟨some 22, .load (some 5) (.s 21), none⟩,
 ⟨some 7, .alloc [(.int .i64 0), (.int .i64 0), (.int .i64 0), (.int .i64 0), (.slice none 0 0)], none⟩,
 ⟨none, .store 5 (.s 7) (.s 22), none⟩])
 (.seq (.reg false false [
 ⟨some 8, .mov (.c (.slice none 0 0)), none⟩])
 (.seq (.reg false false [
 ⟨some 23, .mov (.s 8), none⟩,
 ⟨some 24, .fld 4 (.s 7), none⟩,
 ⟨some 25, .load none (.s 24), none⟩,
 ⟨some 26, .app 1 8 (.s 23) (.s 25), none⟩,
 ⟨some 27, .fld 4 (.s 7), none⟩,
 ⟨none, .store 1 (.s 27) (.s 26), none⟩])
 (.reg false false [
 ⟨some 28, .mov (.s 5), none⟩,
 ⟨some 29, .load (some 5) (.s 7), none⟩,
 ⟨some 30, .bsl 5 1 [(.int .i64 0), (.int .i64 0), (.int .i64 0), (.int .i64 0), (.slice none 0 0)] [(0, (.s 29))], none⟩,
 ⟨some 31, .app 5 56 (.s 28) (.s 30), none⟩,
 ⟨some 5, .mov (.s 31), none⟩])))))
 (.reg false false [
 ⟨some 16, .mov (.s 6), none⟩,
 ⟨some 17, .bin .add (.s 16) (.c (.int .i64 1)), none⟩,
 ⟨some 6, .mov (.s 17), none⟩]))))))
 (.seq (.reg false false [
 ⟨some 9, .mov (.c (.slice none 0 0)), none⟩])
 (.seq (.reg false false [
 ⟨some 32, .mov (.s 9), none⟩,
 ⟨some 33, .fld 0 (.s 3), none⟩,
 ⟨some 34, .load none (.s 33), none⟩,
 ⟨some 35, .app 1 8 (.s 32) (.s 34), none⟩,
 ⟨some 36, .mov (.s 5), none⟩,
 ⟨some 37, .fld 0 (.s 3), none⟩,
 ⟨none, .store 1 (.s 37) (.s 35), none⟩,
 ⟨some 38, .fld 1 (.s 3), none⟩,
 ⟨none, .store 1 (.s 38) (.s 36), none⟩])
 (.seq (.seq (.reg false false [
 ⟨some 39, .mov (.s 5), none⟩,
 ⟨some 40, .len (.s 39), none⟩,
 ⟨some 41, .bin .eql (.s 40) (.c (.int .i64 0)), none⟩,
 ⟨some 42, .mov (.s 41), none⟩,
 ⟨some 43, .fld 0 (.s 3), some (42, false)⟩,
 ⟨some 44, .load none (.s 43), some (42, false)⟩,
 ⟨some 45, .len (.s 44), some (42, false)⟩,
 ⟨some 46, .bin .eql (.s 45) (.c (.int .i64 0)), some (42, false)⟩,
 ⟨some 47, .pick (.s 42) (.c (.bool true)) (.s 46), none⟩])
 (.cond (.s 47)
 (.seq (.reg false false [
 ⟨some 48, .load (some 2) (.s 3), none⟩,
 ⟨none, .store 2 (.s 4) (.s 48), none⟩])
 (.ret))
 (.skip)))
 (.seq (.reg true false [
 ⟨some 49, .fld 1 (.s 3), none⟩,
 ⟨some 50, .load none (.s 49), none⟩,
 ⟨some 51, .fld 1 (.s 2), none⟩,
 ⟨some 52, .load none (.s 51), none⟩,
 ⟨some 53, .conv .i64 (.s 52), none⟩,
 ⟨some 54, .mov (.s 5), none⟩,
 ⟨some 55, .len (.s 54), none⟩,
 ⟨some 56, .bin .rem (.s 53) (.s 55), none⟩,
 ⟨some 57, .idxS 5 (.s 50) (.s 56), none⟩,
 ⟨some 10, .mov (.s 57), none⟩])
 (.seq (.seq (.reg false false [
 ⟨some 58, .fld 0 (.s 2), none⟩,
 ⟨some 59, .load none (.s 58), none⟩,
 ⟨some 60, .bin .rem (.s 59) (.c (.int .u8 9)), none⟩])
 (.block 2 (.seq (.reg false false [
 ⟨some 69, .bin .eql (.s 60) (.c (.int .u8 0)), none⟩,
 ⟨some 68, .mov (.s 69), none⟩])
 (.cond (.s 68)
 (.reg false false [
 ⟨some 70, .mov (.s 10), none⟩,
 ⟨some 71, .fld 2 (.s 2), none⟩,
 ⟨some 72, .load none (.s 71), none⟩,
 ⟨some 73, .nilck (.s 70), none⟩,
 ⟨some 74, .fld 0 (.s 73), none⟩,
 ⟨none, .store 1 (.s 74) (.s 72), none⟩])
 (.seq (.reg false false [
 ⟨some 76, .bin .eql (.s 60) (.c (.int .u8 1)), none⟩,
 ⟨some 75, .mov (.s 76), none⟩])
 (.cond (.s 75)
 (.reg false false [
 ⟨some 77, .mov (.s 10), none⟩,
 ⟨some 78, .fld 2 (.s 2), none⟩,
 ⟨some 79, .load none (.s 78), none⟩,
 ⟨some 80, .nilck (.s 77), none⟩,
 ⟨some 81, .fld 1 (.s 80), none⟩,
 ⟨none, .store 1 (.s 81) (.s 79), none⟩])
 (.seq (.reg false false [
 ⟨some 83, .bin .eql (.s 60) (.c (.int .u8 2)), none⟩,
 ⟨some 82, .mov (.s 83), none⟩])
 (.cond (.s 82)
 (.reg false false [
 ⟨some 84, .mov (.s 10), none⟩,
 ⟨some 85, .fld 2 (.s 2), none⟩,
 ⟨some 86, .load none (.s 85), none⟩,
 ⟨some 87, .nilck (.s 84), none⟩,
 ⟨some 88, .fld 2 (.s 87), none⟩,
 ⟨none, .store 1 (.s 88) (.s 86), none⟩])
 (.seq (.reg false false [
 ⟨some 90, .bin .eql (.s 60) (.c (.int .u8 3)), none⟩,
 ⟨some 89, .mov (.s 90), none⟩])
 (.cond (.s 89)
 (.reg false false [
 ⟨some 91, .mov (.s 10), none⟩,
 ⟨some 92, .fld 2 (.s 2), none⟩,
 ⟨some 93, .load none (.s 92), none⟩,
 ⟨some 94, .nilck (.s 91), none⟩,
 ⟨some 95, .fld 3 (.s 94), none⟩,
 ⟨none, .store 1 (.s 95) (.s 93), none⟩])
 (.seq (.reg false false [
 ⟨some 97, .bin .eql (.s 60) (.c (.int .u8 4)), none⟩,
 ⟨some 96, .mov (.s 97), none⟩])
 (.cond (.s 96)
 (.reg true false [
 ⟨some 98, .mov (.s 10), none⟩,
 ⟨some 99, .mov (.s 10), none⟩,
 ⟨some 100, .nilck (.s 99), none⟩,
 ⟨some 101, .fld 4 (.s 100), none⟩,
 ⟨some 102, .load none (.s 101), none⟩,
 ⟨some 103, .fld 2 (.s 2), none⟩,
 ⟨some 104, .load none (.s 103), none⟩,
 ⟨some 105, .bsl 1 1 [(.int .i64 0)] [(0, (.s 104))], none⟩,
 ⟨some 106, .app 1 8 (.s 102) (.s 105), none⟩,
 ⟨some 107, .nilck (.s 98), none⟩,
 ⟨some 108, .fld 4 (.s 107), none⟩,
 ⟨none, .store 1 (.s 108) (.s 106), none⟩])
 (.seq (.reg false false [
 ⟨some 110, .bin .eql (.s 60) (.c (.int .u8 5)), none⟩,
 ⟨some 109, .mov (.s 110), none⟩])
 (.cond (.s 109)
 (.seq (.reg false false [
 ⟨some 111, .mov (.s 10), none⟩,
 ⟨some 112, .nilck (.s 111), none⟩,
 ⟨some 113, .fld 4 (.s 112), none⟩,
 ⟨some 114, .load none (.s 113), none⟩,
 ⟨some 115, .len (.s 114), none⟩,
 ⟨some 116, .bin .gtr (.s 115) (.c (.int .i64 0)), none⟩])
 (.cond (.s 116)
 (.reg false false [
 ⟨some 117, .mov (.s 10), none⟩,
 ⟨some 118, .mov (.s 10), none⟩,
 ⟨some 119, .nilck (.s 118), none⟩,
 ⟨some 120, .fld 4 (.s 119), none⟩,
 ⟨some 121, .load none (.s 120), none⟩,
 ⟨some 122, .slc 1 (.s 121) (some (.c (.int .i64 1))) none none, none⟩,
 ⟨some 123, .nilck (.s 117), none⟩,
 ⟨some 124, .fld 4 (.s 123), none⟩,
 ⟨none, .store 1 (.s 124) (.s 122), none⟩])
 (.skip)))
 (.seq (.reg false false [
 ⟨some 126, .bin .eql (.s 60) (.c (.int .u8 6)), none⟩,
 ⟨some 125, .mov (.s 126), none⟩])
 (.cond (.s 125)
 (.reg true false [
 ⟨some 127, .fld 0 (.s 3), none⟩,
 ⟨some 128, .load none (.s 127), none⟩,
 ⟨some 129, .fld 1 (.s 2), none⟩,
 ⟨some 130, .load none (.s 129), none⟩,
 ⟨some 131, .conv .i64 (.s 130), none⟩,
 ⟨some 132, .fld 0 (.s 3), none⟩,
 ⟨some 133, .load none (.s 132), none⟩,
 ⟨some 134, .len (.s 133), none⟩,
 ⟨some 135, .bin .rem (.s 131) (.s 134), none⟩,
 ⟨some 136, .fld 2 (.s 2), none⟩,
 ⟨some 137, .load none (.s 136), none⟩,
 ⟨some 138, .idxS 1 (.s 128) (.s 135), none⟩,
 ⟨none, .store 1 (.s 138) (.s 137), none⟩])
 (.seq (.reg false false [
 ⟨some 140, .bin .eql (.s 60) (.c (.int .u8 7)), none⟩,
 ⟨some 139, .mov (.s 140), none⟩])
 (.cond (.s 139)
 (.reg false false [
 ⟨some 141, .fld 1 (.s 3), none⟩,
 ⟨some 142, .load none (.s 141), none⟩,
 ⟨some 143, .mov (.s 5), none⟩,
 ⟨some 144, .len (.s 143), none⟩,
 ⟨some 145, .bin .sub (.s 144) (.c (.int .i64 1)), none⟩,
 ⟨some 146, .slc 5 (.s 142) none (some (.s 145)) none, none⟩,
 ⟨some 147, .fld 1 (.s 3), none⟩,
 ⟨none, .store 1 (.s 147) (.s 146), none⟩])
 (.reg false false [
 ⟨some 61, .fld 0 (.s 3), none⟩,
 ⟨some 62, .load none (.s 61), none⟩,
 ⟨some 63, .fld 2 (.s 2), none⟩,
 ⟨some 64, .load none (.s 63), none⟩,
 ⟨some 65, .bsl 1 1 [(.int .i64 0)] [(0, (.s 64))], none⟩,
 ⟨some 66, .app 1 8 (.s 62) (.s 65), none⟩,
 ⟨some 67, .fld 0 (.s 3), none⟩,
 ⟨none, .store 1 (.s 67) (.s 66), none⟩])))))))))))))))))))
 (.seq (.reg false false [
 ⟨some 148, .load (some 2) (.s 3), none⟩,
 ⟨none, .store 2 (.s 4) (.s 148), none⟩])
 (.ret))))))))),
 [.cell 4 (some 2)], false⟩
theorem fn38_ok : FnOk Try.prog 38 fn38 := by unfold FnOk; kernel_rfl
/-- haruspex/haruspexlaw15.few -/
def fn39 : Mx.Fn := ⟨42,
 .seq (.reg false false [
 ⟨some 1, .box (.s 0), none⟩,
 ⟨some 2, .alloc [(.slice none 0 0), (.slice none 0 0)], none⟩])
 (.seq (.reg false false [
 ⟨some 6, .fld 0 (.s 1), none⟩,
 ⟨some 7, .load none (.s 6), none⟩,
 ⟨some 8, .fld 0 (.s 1), none⟩,
 ⟨some 9, .load none (.s 8), none⟩,
 ⟨some 10, .len (.s 9), none⟩,
 ⟨some 11, .mm false [(.s 10), (.c (.int .i64 10))], none⟩,
 ⟨some 12, .slc 1 (.s 7) none (some (.s 11)) none, none⟩,
 ⟨some 13, .build [(.slice none 0 0), (.slice none 0 0)] [(0, 1, (.s 12))], none⟩,
 ⟨some 3, .alloc [(.slice none 0 0), (.slice none 0 0)], none⟩,
 ⟨none, .store 2 (.s 3) (.s 13), none⟩])
 (.seq (.seq (.reg false false [
 ⟨some 14, .fld 1 (.s 1), none⟩,
 ⟨some 15, .load none (.s 14), none⟩,
 ⟨some 16, .fld 1 (.s 1), none⟩,
 ⟨some 17, .load none (.s 16), none⟩,
 ⟨some 18, .len (.s 17), none⟩,
 ⟨some 19, .mm false [(.s 18), (.c (.int .i64 40))], none⟩,
 ⟨some 20, .slc 5 (.s 15) none (some (.s 19)) none, none⟩,
 ⟨some 21, .len (.s 20), none⟩,
 ⟨some 22, .mov (.c (.int .i64 0)), none⟩])
 (.block 0 (.loop (.seq (.reg false false [
 ⟨some 23, .bin .lss (.s 22) (.s 21), none⟩])
 (.seq (.cond (.s 23)
 (.skip)
 (.exit 0))
 (.seq (.block 1 (.seq (.reg false false [
 ⟨some 24, .idxS 5 (.s 20) (.s 22), none⟩,
 ⟨some 25, .load (some 5) (.s 24), none⟩,
 ⟨some 5, .alloc [(.int .i64 0), (.int .i64 0), (.int .i64 0), (.int .i64 0), (.slice none 0 0)], none⟩,
 ⟨none, .store 5 (.s 5) (.s 25), none⟩])
 (.seq (.reg false false [
 ⟨some 26, .fld 4 (.s 5), none⟩,
 ⟨some 27, .load none (.s 26), none⟩,
 ⟨some 28, .fld 4 (.s 5), none⟩,
 ⟨some 29, .load none (.s 28), none⟩,
 ⟨some 30, .len (.s 29), none⟩,
 ⟨some 31, .mm false [(.s 30), (.c (.int .i64 10))], none⟩,
 ⟨some 32, .slc 1 (.s 27) none (some (.s 31)) none, none⟩,
 ⟨some 33, .fld 4 (.s 5), none⟩,
 ⟨none, .store 1 (.s 33) (.s 32), none⟩])
 (.reg false false [
 ⟨some 34, .fld 1 (.s 3), none⟩,
 ⟨some 35, .load none (.s 34), none⟩,
 ⟨some 36, .load (some 5) (.s 5), none⟩,
 ⟨some 37, .bsl 5 1 [(.int .i64 0), (.int .i64 0), (.int .i64 0), (.int .i64 0), (.slice none 0 0)] [(0, (.s 36))], none⟩,
 ⟨some 38, .app 5 56 (.s 35) (.s 37), none⟩,
 ⟨some 39, .fld 1 (.s 3), none⟩,
 ⟨none, .store 1 (.s 39) (.s 38), none⟩]))))
 (.reg false false [
 ⟨some 40, .bin .add (.s 22) (.c (.int .i64 1)), none⟩,
 ⟨some 22, .mov (.s 40), none⟩])))))))
 (.seq (.reg false false [
 ⟨some 41, .load (some 2) (.s 3), none⟩,
 ⟨none, .store 2 (.s 2) (.s 41), none⟩])
 (.ret)))),
 [.cell 2 (some 2)], false⟩
theorem fn39_ok : FnOk Try.prog 39 fn39 := by unfold FnOk; kernel_rfl
/-- haruspex/haruspexref15.Cards -/
def fn40 : Mx.Fn := ⟨39,
 .seq (.reg false false [
 ⟨some 2, .mov (.c (.bool false)), none⟩])
 (.seq (.seq (.reg false false [
 ⟨some 5, .mov (.s 0), none⟩,
 ⟨some 6, .len (.s 5), none⟩,
 ⟨some 7, .bin .lss (.s 6) (.c (.int .i64 1)), none⟩,
 ⟨some 8, .mov (.s 7), none⟩,
 ⟨some 9, .mov (.s 0), some (8, false)⟩,
 ⟨some 10, .len (.s 9), some (8, false)⟩,
 ⟨some 11, .bin .gtr (.s 10) (.c (.int .i64 8)), some (8, false)⟩,
 ⟨some 12, .pick (.s 8) (.c (.bool true)) (.s 11), none⟩])
 (.cond (.s 12)
 (.seq (.reg false false [
 ⟨some 2, .mov (.c (.bool false)), none⟩])
 (.ret))
 (.skip)))
 (.seq (.reg false false [
 ⟨some 3, .mov (.c (.int .i64 1)), none⟩])
 (.seq (.seq (.reg false false [
 ⟨some 4, .mov (.c (.int .i64 0)), none⟩])
 (.block 0 (.loop (.seq (.seq (.reg false false [
 ⟨some 13, .mov (.s 4), none⟩,
 ⟨some 14, .mov (.s 0), none⟩,
 ⟨some 15, .len (.s 14), none⟩,
 ⟨some 16, .bin .lss (.s 13) (.s 15), none⟩])
 (.cond (.s 16)
 (.skip)
 (.exit 0)))
 (.seq (.block 1 (.seq (.seq (.reg false false [
 ⟨some 19, .mov (.s 0), none⟩,
 ⟨some 20, .mov (.s 4), none⟩,
 ⟨some 21, .idxS 1 (.s 19) (.s 20), none⟩,
 ⟨some 22, .load none (.s 21), none⟩,
 ⟨some 23, .bin .lss (.s 22) (.c (.int .i64 1)), none⟩,
 ⟨some 24, .mov (.s 23), none⟩,
 ⟨some 25, .mov (.s 0), some (24, false)⟩,
 ⟨some 26, .mov (.s 4), some (24, false)⟩,
 ⟨some 27, .idxS 1 (.s 25) (.s 26), some (24, false)⟩,
 ⟨some 28, .load none (.s 27), some (24, false)⟩,
 ⟨some 29, .bin .gtr (.s 28) (.c (.int .i64 4)), some (24, false)⟩,
 ⟨some 30, .pick (.s 24) (.c (.bool true)) (.s 29), none⟩])
 (.cond (.s 30)
 (.seq (.reg false false [
 ⟨some 2, .mov (.c (.bool false)), none⟩])
 (.ret))
 (.skip)))
 (.reg false false [
 ⟨some 31, .mov (.s 3), none⟩,
 ⟨some 32, .mov (.s 0), none⟩,
 ⟨some 33, .mov (.s 4), none⟩,
 ⟨some 34, .idxS 1 (.s 32) (.s 33), none⟩,
 ⟨some 35, .load none (.s 34), none⟩,
 ⟨some 36, .bin .mul (.s 31) (.s 35), none⟩,
 ⟨some 3, .mov (.s 36), none⟩])))
 (.reg false false [
 ⟨some 17, .mov (.s 4), none⟩,
 ⟨some 18, .bin .add (.s 17) (.c (.int .i64 1)), none⟩,
 ⟨some 4, .mov (.s 18), none⟩]))))))
 (.seq (.reg false false [
 ⟨some 37, .mov (.s 3), none⟩,
 ⟨some 38, .bin .leq (.s 37) (.c (.int .i64 1024)), none⟩,
 ⟨some 2, .mov (.s 38), none⟩])
 (.ret))))),
 [.tmp 2], true⟩
theorem fn40_ok : FnOk Try.prog 40 fn40 := by unfold FnOk; kernel_rfl
/-- haruspex/haruspexref15.good -/
def fn41 : Mx.Fn := ⟨136,
 .seq (.reg false false [
 ⟨some 3, .box (.s 0), none⟩,
 ⟨some 6, .mov (.c (.bool false)), none⟩])
 (.seq (.seq (.reg false false [
 ⟨some 8, .fld 0 (.s 3), none⟩,
 ⟨some 9, .load none (.s 8), none⟩,
 ⟨some 10, .bin .neq (.s 9) (.c (.int .i64 1)), none⟩,
 ⟨some 11, .mov (.s 10), none⟩,
 ⟨some 12, .fld 3 (.s 3), some (11, true)⟩,
 ⟨some 13, .load none (.s 12), some (11, true)⟩,
 ⟨some 14, .bin .neq (.s 13) (.c (.int .i64 0)), some (11, true)⟩,
 ⟨some 15, .pick (.s 11) (.s 14) (.c (.bool false)), none⟩,
 ⟨some 16, .mov (.s 15), none⟩,
 ⟨some 17, .fld 0 (.s 3), some (16, false)⟩,
 ⟨some 18, .load none (.s 17), some (16, false)⟩,
 ⟨some 19, .bin .neq (.s 18) (.c (.int .i64 2)), some (16, false)⟩,
 ⟨some 20, .mov (.s 19), some (16, false)⟩,
 ⟨some 21, .fld 1 (.s 3), some (20, true)⟩,
 ⟨some 22, .load none (.s 21), some (20, true)⟩,
 ⟨some 23, .bin .neq (.s 22) (.c (.int .i64 0)), some (20, true)⟩,
 ⟨some 24, .mov (.s 23), some (20, true)⟩,
 ⟨some 25, .fld 2 (.s 3), some (24, false)⟩,
 ⟨some 26, .load none (.s 25), some (24, false)⟩,
 ⟨some 27, .bin .neq (.s 26) (.c (.int .i64 0)), some (24, false)⟩,
 ⟨some 28, .pick (.s 24) (.c (.bool true)) (.s 27), some (20, true)⟩,
 ⟨some 29, .pick (.s 20) (.s 28) (.c (.bool false)), some (16, false)⟩,
 ⟨some 30, .pick (.s 16) (.c (.bool true)) (.s 29), none⟩])
 (.cond (.s 30)
 (.seq (.reg false false [
 ⟨some 6, .mov (.c (.bool false)), none⟩])
 (.ret))
 (.skip)))
 (.seq (.seq (.reg false false [
 ⟨some 31, .fld 0 (.s 3), none⟩,
 ⟨some 32, .load none (.s 31), none⟩,
 ⟨some 33, .bin .eql (.s 32) (.c (.int .i64 1)), none⟩])
 (.cond (.s 33)
 (.seq (.reg false false [
 ⟨some 34, .fld 3 (.s 3), none⟩,
 ⟨some 35, .load none (.s 34), none⟩,
 ⟨some 36, .bin .geq (.s 35) (.c (.int .i64 0)), none⟩,
 ⟨some 37, .mov (.s 36), none⟩,
 ⟨some 38, .fld 3 (.s 3), some (37, true)⟩,
 ⟨some 39, .load none (.s 38), some (37, true)⟩,
 ⟨some 40, .bin .leq (.s 39) (.c (.int .i64 4611686018427387903)), some (37, true)⟩,
 ⟨some 41, .pick (.s 37) (.s 40) (.c (.bool false)), none⟩,
 ⟨some 42, .mov (.s 41), none⟩,
 ⟨some 43, .fld 4 (.s 3), some (42, true)⟩,
 ⟨some 44, .load none (.s 43), some (42, true)⟩,
 ⟨some 45, .len (.s 44), some (42, true)⟩,
 ⟨some 46, .bin .eql (.s 45) (.c (.int .i64 0)), some (42, true)⟩,
 ⟨some 47, .pick (.s 42) (.s 46) (.c (.bool false)), none⟩,
 ⟨some 6, .mov (.s 47), none⟩])
 (.ret))
 (.skip)))
 (.seq (.seq (.reg false false [
 ⟨some 48, .fld 0 (.s 3), none⟩,
 ⟨some 49, .load none (.s 48), none⟩,
 ⟨some 50, .bin .eql (.s 49) (.c (.int .i64 2)), none⟩])
 (.cond (.s 50)
 (.seq (.reg true false [
 ⟨some 51, .fld 1 (.s 3), none⟩,
 ⟨some 52, .load none (.s 51), none⟩,
 ⟨some 53, .bin .geq (.s 52) (.c (.int .i64 0)), none⟩,
 ⟨some 54, .mov (.s 53), none⟩,
 ⟨some 55, .fld 1 (.s 3), some (54, true)⟩,
 ⟨some 56, .load none (.s 55), some (54, true)⟩,
 ⟨some 57, .mov (.s 2), some (54, true)⟩,
 ⟨some 58, .len (.s 57), some (54, true)⟩,
 ⟨some 59, .bin .lss (.s 56) (.s 58), some (54, true)⟩,
 ⟨some 60, .pick (.s 54) (.s 59) (.c (.bool false)), none⟩,
 ⟨some 61, .mov (.s 60), none⟩,
 ⟨some 62, .fld 2 (.s 3), some (61, true)⟩,
 ⟨some 63, .load none (.s 62), some (61, true)⟩,
 ⟨some 64, .bin .geq (.s 63) (.c (.int .i64 0)), some (61, true)⟩,
 ⟨some 65, .pick (.s 61) (.s 64) (.c (.bool false)), none⟩,
 ⟨some 66, .mov (.s 65), none⟩,
 ⟨some 67, .fld 2 (.s 3), some (66, true)⟩,
 ⟨some 68, .load none (.s 67), some (66, true)⟩,
 ⟨some 69, .mov (.s 2), some (66, true)⟩,
 ⟨some 70, .fld 1 (.s 3), some (66, true)⟩,
 ⟨some 71, .load none (.s 70), some (66, true)⟩,
 ⟨some 72, .idxS 1 (.s 69) (.s 71), some (66, true)⟩,
 ⟨some 73, .load none (.s 72), some (66, true)⟩,
 ⟨some 74, .bin .lss (.s 68) (.s 73), some (66, true)⟩,
 ⟨some 75, .pick (.s 66) (.s 74) (.c (.bool false)), none⟩,
 ⟨some 76, .mov (.s 75), none⟩,
 ⟨some 77, .fld 4 (.s 3), some (76, true)⟩,
 ⟨some 78, .load none (.s 77), some (76, true)⟩,
 ⟨some 79, .len (.s 78), some (76, true)⟩,
 ⟨some 80, .bin .eql (.s 79) (.c (.int .i64 0)), some (76, true)⟩,
 ⟨some 81, .pick (.s 76) (.s 80) (.c (.bool false)), none⟩,
 ⟨some 6, .mov (.s 81), none⟩])
 (.ret))
 (.skip)))
 (.seq (.seq (.reg false false [
 ⟨some 82, .fld 0 (.s 3), none⟩,
 ⟨some 83, .load none (.s 82), none⟩,
 ⟨some 84, .bin .neq (.s 83) (.c (.int .i64 3)), none⟩,
 ⟨some 85, .mov (.s 84), none⟩,
 ⟨some 86, .fld 0 (.s 3), some (85, true)⟩,
 ⟨some 87, .load none (.s 86), some (85, true)⟩,
 ⟨some 88, .bin .neq (.s 87) (.c (.int .i64 4)), some (85, true)⟩,
 ⟨some 89, .pick (.s 85) (.s 88) (.c (.bool false)), none⟩,
 ⟨some 90, .mov (.s 89), none⟩,
 ⟨some 91, .fld 4 (.s 3), some (90, false)⟩,
 ⟨some 92, .load none (.s 91), some (90, false)⟩,
 ⟨some 93, .len (.s 92), some (90, false)⟩,
 ⟨some 94, .bin .eql (.s 93) (.c (.int .i64 0)), some (90, false)⟩,
 ⟨some 95, .pick (.s 90) (.c (.bool true)) (.s 94), none⟩])
 (.cond (.s 95)
 (.seq (.reg false false [
 ⟨some 6, .mov (.c (.bool false)), none⟩])
 (.ret))
 (.skip)))
 (.seq (.seq (.reg false false [
 ⟨some 7, .mov (.c (.int .i64 0)), none⟩])
 (.block 0 (.loop (.seq (.seq (.reg false false [
 ⟨some 96, .mov (.s 7), none⟩,
 ⟨some 97, .fld 4 (.s 3), none⟩,
 ⟨some 98, .load none (.s 97), none⟩,
 ⟨some 99, .len (.s 98), none⟩,
 ⟨some 100, .bin .lss (.s 96) (.s 99), none⟩])
 (.cond (.s 100)
 (.skip)
 (.exit 0)))
 (.seq (.block 1 (.seq (.reg true false [
 ⟨some 103, .fld 4 (.s 3), none⟩,
 ⟨some 104, .load none (.s 103), none⟩,
 ⟨some 105, .mov (.s 7), none⟩,
 ⟨some 106, .idxS 1 (.s 104) (.s 105), none⟩,
 ⟨some 107, .load none (.s 106), none⟩,
 ⟨some 108, .bin .lss (.s 107) (.c (.int .i64 0)), none⟩,
 ⟨some 109, .mov (.s 108), none⟩,
 ⟨some 110, .fld 4 (.s 3), some (109, false)⟩,
 ⟨some 111, .load none (.s 110), some (109, false)⟩,
 ⟨some 112, .mov (.s 7), some (109, false)⟩,
 ⟨some 113, .idxS 1 (.s 111) (.s 112), some (109, false)⟩,
 ⟨some 114, .load none (.s 113), some (109, false)⟩,
 ⟨some 115, .mov (.s 1), some (109, false)⟩,
 ⟨some 116, .bin .geq (.s 114) (.s 115), some (109, false)⟩,
 ⟨some 117, .pick (.s 109) (.c (.bool true)) (.s 116), none⟩,
 ⟨some 118, .mov (.s 117), none⟩,
 ⟨some 119, .mov (.s 7), some (118, false)⟩,
 ⟨some 120, .bin .gtr (.s 119) (.c (.int .i64 0)), some (118, false)⟩,
 ⟨some 121, .mov (.s 120), some (118, false)⟩,
 ⟨some 122, .fld 4 (.s 3), some (121, true)⟩,
 ⟨some 123, .load none (.s 122), some (121, true)⟩,
 ⟨some 124, .mov (.s 7), some (121, true)⟩,
 ⟨some 125, .idxS 1 (.s 123) (.s 124), some (121, true)⟩,
 ⟨some 126, .load none (.s 125), some (121, true)⟩,
 ⟨some 127, .fld 4 (.s 3), some (121, true)⟩,
 ⟨some 128, .load none (.s 127), some (121, true)⟩,
 ⟨some 129, .mov (.s 7), some (121, true)⟩,
 ⟨some 130, .bin .sub (.s 129) (.c (.int .i64 1)), some (121, true)⟩,
 ⟨some 131, .idxS 1 (.s 128) (.s 130), some (121, true)⟩,
 ⟨some 132, .load none (.s 131), some (121, true)⟩,
 ⟨some 133, .bin .leq (.s 126) (.s 132), some (121, true)⟩,
 ⟨some 134, .pick (.s 121) (.s 133) (.c (.bool false)), some (118, false)⟩,
 ⟨some 135, .pick (.s 118) (.c (.bool true)) (.s 134), none⟩])
 (.cond (.s 135)
 (.seq (.reg false false [
 ⟨some 6, .mov (.c (.bool false)), none⟩])
 (.ret))
 (.skip))))
 (.reg false false [
 ⟨some 101, .mov (.s 7), none⟩,
 ⟨some 102, .bin .add (.s 101) (.c (.int .i64 1)), none⟩,
 ⟨some 7, .mov (.s 102), none⟩]))))))
 (.seq (.reg false false [
 ⟨some 6, .mov (.c (.bool true)), none⟩])
 (.ret))))))),
 [.tmp 6], true⟩
theorem fn41_ok : FnOk Try.prog 41 fn41 := by unfold FnOk; kernel_rfl
/-- haruspex/circuit.validGate -/
def fn42 : Mx.Fn := ⟨117,
 .seq (.reg false false [
 ⟨some 3, .box (.s 0), none⟩,
 ⟨some 5, .box (.s 2), none⟩,
 ⟨some 6, .mov (.c (.bool false)), none⟩])
 (.seq (.seq (.reg false false [
 ⟨some 10, .fld 0 (.s 5), none⟩,
 ⟨some 11, .load none (.s 10), none⟩])
 (.block 0 (.seq (.reg false false [
 ⟨some 13, .bin .eql (.s 11) (.c (.int .i64 1)), none⟩,
 ⟨some 12, .mov (.s 13), none⟩])
 (.cond (.s 12)
 (.seq (.reg false false [
 ⟨some 14, .fld 3 (.s 5), none⟩,
 ⟨some 15, .load none (.s 14), none⟩,
 ⟨some 16, .bin .geq (.s 15) (.c (.int .i64 0)), none⟩,
 ⟨some 17, .mov (.s 16), none⟩,
 ⟨some 18, .fld 3 (.s 5), some (17, true)⟩,
 ⟨some 19, .load none (.s 18), some (17, true)⟩,
 ⟨some 20, .bin .leq (.s 19) (.c (.int .i64 4611686018427387903)), some (17, true)⟩,
 ⟨some 21, .pick (.s 17) (.s 20) (.c (.bool false)), none⟩,
 ⟨some 22, .mov (.s 21), none⟩,
 ⟨some 23, .fld 1 (.s 5), some (22, true)⟩,
 ⟨some 24, .load none (.s 23), some (22, true)⟩,
 ⟨some 25, .bin .eql (.s 24) (.c (.int .i64 0)), some (22, true)⟩,
 ⟨some 26, .pick (.s 22) (.s 25) (.c (.bool false)), none⟩,
 ⟨some 27, .mov (.s 26), none⟩,
 ⟨some 28, .fld 2 (.s 5), some (27, true)⟩,
 ⟨some 29, .load none (.s 28), some (27, true)⟩,
 ⟨some 30, .bin .eql (.s 29) (.c (.int .i64 0)), some (27, true)⟩,
 ⟨some 31, .pick (.s 27) (.s 30) (.c (.bool false)), none⟩,
 ⟨some 32, .mov (.s 31), none⟩,
 ⟨some 33, .fld 4 (.s 5), some (32, true)⟩,
 ⟨some 34, .load none (.s 33), some (32, true)⟩,
 ⟨some 35, .len (.s 34), some (32, true)⟩,
 ⟨some 36, .bin .eql (.s 35) (.c (.int .i64 0)), some (32, true)⟩,
 ⟨some 37, .pick (.s 32) (.s 36) (.c (.bool false)), none⟩,
 ⟨some 6, .mov (.s 37), none⟩])
 (.ret))
 (.seq (.reg false false [
 ⟨some 39, .bin .eql (.s 11) (.c (.int .i64 2)), none⟩,
 ⟨some 38, .mov (.s 39), none⟩])
 (.cond (.s 38)
 (.seq (.reg true false [
 ⟨some 40, .fld 1 (.s 5), none⟩,
 ⟨some 41, .load none (.s 40), none⟩,
 ⟨some 42, .bin .geq (.s 41) (.c (.int .i64 0)), none⟩,
 ⟨some 43, .mov (.s 42), none⟩,
 ⟨some 44, .fld 1 (.s 5), some (43, true)⟩,
 ⟨some 45, .load none (.s 44), some (43, true)⟩,
 ⟨some 46, .fld 0 (.s 3), some (43, true)⟩,
 ⟨some 47, .load none (.s 46), some (43, true)⟩,
 ⟨some 48, .len (.s 47), some (43, true)⟩,
 ⟨some 49, .bin .lss (.s 45) (.s 48), some (43, true)⟩,
 ⟨some 50, .pick (.s 43) (.s 49) (.c (.bool false)), none⟩,
 ⟨some 51, .mov (.s 50), none⟩,
 ⟨some 52, .fld 2 (.s 5), some (51, true)⟩,
 ⟨some 53, .load none (.s 52), some (51, true)⟩,
 ⟨some 54, .bin .geq (.s 53) (.c (.int .i64 0)), some (51, true)⟩,
 ⟨some 55, .pick (.s 51) (.s 54) (.c (.bool false)), none⟩,
 ⟨some 56, .mov (.s 55), none⟩,
 ⟨some 57, .fld 2 (.s 5), some (56, true)⟩,
 ⟨some 58, .load none (.s 57), some (56, true)⟩,
 ⟨some 59, .fld 0 (.s 3), some (56, true)⟩,
 ⟨some 60, .load none (.s 59), some (56, true)⟩,
 ⟨some 61, .fld 1 (.s 5), some (56, true)⟩,
 ⟨some 62, .load none (.s 61), some (56, true)⟩,
 ⟨some 63, .idxS 1 (.s 60) (.s 62), some (56, true)⟩,
 ⟨some 64, .load none (.s 63), some (56, true)⟩,
 ⟨some 65, .bin .lss (.s 58) (.s 64), some (56, true)⟩,
 ⟨some 66, .pick (.s 56) (.s 65) (.c (.bool false)), none⟩,
 ⟨some 67, .mov (.s 66), none⟩,
 ⟨some 68, .fld 3 (.s 5), some (67, true)⟩,
 ⟨some 69, .load none (.s 68), some (67, true)⟩,
 ⟨some 70, .bin .eql (.s 69) (.c (.int .i64 0)), some (67, true)⟩,
 ⟨some 71, .pick (.s 67) (.s 70) (.c (.bool false)), none⟩,
 ⟨some 72, .mov (.s 71), none⟩,
 ⟨some 73, .fld 4 (.s 5), some (72, true)⟩,
 ⟨some 74, .load none (.s 73), some (72, true)⟩,
 ⟨some 75, .len (.s 74), some (72, true)⟩,
 ⟨some 76, .bin .eql (.s 75) (.c (.int .i64 0)), some (72, true)⟩,
 ⟨some 77, .pick (.s 72) (.s 76) (.c (.bool false)), none⟩,
 ⟨some 6, .mov (.s 77), none⟩])
 (.ret))
 (.seq (.seq (.reg false false [
 ⟨some 79, .bin .eql (.s 11) (.c (.int .i64 3)), none⟩,
 ⟨some 78, .mov (.s 79), none⟩])
 (.cond (.s 78)
 (.skip)
 (.reg false false [
 ⟨some 80, .bin .eql (.s 11) (.c (.int .i64 4)), none⟩,
 ⟨some 78, .mov (.s 80), none⟩])))
 (.cond (.s 78)
 (.seq (.seq (.reg false false [
 ⟨some 81, .fld 1 (.s 5), none⟩,
 ⟨some 82, .load none (.s 81), none⟩,
 ⟨some 83, .bin .neq (.s 82) (.c (.int .i64 0)), none⟩,
 ⟨some 84, .mov (.s 83), none⟩,
 ⟨some 85, .fld 2 (.s 5), some (84, false)⟩,
 ⟨some 86, .load none (.s 85), some (84, false)⟩,
 ⟨some 87, .bin .neq (.s 86) (.c (.int .i64 0)), some (84, false)⟩,
 ⟨some 88, .pick (.s 84) (.c (.bool true)) (.s 87), none⟩,
 ⟨some 89, .mov (.s 88), none⟩,
 ⟨some 90, .fld 3 (.s 5), some (89, false)⟩,
 ⟨some 91, .load none (.s 90), some (89, false)⟩,
 ⟨some 92, .bin .neq (.s 91) (.c (.int .i64 0)), some (89, false)⟩,
 ⟨some 93, .pick (.s 89) (.c (.bool true)) (.s 92), none⟩,
 ⟨some 94, .mov (.s 93), none⟩,
 ⟨some 95, .fld 4 (.s 5), some (94, false)⟩,
 ⟨some 96, .load none (.s 95), some (94, false)⟩,
 ⟨some 97, .len (.s 96), some (94, false)⟩,
 ⟨some 98, .bin .eql (.s 97) (.c (.int .i64 0)), some (94, false)⟩,
 ⟨some 99, .pick (.s 94) (.c (.bool true)) (.s 98), none⟩])
 (.cond (.s 99)
 (.seq (.reg false false [
 ⟨some 6, .mov (.c (.bool false)), none⟩])
 (.ret))
 (.skip)))
 (.seq (.reg false false [
 ⟨some 7, .mov (.c (.int .i64 (-1))), none⟩])
 (.seq (.seq (.reg false false [
 ⟨some 100, .fld 4 (.s 5), none⟩,
 ⟨some 101, .load none (.s 100), none⟩,
 ⟨some 102, .len (.s 101), none⟩,
 ⟨some 103, .mov (.c (.int .i64 0)), none⟩])
 (.block 1 (.loop (.seq (.reg false false [
 ⟨some 104, .bin .lss (.s 103) (.s 102), none⟩])
 (.seq (.cond (.s 104)
 (.skip)
 (.exit 1))
 (.seq (.block 2 (.seq (.reg false false [
 ⟨some 105, .idxS 1 (.s 101) (.s 103), none⟩,
 ⟨some 106, .load none (.s 105), none⟩,
 ⟨some 9, .mov (.s 106), none⟩])
 (.seq (.seq (.reg false false [
 ⟨some 107, .mov (.s 9), none⟩,
 ⟨some 108, .mov (.s 7), none⟩,
 ⟨some 109, .bin .leq (.s 107) (.s 108), none⟩,
 ⟨some 110, .mov (.s 109), none⟩,
 ⟨some 111, .mov (.s 9), some (110, false)⟩,
 ⟨some 112, .mov (.s 1), some (110, false)⟩,
 ⟨some 113, .bin .geq (.s 111) (.s 112), some (110, false)⟩,
 ⟨some 114, .pick (.s 110) (.c (.bool true)) (.s 113), none⟩])
 (.cond (.s 114)
 (.seq (.reg false false [
 ⟨some 6, .mov (.c (.bool false)), none⟩])
 (.ret))
 (.skip)))
 (.reg false false [
 ⟨some 115, .mov (.s 9), none⟩,
 ⟨some 7, .mov (.s 115), none⟩]))))
 (.reg false false [
 ⟨some 116, .bin .add (.s 103) (.c (.int .i64 1)), none⟩,
 ⟨some 103, .mov (.s 116), none⟩])))))))
 (.seq (.reg false false [
 ⟨some 6, .mov (.c (.bool true)), none⟩])
 (.ret)))))
 (.skip)))))))))
 (.seq (.reg false false [
 ⟨some 6, .mov (.c (.bool false)), none⟩])
 (.ret))),
 [.tmp 6], true⟩
theorem fn42_ok : FnOk Try.prog 42 fn42 := by unfold FnOk; kernel_rfl
/-- haruspex/circuit.variables -/
def fn43 : Mx.Fn := ⟨52,
 .seq (.reg false false [
 ⟨some 1, .box (.s 0), none⟩,
 ⟨some 2, .mov (.c (.slice none 0 0)), none⟩])
 (.seq (.reg false false [
 ⟨some 8, .fld 1 (.s 1), none⟩,
 ⟨some 9, .load none (.s 8), none⟩,
 ⟨some 10, .len (.s 9), none⟩,
 ⟨some 11, .mk 1 8 [(.int .u64 0)] (.s 10) (.s 10), none⟩,
 ⟨some 3, .mov (.s 11), none⟩])
 (.seq (.seq (.reg false false [
 ⟨some 12, .fld 1 (.s 1), none⟩,
 ⟨some 13, .load none (.s 12), none⟩,
 ⟨some 14, .len (.s 13), none⟩,
 ⟨some 15, .mov (.c (.int .i64 0)), none⟩])
 (.block 0 (.loop (.seq (.reg false false [
 ⟨some 16, .bin .lss (.s 15) (.s 14), none⟩])
 (.seq (.cond (.s 16)
 (.skip)
 (.exit 0))
 (.seq (.block 1 (.seq (.reg false false [
 ⟨some 17, .mov (.s 15), none⟩,
 ⟨some 18, .idxS 5 (.s 13) (.s 15), none⟩,
 ⟨some 19, .load (some 5) (.s 18), none⟩,
 ⟨some 5, .alloc [(.int .i64 0), (.int .i64 0), (.int .i64 0), (.int .i64 0), (.slice none 0 0)], none⟩,
 ⟨some 4, .mov (.s 17), none⟩,
 ⟨none, .store 5 (.s 5) (.s 19), none⟩])
 (.seq (.seq (.reg false false [
 ⟨some 20, .fld 0 (.s 5), none⟩,
 ⟨some 21, .load none (.s 20), none⟩,
 ⟨some 22, .bin .eql (.s 21) (.c (.int .i64 2)), none⟩])
 (.cond (.s 22)
 (.reg false false [
 ⟨some 23, .mov (.s 3), none⟩,
 ⟨some 24, .mov (.s 4), none⟩,
 ⟨some 25, .fld 1 (.s 5), none⟩,
 ⟨some 26, .load none (.s 25), none⟩,
 ⟨some 27, .bin .shl (.c (.int .u64 1)) (.s 26), none⟩,
 ⟨some 28, .idxS 1 (.s 23) (.s 24), none⟩,
 ⟨none, .store 1 (.s 28) (.s 27), none⟩])
 (.skip)))
 (.seq (.reg false false [
 ⟨some 29, .fld 4 (.s 5), none⟩,
 ⟨some 30, .load none (.s 29), none⟩,
 ⟨some 31, .len (.s 30), none⟩,
 ⟨some 32, .mov (.c (.int .i64 0)), none⟩])
 (.block 2 (.loop (.seq (.reg false false [
 ⟨some 33, .bin .lss (.s 32) (.s 31), none⟩])
 (.seq (.cond (.s 33)
 (.skip)
 (.exit 2))
 (.seq (.block 3 (.seq (.reg false false [
 ⟨some 34, .idxS 1 (.s 30) (.s 32), none⟩,
 ⟨some 35, .load none (.s 34), none⟩,
 ⟨some 7, .mov (.s 35), none⟩])
 (.reg true false [
 ⟨some 36, .mov (.s 3), none⟩,
 ⟨some 37, .mov (.s 4), none⟩,
 ⟨some 38, .mov (.s 3), none⟩,
 ⟨some 39, .mov (.s 4), none⟩,
 ⟨some 40, .idxS 1 (.s 38) (.s 39), none⟩,
 ⟨some 41, .load none (.s 40), none⟩,
 ⟨some 42, .mov (.s 3), none⟩,
 ⟨some 43, .mov (.s 7), none⟩,
 ⟨some 44, .idxS 1 (.s 42) (.s 43), none⟩,
 ⟨some 45, .load none (.s 44), none⟩,
 ⟨some 46, .bsl 1 2 [(.int .u64 0)] [(0, (.s 41)), (1, (.s 45))], none⟩,
 ⟨some 47, .call 44 [(.s 46)], none⟩,
 ⟨some 48, .idxS 1 (.s 36) (.s 37), none⟩,
 ⟨none, .store 1 (.s 48) (.s 47), none⟩])))
 (.reg false false [
 ⟨some 49, .bin .add (.s 32) (.c (.int .i64 1)), none⟩,
 ⟨some 32, .mov (.s 49), none⟩]))))))))))
 (.reg false false [
 ⟨some 50, .bin .add (.s 15) (.c (.int .i64 1)), none⟩,
 ⟨some 15, .mov (.s 50), none⟩])))))))
 (.seq (.reg false false [
 ⟨some 51, .mov (.s 3), none⟩,
 ⟨some 2, .mov (.s 51), none⟩])
 (.ret)))),
 [.tmp 2], false⟩
theorem fn43_ok : FnOk Try.prog 43 fn43 := by unfold FnOk; kernel_rfl
/-- haruspex/circuit.join -/
def fn44 : Mx.Fn := ⟨17,
 .seq (.reg false false [
 ⟨some 2, .mov (.c (.int .u64 0)), none⟩])
 (.seq (.reg false false [
 ⟨some 3, .mov (.c (.int .u64 0)), none⟩])
 (.seq (.seq (.reg false false [
 ⟨some 6, .mov (.s 0), none⟩,
 ⟨some 7, .len (.s 6), none⟩,
 ⟨some 8, .mov (.c (.int .i64 0)), none⟩])
 (.block 0 (.loop (.seq (.reg false false [
 ⟨some 9, .bin .lss (.s 8) (.s 7), none⟩])
 (.seq (.cond (.s 9)
 (.skip)
 (.exit 0))
 (.seq (.block 1 (.seq (.reg false false [
 ⟨some 10, .idxS 1 (.s 6) (.s 8), none⟩,
 ⟨some 11, .load none (.s 10), none⟩,
 ⟨some 5, .mov (.s 11), none⟩])
 (.reg false false [
 ⟨some 12, .mov (.s 3), none⟩,
 ⟨some 13, .mov (.s 5), none⟩,
 ⟨some 14, .bin .or (.s 12) (.s 13), none⟩,
 ⟨some 3, .mov (.s 14), none⟩])))
 (.reg false false [
 ⟨some 15, .bin .add (.s 8) (.c (.int .i64 1)), none⟩,
 ⟨some 8, .mov (.s 15), none⟩])))))))
 (.seq (.reg false false [
 ⟨some 16, .mov (.s 3), none⟩,
 ⟨some 2, .mov (.s 16), none⟩])
 (.ret)))),
 [.tmp 2], true⟩
theorem fn44_ok : FnOk Try.prog 44 fn44 := by unfold FnOk; kernel_rfl
/-- haruspex/circuit.nonzero -/
def fn45 : Mx.Fn := ⟨139,
 .seq (.reg false false [
 ⟨some 1, .box (.s 0), none⟩,
 ⟨some 2, .mov (.c (.slice none 0 0)), none⟩,
 ⟨some 3, .mov (.c (.bool false)), none⟩])
 (.seq (.reg false false [
 ⟨some 16, .fld 0 (.s 1), none⟩,
 ⟨some 17, .load none (.s 16), none⟩,
 ⟨some 18, .call 67 [(.s 17)], none⟩,
 ⟨some 4, .mov (.s 18), none⟩])
 (.seq (.reg false false [
 ⟨some 19, .fld 1 (.s 1), none⟩,
 ⟨some 20, .load none (.s 19), none⟩,
 ⟨some 21, .len (.s 20), none⟩,
 ⟨some 22, .mk 16 128 [(.int .u64 0), (.int .u64 0), (.int .u64 0), (.int .u64 0), (.int .u64 0), (.int .u64 0), (.int .u64 0), (.int .u64 0), (.int .u64 0), (.int .u64 0), (.int .u64 0), (.int .u64 0), (.int .u64 0), (.int .u64 0), (.int .u64 0), (.int .u64 0)] (.s 21) (.s 21), none⟩,
 ⟨some 2, .mov (.s 22), none⟩,
 ⟨some 3, .mov (.c (.bool true)), none⟩])
 (.seq (.seq (.reg false false [
 ⟨some 23, .fld 1 (.s 1), none⟩,
 ⟨some 24, .load none (.s 23), none⟩,
 ⟨some 25, .len (.s 24), none⟩,
 ⟨some 26, .mov (.c (.int .i64 0)), none⟩])
 (.block 0 (.loop (.seq (.reg false false [
 ⟨some 27, .bin .lss (.s 26) (.s 25), none⟩])
 (.seq (.cond (.s 27)
 (.skip)
 (.exit 0))
 (.seq (.block 1 (.seq (.reg false false [
 ⟨some 28, .mov (.s 26), none⟩,
 ⟨some 29, .idxS 5 (.s 24) (.s 26), none⟩,
 ⟨some 30, .load (some 5) (.s 29), none⟩,
 ⟨some 6, .alloc [(.int .i64 0), (.int .i64 0), (.int .i64 0), (.int .i64 0), (.slice none 0 0)], none⟩,
 ⟨some 5, .mov (.s 28), none⟩,
 ⟨none, .store 5 (.s 6) (.s 30), none⟩])
 (.seq (.reg false false [
 ⟨some 31, .mov (.s 2), none⟩,
 ⟨some 32, .mov (.s 5), none⟩,
 ⟨some 33, .idxS 16 (.s 31) (.s 32), none⟩,
 ⟨some 7, .mov (.s 33), none⟩])
 (.seq (.block 2 (.seq (.reg false false [
 ⟨some 35, .fld 0 (.s 6), none⟩,
 ⟨some 36, .load none (.s 35), none⟩,
 ⟨some 37, .bin .eql (.s 36) (.c (.int .i64 2)), none⟩,
 ⟨some 34, .mov (.s 37), none⟩])
 (.cond (.s 34)
 (.reg true false [
 ⟨some 38, .mov (.s 7), none⟩,
 ⟨some 39, .mov (.s 4), none⟩,
 ⟨some 40, .fld 1 (.s 6), none⟩,
 ⟨some 41, .load none (.s 40), none⟩,
 ⟨some 42, .idxS 1 (.s 39) (.s 41), none⟩,
 ⟨some 43, .load none (.s 42), none⟩,
 ⟨some 44, .fld 2 (.s 6), none⟩,
 ⟨some 45, .load none (.s 44), none⟩,
 ⟨some 46, .idxS 16 (.s 43) (.s 45), none⟩,
 ⟨some 47, .load (some 16) (.s 46), none⟩,
 ⟨some 48, .nilck (.s 38), none⟩,
 ⟨none, .store 16 (.s 48) (.s 47), none⟩])
 (.seq (.reg false false [
 ⟨some 50, .fld 0 (.s 6), none⟩,
 ⟨some 51, .load none (.s 50), none⟩,
 ⟨some 52, .bin .eql (.s 51) (.c (.int .i64 4)), none⟩,
 ⟨some 53, .mov (.s 52), none⟩,
 ⟨some 54, .fld 0 (.s 6), some (53, false)⟩,
 ⟨some 55, .load none (.s 54), some (53, false)⟩,
 ⟨some 56, .bin .eql (.s 55) (.c (.int .i64 1)), some (53, false)⟩,
 ⟨some 57, .mov (.s 56), some (53, false)⟩,
 ⟨some 58, .fld 3 (.s 6), some (57, true)⟩,
 ⟨some 59, .load none (.s 58), some (57, true)⟩,
 ⟨some 60, .bin .gtr (.s 59) (.c (.int .i64 0)), some (57, true)⟩,
 ⟨some 61, .pick (.s 57) (.s 60) (.c (.bool false)), some (53, false)⟩,
 ⟨some 62, .pick (.s 53) (.c (.bool true)) (.s 61), none⟩,
 ⟨some 49, .mov (.s 62), none⟩])
 (.cond (.s 49)
 (.seq (.reg false false [
 ⟨some 63, .mov (.s 4), none⟩,
 ⟨some 64, .idxS 1 (.s 63) (.c (.int .i64 0)), none⟩,
 ⟨some 65, .load none (.s 64), none⟩,
 ⟨some 66, .len (.s 65), none⟩,
 ⟨some 67, .mov (.c (.int .i64 0)), none⟩])
 (.block 3 (.loop (.seq (.reg false false [
 ⟨some 68, .bin .lss (.s 67) (.s 66), none⟩])
 (.seq (.cond (.s 68)
 (.skip)
 (.exit 3))
 (.seq (.block 4 (.seq (.reg false false [
 ⟨some 69, .idxS 16 (.s 65) (.s 67), none⟩,
 ⟨some 70, .load (some 16) (.s 69), none⟩,
 ⟨some 9, .alloc [(.int .u64 0), (.int .u64 0), (.int .u64 0), (.int .u64 0), (.int .u64 0), (.int .u64 0), (.int .u64 0), (.int .u64 0), (.int .u64 0), (.int .u64 0), (.int .u64 0), (.int .u64 0), (.int .u64 0), (.int .u64 0), (.int .u64 0), (.int .u64 0)], none⟩,
 ⟨none, .store 16 (.s 9) (.s 70), none⟩])
 (.seq (.reg false false [
 ⟨some 71, .load (some 16) (.s 9), none⟩,
 ⟨some 72, .mov (.c (.int .i64 0)), none⟩])
 (.block 5 (.loop (.seq (.reg false false [
 ⟨some 73, .bin .lss (.s 72) (.c (.int .i64 16)), none⟩])
 (.seq (.cond (.s 73)
 (.skip)
 (.exit 5))
 (.seq (.block 6 (.seq (.reg false false [
 ⟨some 74, .mov (.s 72), none⟩,
 ⟨some 75, .idxV none 16 (.s 71) (.s 72), none⟩,
 ⟨some 10, .mov (.s 74), none⟩,
 ⟨some 11, .mov (.s 75), none⟩])
 (.reg true false [
 ⟨some 76, .mov (.s 7), none⟩,
 ⟨some 77, .mov (.s 10), none⟩,
 ⟨some 78, .nilck (.s 76), none⟩,
 ⟨some 79, .idxA 1 16 (.s 78) (.s 77), none⟩,
 ⟨some 80, .load none (.s 79), none⟩,
 ⟨some 81, .mov (.s 11), none⟩,
 ⟨some 82, .bin .or (.s 80) (.s 81), none⟩,
 ⟨some 83, .nilck (.s 76), none⟩,
 ⟨some 84, .idxA 1 16 (.s 83) (.s 77), none⟩,
 ⟨none, .store 1 (.s 84) (.s 82), none⟩])))
 (.reg false false [
 ⟨some 85, .bin .add (.s 72) (.c (.int .i64 1)), none⟩,
 ⟨some 72, .mov (.s 85), none⟩])))))))))
 (.reg false false [
 ⟨some 86, .bin .add (.s 67) (.c (.int .i64 1)), none⟩,
 ⟨some 67, .mov (.s 86), none⟩])))))))
 (.skip))))))
 (.seq (.reg false false [
 ⟨some 87, .fld 4 (.s 6), none⟩,
 ⟨some 88, .load none (.s 87), none⟩,
 ⟨some 89, .len (.s 88), none⟩,
 ⟨some 90, .mov (.c (.int .i64 0)), none⟩])
 (.block 7 (.loop (.seq (.reg false false [
 ⟨some 91, .bin .lss (.s 90) (.s 89), none⟩])
 (.seq (.cond (.s 91)
 (.skip)
 (.exit 7))
 (.seq (.block 8 (.seq (.reg false false [
 ⟨some 92, .idxS 1 (.s 88) (.s 90), none⟩,
 ⟨some 93, .load none (.s 92), none⟩,
 ⟨some 13, .mov (.s 93), none⟩])
 (.seq (.reg false false [
 ⟨some 94, .mov (.s 2), none⟩,
 ⟨some 95, .mov (.s 13), none⟩,
 ⟨some 96, .idxS 16 (.s 94) (.s 95), none⟩,
 ⟨some 97, .load (some 16) (.s 96), none⟩,
 ⟨some 98, .mov (.c (.int .i64 0)), none⟩])
 (.block 9 (.loop (.seq (.reg false false [
 ⟨some 99, .bin .lss (.s 98) (.c (.int .i64 16)), none⟩])
 (.seq (.cond (.s 99)
 (.skip)
 (.exit 9))
 (.seq (.block 10 (.seq (.reg false false [
 ⟨some 100, .mov (.s 98), none⟩,
 ⟨some 101, .idxV none 16 (.s 97) (.s 98), none⟩,
 ⟨some 14, .mov (.s 100), none⟩,
 ⟨some 15, .mov (.s 101), none⟩])
 (.seq (.seq (.reg false false [
 ⟨some 102, .fld 0 (.s 6), none⟩,
 ⟨some 103, .load none (.s 102), none⟩,
 ⟨some 104, .bin .eql (.s 103) (.c (.int .i64 4)), none⟩])
 (.cond (.s 104)
 (.seq (.reg true false [
 ⟨some 105, .mov (.s 7), none⟩,
 ⟨some 106, .mov (.s 14), none⟩,
 ⟨some 107, .nilck (.s 105), none⟩,
 ⟨some 108, .idxA 1 16 (.s 107) (.s 106), none⟩,
 ⟨some 109, .load none (.s 108), none⟩,
 ⟨some 110, .mov (.s 15), none⟩,
 ⟨some 111, .bin .and (.s 109) (.s 110), none⟩,
 ⟨some 112, .nilck (.s 105), none⟩,
 ⟨some 113, .idxA 1 16 (.s 112) (.s 106), none⟩,
 ⟨none, .store 1 (.s 113) (.s 111), none⟩])
 (.exit 10))
 (.skip)))
 (.seq (.reg false false [
 ⟨some 114, .mov (.s 3), none⟩,
 ⟨some 115, .mov (.s 114), none⟩,
 ⟨some 116, .mov (.s 7), some (115, true)⟩,
 ⟨some 117, .mov (.s 14), some (115, true)⟩,
 ⟨some 118, .nilck (.s 116), some (115, true)⟩,
 ⟨some 119, .idxA 1 16 (.s 118) (.s 117), some (115, true)⟩,
 ⟨some 120, .load none (.s 119), some (115, true)⟩,
 ⟨some 121, .mov (.s 15), some (115, true)⟩,
 ⟨some 122, .bin .and (.s 120) (.s 121), some (115, true)⟩,
 ⟨some 123, .bin .eql (.s 122) (.c (.int .u64 0)), some (115, true)⟩,
 ⟨some 124, .pick (.s 115) (.s 123) (.c (.bool false)), none⟩,
 ⟨some 3, .mov (.s 124), none⟩])
 (.reg true false [
 ⟨some 125, .mov (.s 7), none⟩,
 ⟨some 126, .mov (.s 14), none⟩,
 ⟨some 127, .nilck (.s 125), none⟩,
 ⟨some 128, .idxA 1 16 (.s 127) (.s 126), none⟩,
 ⟨some 129, .load none (.s 128), none⟩,
 ⟨some 130, .mov (.s 15), none⟩,
 ⟨some 131, .bin .or (.s 129) (.s 130), none⟩,
 ⟨some 132, .nilck (.s 125), none⟩,
 ⟨some 133, .idxA 1 16 (.s 132) (.s 126), none⟩,
 ⟨none, .store 1 (.s 133) (.s 131), none⟩])))))
 (.reg false false [
 ⟨some 134, .bin .add (.s 98) (.c (.int .i64 1)), none⟩,
 ⟨some 98, .mov (.s 134), none⟩])))))))))
 (.reg false false [
 ⟨some 135, .bin .add (.s 90) (.c (.int .i64 1)), none⟩,
 ⟨some 90, .mov (.s 135), none⟩])))))))))))
 (.reg false false [
 ⟨some 136, .bin .add (.s 26) (.c (.int .i64 1)), none⟩,
 ⟨some 26, .mov (.s 136), none⟩])))))))
 (.seq (.reg false false [
 ⟨some 137, .mov (.s 2), none⟩,
 ⟨some 138, .mov (.s 3), none⟩,
 ⟨some 2, .mov (.s 137), none⟩,
 ⟨some 3, .mov (.s 138), none⟩])
 (.ret))))),
 [.tmp 2, .tmp 3], false⟩
theorem fn45_ok : FnOk Try.prog 45 fn45 := by unfold FnOk; kernel_rfl
/-- haruspex/haruspexref15.Product -/
def fn47 : Mx.Fn := ⟨39,
 .seq (.reg false false [
 ⟨some 2, .mov (.c (.int .i64 0)), none⟩,
 ⟨some 3, .mov (.c (.bool false)), none⟩])
 (.seq (.seq (.reg false false [
 ⟨some 4, .mov (.c (.int .i64 0)), none⟩])
 (.block 0 (.loop (.seq (.seq (.reg false false [
 ⟨some 8, .mov (.s 4), none⟩,
 ⟨some 9, .mov (.s 0), none⟩,
 ⟨some 10, .len (.s 9), none⟩,
 ⟨some 11, .bin .lss (.s 8) (.s 10), none⟩])
 (.cond (.s 11)
 (.skip)
 (.exit 0)))
 (.seq (.block 1 (.seq (.reg false false [
 ⟨some 14, .mov (.s 0), none⟩,
 ⟨some 15, .mov (.s 4), none⟩,
 ⟨some 16, .idxS 1 (.s 14) (.s 15), none⟩,
 ⟨some 17, .load none (.s 16), none⟩,
 ⟨some 18, .bin .eql (.s 17) (.c (.int .i64 0)), none⟩])
 (.cond (.s 18)
 (.seq (.reg false false [
 ⟨some 2, .mov (.c (.int .i64 0)), none⟩,
 ⟨some 3, .mov (.c (.bool true)), none⟩])
 (.ret))
 (.skip))))
 (.reg false false [
 ⟨some 12, .mov (.s 4), none⟩,
 ⟨some 13, .bin .add (.s 12) (.c (.int .i64 1)), none⟩,
 ⟨some 4, .mov (.s 13), none⟩]))))))
 (.seq (.reg false false [
 ⟨some 5, .mov (.c (.int .i64 1)), none⟩,
 ⟨some 6, .mov (.c (.bool true)), none⟩])
 (.seq (.seq (.reg false false [
 ⟨some 7, .mov (.c (.int .i64 0)), none⟩])
 (.block 2 (.loop (.seq (.seq (.reg false false [
 ⟨some 19, .mov (.s 7), none⟩,
 ⟨some 20, .mov (.s 0), none⟩,
 ⟨some 21, .len (.s 20), none⟩,
 ⟨some 22, .bin .lss (.s 19) (.s 21), none⟩,
 ⟨some 23, .mov (.s 22), none⟩,
 ⟨some 24, .mov (.s 6), some (23, true)⟩,
 ⟨some 25, .pick (.s 23) (.s 24) (.c (.bool false)), none⟩])
 (.cond (.s 25)
 (.skip)
 (.exit 2)))
 (.seq (.block 3 (.reg false false [
 ⟨some 29, .mov (.s 5), none⟩,
 ⟨some 30, .mov (.s 0), none⟩,
 ⟨some 31, .mov (.s 7), none⟩,
 ⟨some 32, .idxS 1 (.s 30) (.s 31), none⟩,
 ⟨some 33, .load none (.s 32), none⟩,
 ⟨some 34, .call 69 [(.s 29), (.s 33)], none⟩,
 ⟨some 28, .mov (.s 34), none⟩,
 ⟨some 35, .ext (.s 28) 0, none⟩,
 ⟨some 36, .ext (.s 28) 1, none⟩,
 ⟨some 5, .mov (.s 35), none⟩,
 ⟨some 6, .mov (.s 36), none⟩]))
 (.reg false false [
 ⟨some 26, .mov (.s 7), none⟩,
 ⟨some 27, .bin .add (.s 26) (.c (.int .i64 1)), none⟩,
 ⟨some 7, .mov (.s 27), none⟩]))))))
 (.seq (.reg false false [
 ⟨some 37, .mov (.s 5), none⟩,
 ⟨some 38, .mov (.s 6), none⟩,
 ⟨some 2, .mov (.s 37), none⟩,
 ⟨some 3, .mov (.s 38), none⟩])
 (.ret))))),
 [.tmp 2, .tmp 3], true⟩
theorem fn47_ok : FnOk Try.prog 47 fn47 := by unfold FnOk; kernel_rfl
/-- haruspex/haruspexref02.At -/
def fn48 : Mx.Fn := ⟨24,
 .seq (.reg false false [
 ⟨some 4, .mov (.c (.slice none 0 0)), none⟩])
 (.seq (.reg false false [
 ⟨some 5, .mov (.c (.slice none 0 0)), none⟩])
 (.seq (.seq (.reg false false [
 ⟨some 6, .mov (.c (.int .i64 0)), none⟩])
 (.block 0 (.loop (.seq (.seq (.reg false false [
 ⟨some 7, .mov (.s 6), none⟩,
 ⟨some 8, .mov (.s 1), none⟩,
 ⟨some 9, .len (.s 8), none⟩,
 ⟨some 10, .bin .lss (.s 7) (.s 9), none⟩])
 (.cond (.s 10)
 (.skip)
 (.exit 0)))
 (.seq (.block 1 (.reg false false [
 ⟨some 13, .mov (.s 5), none⟩,
 ⟨some 14, .mov (.s 0), none⟩,
 ⟨some 15, .mov (.s 1), none⟩,
 ⟨some 16, .mov (.s 6), none⟩,
 ⟨some 17, .idxS 1 (.s 15) (.s 16), none⟩,
 ⟨some 18, .load none (.s 17), none⟩,
 ⟨some 19, .idxS 1 (.s 14) (.s 18), none⟩,
 ⟨some 20, .load none (.s 19), none⟩,
 ⟨some 21, .bsl 1 1 [(.int .i64 0)] [(0, (.s 20))], none⟩,
 ⟨some 22, .app 1 8 (.s 13) (.s 21), none⟩,
 ⟨some 5, .mov (.s 22), none⟩]))
 (.reg false false [
 ⟨some 11, .mov (.s 6), none⟩,
 ⟨some 12, .bin .add (.s 11) (.c (.int .i64 1)), none⟩,
 ⟨some 6, .mov (.s 12), none⟩]))))))
 (.seq (.reg false false [
 ⟨some 23, .mov (.s 5), none⟩,
 ⟨some 4, .mov (.s 23), none⟩])
 (.ret)))),
 [.tmp 4], false⟩
theorem fn48_ok : FnOk Try.prog 48 fn48 := by unfold FnOk; kernel_rfl
/-- haruspex/circuit.newRun -/
def fn49 : Mx.Fn := ⟨43,
 .seq (.reg false false [
 ⟨some 2, .box (.s 0), none⟩,
 ⟨some 4, .mov (.c (.pointer none)), none⟩,
 ⟨some 5, .mov (.c (.int .i64 0)), none⟩])
 (.seq (.seq (.reg false false [
 ⟨some 9, .load (some 2) (.s 2), none⟩,
 ⟨some 10, .call 13 [(.s 9)], none⟩,
 ⟨some 6, .mov (.s 10), none⟩])
 (.seq (.reg false false [
 ⟨some 11, .mov (.s 6), none⟩,
 ⟨some 12, .bin .neq (.s 11) (.c (.int .i64 0)), none⟩])
 (.cond (.s 12)
 (.seq (.reg false false [
 ⟨some 13, .mov (.s 6), none⟩,
 ⟨some 4, .mov (.c (.pointer none)), none⟩,
 ⟨some 5, .mov (.s 13), none⟩])
 (.ret))
 (.skip))))
 (.seq (.seq (.reg false false [
 ⟨some 14, .mov (.s 1), none⟩,
 ⟨some 15, .len (.s 14), none⟩,
 ⟨some 16, .fld 0 (.s 2), none⟩,
 ⟨some 17, .load none (.s 16), none⟩,
 ⟨some 18, .len (.s 17), none⟩,
 ⟨some 19, .bin .neq (.s 15) (.s 18), none⟩])
 (.cond (.s 19)
 (.seq (.reg false false [
 ⟨some 4, .mov (.c (.pointer none)), none⟩,
 ⟨some 5, .mov (.c (.int .i64 2)), none⟩])
 (.ret))
 (.skip)))
 (.seq (.seq (.reg false false [
 ⟨some 20, .mov (.s 1), none⟩,
 ⟨some 21, .len (.s 20), none⟩,
 ⟨some 22, .mov (.c (.int .i64 0)), none⟩])
 (.block 0 (.loop (.seq (.reg false false [
 ⟨some 23, .bin .lss (.s 22) (.s 21), none⟩])
 (.seq (.cond (.s 23)
 (.skip)
 (.exit 0))
 (.seq (.block 1 (.seq (.reg false false [
 ⟨some 24, .mov (.s 22), none⟩,
 ⟨some 25, .idxS 1 (.s 20) (.s 22), none⟩,
 ⟨some 26, .load none (.s 25), none⟩,
 ⟨some 7, .mov (.s 24), none⟩,
 ⟨some 8, .mov (.s 26), none⟩])
 (.seq (.reg false false [
 ⟨some 27, .mov (.s 8), none⟩,
 ⟨some 28, .bin .lss (.s 27) (.c (.int .i64 (-1))), none⟩,
 ⟨some 29, .mov (.s 28), none⟩,
 ⟨some 30, .mov (.s 8), some (29, false)⟩,
 ⟨some 31, .fld 0 (.s 2), some (29, false)⟩,
 ⟨some 32, .load none (.s 31), some (29, false)⟩,
 ⟨some 33, .mov (.s 7), some (29, false)⟩,
 ⟨some 34, .idxS 1 (.s 32) (.s 33), some (29, false)⟩,
 ⟨some 35, .load none (.s 34), some (29, false)⟩,
 ⟨some 36, .bin .geq (.s 30) (.s 35), some (29, false)⟩,
 ⟨some 37, .pick (.s 29) (.c (.bool true)) (.s 36), none⟩])
 (.cond (.s 37)
 (.seq (.reg false false [
 ⟨some 4, .mov (.c (.pointer none)), none⟩,
 ⟨some 5, .mov (.c (.int .i64 2)), none⟩])
 (.ret))
 (.skip)))))
 (.reg false false [
 ⟨some 38, .bin .add (.s 22) (.c (.int .i64 1)), none⟩,
 ⟨some 22, .mov (.s 38), none⟩])))))))
 (.seq (.reg false false [
 ⟨some 39, .load (some 2) (.s 2), none⟩,
 ⟨some 40, .mov (.s 1), none⟩,
 ⟨some 41, .build [(.slice none 0 0), (.slice none 0 0), (.slice none 0 0), (.slice none 0 0)] [(0, 2, (.s 39)), (2, 1, (.s 40))], none⟩,
 ⟨some 42, .box (.s 41), none⟩,
 ⟨some 4, .mov (.s 42), none⟩,
 ⟨some 5, .mov (.c (.int .i64 0)), none⟩])
 (.ret))))),
 [.tmp 4, .tmp 5], false⟩
theorem fn49_ok : FnOk Try.prog 49 fn49 := by unfold FnOk; kernel_rfl
/-- haruspex/circuit.try -/
def fn50 : Mx.Fn := ⟨6,
 .seq (.reg false false [
 ⟨some 2, .alloc [(.int .i64 0)], none⟩])
 (.seq (.reg false false [
 ⟨some 3, .clo 70 [] [(.s 2)], none⟩,
 ⟨none, .defer (.s 3) [], none⟩])
 (.seq (.reg false false [
 ⟨some 4, .mov (.s 0), none⟩,
 ⟨some 5, .callv (.s 4) [], none⟩])
 (.seq (.reg false false [
 ⟨none, .store 1 (.s 2) (.c (.int .i64 0)), none⟩])
 (.ret)))),
 [.cell 2 none], false⟩
theorem fn50_ok : FnOk Try.prog 50 fn50 := by unfold FnOk; kernel_rfl
/-- (*haruspex/circuit.run).evaluate -/
def fn51 : Mx.Fn := ⟨58,
 .seq (.reg false false [
 ⟨some 6, .mov (.s 0), none⟩,
 ⟨some 7, .clo 71 [(.s 6)] [], none⟩,
 ⟨some 8, .mov (.s 0), none⟩,
 ⟨some 9, .clo 72 [(.s 8)] [], none⟩,
 ⟨some 10, .mov (.s 0), none⟩,
 ⟨some 11, .clo 73 [(.s 10)] [], none⟩,
 ⟨some 12, .mov (.s 0), none⟩,
 ⟨some 13, .clo 74 [(.s 12)] [], none⟩,
 ⟨some 14, .build [.nilFunc, .nilFunc, .nilFunc, .nilFunc, .nilFunc] [(1, 1, (.s 7)), (2, 1, (.s 9)), (3, 1, (.s 11)), (4, 1, (.s 13))], none⟩,
 ⟨some 2, .alloc [.nilFunc, .nilFunc, .nilFunc, .nilFunc, .nilFunc], none⟩,
 ⟨none, .store 5 (.s 2) (.s 14), none⟩])
 (.seq (.reg false false [
 ⟨some 15, .mov (.s 0), none⟩,
 ⟨some 16, .mov (.s 0), none⟩,
 ⟨some 17, .nilck (.s 16), none⟩,
 ⟨some 18, .fld 0 (.s 17), none⟩,
 ⟨some 19, .fld 1 (.s 18), none⟩,
 ⟨some 20, .load none (.s 19), none⟩,
 ⟨some 21, .len (.s 20), none⟩,
 ⟨some 22, .mk 1 8 [(.int .i64 0)] (.c (.int .i64 0)) (.s 21), none⟩,
 ⟨some 23, .nilck (.s 15), none⟩,
 ⟨some 24, .fld 3 (.s 23), none⟩,
 ⟨none, .store 1 (.s 24) (.s 22), none⟩])
 (.seq (.reg false false [
 ⟨some 25, .mov (.s 0), none⟩,
 ⟨some 26, .nilck (.s 25), none⟩,
 ⟨some 27, .fld 0 (.s 26), none⟩,
 ⟨some 28, .fld 1 (.s 27), none⟩,
 ⟨some 29, .load none (.s 28), none⟩,
 ⟨some 30, .len (.s 29), none⟩,
 ⟨some 31, .mov (.c (.int .i64 0)), none⟩])
 (.block 0 (.loop (.seq (.reg false false [
 ⟨some 32, .bin .lss (.s 31) (.s 30), none⟩])
 (.seq (.cond (.s 32)
 (.skip)
 (.exit 0))
 (.seq (.block 1 (.seq (.reg false false [
 ⟨some 33, .mov (.s 31), none⟩,
 ⟨some 34, .idxS 5 (.s 29) (.s 31), none⟩,
 ⟨some 35, .load (some 5) (.s 34), none⟩,
 ⟨some 4, .alloc [(.int .i64 0), (.int .i64 0), (.int .i64 0), (.int .i64 0), (.slice none 0 0)], none⟩,
 ⟨some 3, .mov (.s 33), none⟩,
 ⟨none, .store 5 (.s 4) (.s 35), none⟩])
 (.seq (.reg true false [
 ⟨some 36, .fld 0 (.s 4), none⟩,
 ⟨some 37, .load none (.s 36), none⟩,
 ⟨some 38, .idxA 1 5 (.s 2) (.s 37), none⟩,
 ⟨some 39, .load none (.s 38), none⟩,
 ⟨some 40, .load (some 5) (.s 4), none⟩,
 ⟨some 41, .callv (.s 39) [(.s 40)], none⟩,
 ⟨some 5, .mov (.s 41), none⟩])
 (.seq (.seq (.reg false false [
 ⟨some 42, .mov (.s 5), none⟩,
 ⟨some 43, .bin .eql (.s 42) (.c (.int .i64 4611686018427387904)), none⟩])
 (.cond (.s 43)
 (.reg false false [
 ⟨some 44, .mov (.s 3), none⟩,
 ⟨some 45, .build [(.int .i64 0)] [(0, 1, (.s 44))], none⟩,
 ⟨some 46, .mkI 135 (.s 45), none⟩,
 ⟨none, .panic (.s 46), none⟩])
 (.skip)))
 (.reg false false [
 ⟨some 47, .mov (.s 0), none⟩,
 ⟨some 48, .mov (.s 0), none⟩,
 ⟨some 49, .nilck (.s 48), none⟩,
 ⟨some 50, .fld 3 (.s 49), none⟩,
 ⟨some 51, .load none (.s 50), none⟩,
 ⟨some 52, .mov (.s 5), none⟩,
 ⟨some 53, .bsl 1 1 [(.int .i64 0)] [(0, (.s 52))], none⟩,
 ⟨some 54, .app 1 8 (.s 51) (.s 53), none⟩,
 ⟨some 55, .nilck (.s 47), none⟩,
 ⟨some 56, .fld 3 (.s 55), none⟩,
 ⟨none, .store 1 (.s 56) (.s 54), none⟩])))))
 (.reg false false [
 ⟨some 57, .bin .add (.s 31) (.c (.int .i64 1)), none⟩,
 ⟨some 31, .mov (.s 57), none⟩])))))))),
 [], false⟩
theorem fn51_ok : FnOk Try.prog 51 fn51 := by unfold FnOk; kernel_rfl
/-- haruspex/haruspexref15.Input -/
def fn52 : Mx.Fn := ⟨35,
 .seq (.reg false false [
 ⟨some 2, .box (.s 0), none⟩,
 ⟨some 4, .mov (.c (.bool false)), none⟩])
 (.seq (.seq (.reg false false [
 ⟨some 6, .mov (.s 1), none⟩,
 ⟨some 7, .len (.s 6), none⟩,
 ⟨some 8, .fld 0 (.s 2), none⟩,
 ⟨some 9, .load none (.s 8), none⟩,
 ⟨some 10, .len (.s 9), none⟩,
 ⟨some 11, .bin .neq (.s 7) (.s 10), none⟩])
 (.cond (.s 11)
 (.seq (.reg false false [
 ⟨some 4, .mov (.c (.bool false)), none⟩])
 (.ret))
 (.skip)))
 (.seq (.seq (.reg false false [
 ⟨some 5, .mov (.c (.int .i64 0)), none⟩])
 (.block 0 (.loop (.seq (.seq (.reg false false [
 ⟨some 12, .mov (.s 5), none⟩,
 ⟨some 13, .mov (.s 1), none⟩,
 ⟨some 14, .len (.s 13), none⟩,
 ⟨some 15, .bin .lss (.s 12) (.s 14), none⟩])
 (.cond (.s 15)
 (.skip)
 (.exit 0)))
 (.seq (.block 1 (.seq (.reg true false [
 ⟨some 18, .mov (.s 1), none⟩,
 ⟨some 19, .mov (.s 5), none⟩,
 ⟨some 20, .idxS 1 (.s 18) (.s 19), none⟩,
 ⟨some 21, .load none (.s 20), none⟩,
 ⟨some 22, .bin .lss (.s 21) (.c (.int .i64 (-1))), none⟩,
 ⟨some 23, .mov (.s 22), none⟩,
 ⟨some 24, .mov (.s 1), some (23, false)⟩,
 ⟨some 25, .mov (.s 5), some (23, false)⟩,
 ⟨some 26, .idxS 1 (.s 24) (.s 25), some (23, false)⟩,
 ⟨some 27, .load none (.s 26), some (23, false)⟩,
 ⟨some 28, .fld 0 (.s 2), some (23, false)⟩,
 ⟨some 29, .load none (.s 28), some (23, false)⟩,
 ⟨some 30, .mov (.s 5), some (23, false)⟩,
 ⟨some 31, .idxS 1 (.s 29) (.s 30), some (23, false)⟩,
 ⟨some 32, .load none (.s 31), some (23, false)⟩,
 ⟨some 33, .bin .geq (.s 27) (.s 32), some (23, false)⟩,
 ⟨some 34, .pick (.s 23) (.c (.bool true)) (.s 33), none⟩])
 (.cond (.s 34)
 (.seq (.reg false false [
 ⟨some 4, .mov (.c (.bool false)), none⟩])
 (.ret))
 (.skip))))
 (.reg false false [
 ⟨some 16, .mov (.s 5), none⟩,
 ⟨some 17, .bin .add (.s 16) (.c (.int .i64 1)), none⟩,
 ⟨some 5, .mov (.s 17), none⟩]))))))
 (.seq (.reg false false [
 ⟨some 4, .mov (.c (.bool true)), none⟩])
 (.ret)))),
 [.tmp 4], true⟩
theorem fn52_ok : FnOk Try.prog 52 fn52 := by unfold FnOk; kernel_rfl
/-- haruspex/haruspexref15.Values -/
def fn53 : Mx.Fn := ⟨74,
 .seq (.reg false false [
 ⟨some 2, .box (.s 0), none⟩,
 ⟨some 4, .mov (.c (.slice none 0 0)), none⟩,
 ⟨some 5, .mov (.c (.bool false)), none⟩])
 (.seq (.reg false false [
 ⟨some 6, .mov (.c (.slice none 0 0)), none⟩])
 (.seq (.seq (.reg false false [
 ⟨some 7, .mov (.c (.int .i64 0)), none⟩])
 (.block 0 (.loop (.seq (.seq (.reg false false [
 ⟨some 11, .mov (.s 7), none⟩,
 ⟨some 12, .fld 1 (.s 2), none⟩,
 ⟨some 13, .load none (.s 12), none⟩,
 ⟨some 14, .len (.s 13), none⟩,
 ⟨some 15, .bin .lss (.s 11) (.s 14), none⟩])
 (.cond (.s 15)
 (.skip)
 (.exit 0)))
 (.seq (.block 1 (.seq (.reg false false [
 ⟨some 18, .fld 1 (.s 2), none⟩,
 ⟨some 19, .load none (.s 18), none⟩,
 ⟨some 20, .mov (.s 7), none⟩,
 ⟨some 21, .idxS 5 (.s 19) (.s 20), none⟩,
 ⟨some 22, .load (some 5) (.s 21), none⟩,
 ⟨some 8, .alloc [(.int .i64 0), (.int .i64 0), (.int .i64 0), (.int .i64 0), (.slice none 0 0)], none⟩,
 ⟨none, .store 5 (.s 8) (.s 22), none⟩])
 (.seq (.reg false false [
 ⟨some 9, .mov (.c (.int .i64 0)), none⟩,
 ⟨some 10, .mov (.c (.bool true)), none⟩])
 (.seq (.seq (.reg false false [
 ⟨some 23, .fld 0 (.s 8), none⟩,
 ⟨some 24, .load none (.s 23), none⟩])
 (.block 2 (.seq (.reg false false [
 ⟨some 26, .bin .eql (.s 24) (.c (.int .i64 1)), none⟩,
 ⟨some 25, .mov (.s 26), none⟩])
 (.cond (.s 25)
 (.reg false false [
 ⟨some 27, .fld 3 (.s 8), none⟩,
 ⟨some 28, .load none (.s 27), none⟩,
 ⟨some 9, .mov (.s 28), none⟩])
 (.seq (.reg false false [
 ⟨some 30, .bin .eql (.s 24) (.c (.int .i64 2)), none⟩,
 ⟨some 29, .mov (.s 30), none⟩])
 (.cond (.s 29)
 (.seq (.reg true false [
 ⟨some 31, .mov (.s 1), none⟩,
 ⟨some 32, .fld 1 (.s 8), none⟩,
 ⟨some 33, .load none (.s 32), none⟩,
 ⟨some 34, .idxS 1 (.s 31) (.s 33), none⟩,
 ⟨some 35, .load none (.s 34), none⟩,
 ⟨some 36, .bin .eql (.s 35) (.c (.int .i64 (-1))), none⟩,
 ⟨some 37, .mov (.s 36), none⟩,
 ⟨some 38, .mov (.s 1), some (37, false)⟩,
 ⟨some 39, .fld 1 (.s 8), some (37, false)⟩,
 ⟨some 40, .load none (.s 39), some (37, false)⟩,
 ⟨some 41, .idxS 1 (.s 38) (.s 40), some (37, false)⟩,
 ⟨some 42, .load none (.s 41), some (37, false)⟩,
 ⟨some 43, .fld 2 (.s 8), some (37, false)⟩,
 ⟨some 44, .load none (.s 43), some (37, false)⟩,
 ⟨some 45, .bin .eql (.s 42) (.s 44), some (37, false)⟩,
 ⟨some 46, .pick (.s 37) (.c (.bool true)) (.s 45), none⟩])
 (.cond (.s 46)
 (.reg false false [
 ⟨some 9, .mov (.c (.int .i64 1)), none⟩])
 (.skip)))
 (.seq (.reg false false [
 ⟨some 48, .bin .eql (.s 24) (.c (.int .i64 3)), none⟩,
 ⟨some 47, .mov (.s 48), none⟩])
 (.cond (.s 47)
 (.reg false false [
 ⟨some 50, .mov (.s 6), none⟩,
 ⟨some 51, .fld 4 (.s 8), none⟩,
 ⟨some 52, .load none (.s 51), none⟩,
 ⟨some 53, .call 48 [(.s 50), (.s 52)], none⟩,
 ⟨some 54, .call 57 [(.s 53)], none⟩,
 ⟨some 49, .mov (.s 54), none⟩,
 ⟨some 55, .ext (.s 49) 0, none⟩,
 ⟨some 56, .ext (.s 49) 1, none⟩,
 ⟨some 9, .mov (.s 55), none⟩,
 ⟨some 10, .mov (.s 56), none⟩])
 (.seq (.reg false false [
 ⟨some 58, .bin .eql (.s 24) (.c (.int .i64 4)), none⟩,
 ⟨some 57, .mov (.s 58), none⟩])
 (.cond (.s 57)
 (.reg false false [
 ⟨some 60, .mov (.s 6), none⟩,
 ⟨some 61, .fld 4 (.s 8), none⟩,
 ⟨some 62, .load none (.s 61), none⟩,
 ⟨some 63, .call 48 [(.s 60), (.s 62)], none⟩,
 ⟨some 64, .call 47 [(.s 63)], none⟩,
 ⟨some 59, .mov (.s 64), none⟩,
 ⟨some 65, .ext (.s 59) 0, none⟩,
 ⟨some 66, .ext (.s 59) 1, none⟩,
 ⟨some 9, .mov (.s 65), none⟩,
 ⟨some 10, .mov (.s 66), none⟩])
 (.skip)))))))))))
 (.seq (.seq (.reg false false [
 ⟨some 67, .mov (.s 10), none⟩,
 ⟨some 68, .un .not (.s 67), none⟩])
 (.cond (.s 68)
 (.seq (.reg false false [
 ⟨some 4, .mov (.c (.slice none 0 0)), none⟩,
 ⟨some 5, .mov (.c (.bool false)), none⟩])
 (.ret))
 (.skip)))
 (.reg false false [
 ⟨some 69, .mov (.s 6), none⟩,
 ⟨some 70, .mov (.s 9), none⟩,
 ⟨some 71, .bsl 1 1 [(.int .i64 0)] [(0, (.s 70))], none⟩,
 ⟨some 72, .app 1 8 (.s 69) (.s 71), none⟩,
 ⟨some 6, .mov (.s 72), none⟩]))))))
 (.reg false false [
 ⟨some 16, .mov (.s 7), none⟩,
 ⟨some 17, .bin .add (.s 16) (.c (.int .i64 1)), none⟩,
 ⟨some 7, .mov (.s 17), none⟩]))))))
 (.seq (.reg false false [
 ⟨some 73, .mov (.s 6), none⟩,
 ⟨some 4, .mov (.s 73), none⟩,
 ⟨some 5, .mov (.c (.bool true)), none⟩])
 (.ret)))),
 [.tmp 4, .tmp 5], false⟩
theorem fn53_ok : FnOk Try.prog 53 fn53 := by unfold FnOk; kernel_rfl
/-- haruspex/circuit.Derive$1 -/
def fn54 : Mx.Fn := ⟨6,
 .seq (.reg false false [
 ⟨some 2, .load none (.s 0), none⟩,
 ⟨some 3, .call 51 [(.s 2)], none⟩])
 (.reg false false [
 ⟨some 4, .load none (.s 0), none⟩,
 ⟨some 5, .call 55 [(.s 4)], none⟩,
 ⟨none, .store 1 (.s 1) (.s 5), none⟩]),
 [], false⟩
theorem fn54_ok : FnOk Try.prog 54 fn54 := by unfold FnOk; kernel_rfl
/-- (*haruspex/circuit.run).derive -/
def fn55 : Mx.Fn := ⟨157,
 .seq (.reg false false [
 ⟨some 2, .mov (.c (.slice none 0 0)), none⟩])
 (.seq (.reg false false [
 ⟨some 16, .mov (.s 0), none⟩,
 ⟨some 17, .nilck (.s 16), none⟩,
 ⟨some 18, .fld 0 (.s 17), none⟩,
 ⟨some 19, .fld 0 (.s 18), none⟩,
 ⟨some 20, .load none (.s 19), none⟩,
 ⟨some 21, .len (.s 20), none⟩,
 ⟨some 22, .mk 1 24 [(.slice none 0 0)] (.s 21) (.s 21), none⟩,
 ⟨some 3, .mov (.s 22), none⟩])
 (.seq (.seq (.reg false false [
 ⟨some 23, .mov (.s 0), none⟩,
 ⟨some 24, .nilck (.s 23), none⟩,
 ⟨some 25, .fld 0 (.s 24), none⟩,
 ⟨some 26, .fld 0 (.s 25), none⟩,
 ⟨some 27, .load none (.s 26), none⟩,
 ⟨some 28, .len (.s 27), none⟩,
 ⟨some 29, .mov (.c (.int .i64 0)), none⟩])
 (.block 0 (.loop (.seq (.reg false false [
 ⟨some 30, .bin .lss (.s 29) (.s 28), none⟩])
 (.seq (.cond (.s 30)
 (.skip)
 (.exit 0))
 (.seq (.block 1 (.seq (.reg false false [
 ⟨some 31, .mov (.s 29), none⟩,
 ⟨some 32, .idxS 1 (.s 27) (.s 29), none⟩,
 ⟨some 33, .load none (.s 32), none⟩,
 ⟨some 4, .mov (.s 31), none⟩,
 ⟨some 5, .mov (.s 33), none⟩])
 (.reg false false [
 ⟨some 34, .mov (.s 3), none⟩,
 ⟨some 35, .mov (.s 4), none⟩,
 ⟨some 36, .mov (.s 5), none⟩,
 ⟨some 37, .mk 1 8 [(.int .i64 0)] (.s 36) (.s 36), none⟩,
 ⟨some 38, .idxS 1 (.s 34) (.s 35), none⟩,
 ⟨none, .store 1 (.s 38) (.s 37), none⟩])))
 (.reg false false [
 ⟨some 39, .bin .add (.s 29) (.c (.int .i64 1)), none⟩,
 ⟨some 29, .mov (.s 39), none⟩])))))))
 (.seq (.reg false false [
 ⟨some 40, .mov (.s 0), none⟩,
 ⟨some 41, .nilck (.s 40), none⟩,
 ⟨some 42, .fld 0 (.s 41), none⟩,
 ⟨some 43, .fld 1 (.s 42), none⟩,
 ⟨some 44, .load none (.s 43), none⟩,
 ⟨some 45, .len (.s 44), none⟩,
 ⟨some 46, .bin .sub (.s 45) (.c (.int .i64 1)), none⟩,
 ⟨some 6, .mov (.s 46), none⟩])
 (.seq (.reg false false [
 ⟨some 47, .mov (.s 0), none⟩,
 ⟨some 48, .nilck (.s 47), none⟩,
 ⟨some 49, .fld 0 (.s 48), none⟩,
 ⟨some 50, .fld 1 (.s 49), none⟩,
 ⟨some 51, .load none (.s 50), none⟩,
 ⟨some 52, .len (.s 51), none⟩,
 ⟨some 53, .mk 1 8 [(.int .i64 0)] (.s 52) (.s 52), none⟩,
 ⟨some 7, .mov (.s 53), none⟩])
 (.seq (.reg false false [
 ⟨some 54, .mov (.s 7), none⟩,
 ⟨some 55, .mov (.s 6), none⟩,
 ⟨some 56, .idxS 1 (.s 54) (.s 55), none⟩,
 ⟨none, .store 1 (.s 56) (.c (.int .i64 1)), none⟩])
 (.seq (.seq (.reg false false [
 ⟨some 57, .mov (.s 6), none⟩,
 ⟨some 8, .mov (.s 57), none⟩])
 (.block 2 (.loop (.seq (.seq (.reg false false [
 ⟨some 58, .mov (.s 8), none⟩,
 ⟨some 59, .bin .geq (.s 58) (.c (.int .i64 0)), none⟩])
 (.cond (.s 59)
 (.skip)
 (.exit 2)))
 (.seq (.block 3 (.seq (.reg false false [
 ⟨some 62, .mov (.s 7), none⟩,
 ⟨some 63, .mov (.s 8), none⟩,
 ⟨some 64, .idxS 1 (.s 62) (.s 63), none⟩,
 ⟨some 65, .load none (.s 64), none⟩,
 ⟨some 9, .mov (.s 65), none⟩])
 (.seq (.seq (.reg false false [
 ⟨some 66, .mov (.s 9), none⟩,
 ⟨some 67, .bin .eql (.s 66) (.c (.int .i64 4611686018427387904)), none⟩])
 (.cond (.s 67)
 (.reg false false [
 ⟨some 68, .mov (.s 8), none⟩,
 ⟨some 69, .build [(.int .i64 0)] [(0, 1, (.s 68))], none⟩,
 ⟨some 70, .mkI 135 (.s 69), none⟩,
 ⟨none, .panic (.s 70), none⟩])
 (.skip)))
 (.seq (.reg false false [
 ⟨some 71, .mov (.s 0), none⟩,
 ⟨some 72, .nilck (.s 71), none⟩,
 ⟨some 73, .fld 0 (.s 72), none⟩,
 ⟨some 74, .fld 1 (.s 73), none⟩,
 ⟨some 75, .load none (.s 74), none⟩,
 ⟨some 76, .mov (.s 8), none⟩,
 ⟨some 77, .idxS 5 (.s 75) (.s 76), none⟩,
 ⟨some 78, .load (some 5) (.s 77), none⟩,
 ⟨some 10, .alloc [(.int .i64 0), (.int .i64 0), (.int .i64 0), (.int .i64 0), (.slice none 0 0)], none⟩,
 ⟨none, .store 5 (.s 10) (.s 78), none⟩])
 (.seq (.reg false false [
 ⟨some 79, .fld 0 (.s 10), none⟩,
 ⟨some 80, .load none (.s 79), none⟩])
 (.block 4 (.seq (.reg false false [
 ⟨some 82, .bin .eql (.s 80) (.c (.int .i64 2)), none⟩,
 ⟨some 81, .mov (.s 82), none⟩])
 (.cond (.s 81)
 (.seq (.reg true false [
 ⟨some 83, .mov (.s 3), none⟩,
 ⟨some 84, .fld 1 (.s 10), none⟩,
 ⟨some 85, .load none (.s 84), none⟩,
 ⟨some 86, .idxS 1 (.s 83) (.s 85), none⟩,
 ⟨some 87, .load none (.s 86), none⟩,
 ⟨some 88, .fld 2 (.s 10), none⟩,
 ⟨some 89, .load none (.s 88), none⟩,
 ⟨some 90, .idxS 1 (.s 87) (.s 89), none⟩,
 ⟨some 11, .mov (.s 90), none⟩])
 (.seq (.reg false false [
 ⟨some 91, .mov (.s 11), none⟩,
 ⟨some 92, .mov (.s 11), none⟩,
 ⟨some 93, .nilck (.s 92), none⟩,
 ⟨some 94, .load none (.s 93), none⟩,
 ⟨some 95, .mov (.s 9), none⟩,
 ⟨some 96, .call 75 [(.s 94), (.s 95)], none⟩,
 ⟨some 97, .nilck (.s 91), none⟩,
 ⟨none, .store 1 (.s 97) (.s 96), none⟩])
 (.seq (.reg false false [
 ⟨some 98, .mov (.s 11), none⟩,
 ⟨some 99, .nilck (.s 98), none⟩,
 ⟨some 100, .load none (.s 99), none⟩,
 ⟨some 101, .bin .eql (.s 100) (.c (.int .i64 4611686018427387904)), none⟩])
 (.cond (.s 101)
 (.reg false false [
 ⟨some 102, .mov (.s 8), none⟩,
 ⟨some 103, .build [(.int .i64 0)] [(0, 1, (.s 102))], none⟩,
 ⟨some 104, .mkI 135 (.s 103), none⟩,
 ⟨none, .panic (.s 104), none⟩])
 (.skip)))))
 (.seq (.reg false false [
 ⟨some 106, .bin .eql (.s 80) (.c (.int .i64 3)), none⟩,
 ⟨some 105, .mov (.s 106), none⟩])
 (.cond (.s 105)
 (.seq (.reg false false [
 ⟨some 107, .fld 4 (.s 10), none⟩,
 ⟨some 108, .load none (.s 107), none⟩,
 ⟨some 109, .len (.s 108), none⟩,
 ⟨some 110, .mov (.c (.int .i64 0)), none⟩])
 (.block 5 (.loop (.seq (.reg false false [
 ⟨some 111, .bin .lss (.s 110) (.s 109), none⟩])
 (.seq (.cond (.s 111)
 (.skip)
 (.exit 5))
 (.seq (.block 6 (.seq (.reg false false [
 ⟨some 112, .idxS 1 (.s 108) (.s 110), none⟩,
 ⟨some 113, .load none (.s 112), none⟩,
 ⟨some 13, .mov (.s 113), none⟩])
 (.reg false false [
 ⟨some 114, .mov (.s 7), none⟩,
 ⟨some 115, .mov (.s 13), none⟩,
 ⟨some 116, .mov (.s 7), none⟩,
 ⟨some 117, .mov (.s 13), none⟩,
 ⟨some 118, .idxS 1 (.s 116) (.s 117), none⟩,
 ⟨some 119, .load none (.s 118), none⟩,
 ⟨some 120, .mov (.s 9), none⟩,
 ⟨some 121, .call 75 [(.s 119), (.s 120)], none⟩,
 ⟨some 122, .idxS 1 (.s 114) (.s 115), none⟩,
 ⟨none, .store 1 (.s 122) (.s 121), none⟩])))
 (.reg false false [
 ⟨some 123, .bin .add (.s 110) (.c (.int .i64 1)), none⟩,
 ⟨some 110, .mov (.s 123), none⟩])))))))
 (.seq (.reg false false [
 ⟨some 125, .bin .eql (.s 80) (.c (.int .i64 4)), none⟩,
 ⟨some 124, .mov (.s 125), none⟩])
 (.cond (.s 124)
 (.seq (.reg false false [
 ⟨some 126, .mov (.s 0), none⟩,
 ⟨some 127, .fld 4 (.s 10), none⟩,
 ⟨some 128, .load none (.s 127), none⟩,
 ⟨some 129, .call 76 [(.s 126), (.s 128)], none⟩,
 ⟨some 130, .len (.s 129), none⟩,
 ⟨some 131, .mov (.c (.int .i64 0)), none⟩])
 (.block 7 (.loop (.seq (.reg false false [
 ⟨some 132, .bin .lss (.s 131) (.s 130), none⟩])
 (.seq (.cond (.s 132)
 (.skip)
 (.exit 7))
 (.seq (.block 8 (.seq (.reg false false [
 ⟨some 133, .mov (.s 131), none⟩,
 ⟨some 134, .idxS 1 (.s 129) (.s 131), none⟩,
 ⟨some 135, .load none (.s 134), none⟩,
 ⟨some 14, .mov (.s 133), none⟩,
 ⟨some 15, .mov (.s 135), none⟩])
 (.reg true true [
 ⟨some 136, .mov (.s 7), none⟩,
 ⟨some 137, .fld 4 (.s 10), none⟩,
 ⟨some 138, .load none (.s 137), none⟩,
 ⟨some 139, .mov (.s 14), none⟩,
 ⟨some 140, .idxS 1 (.s 138) (.s 139), none⟩,
 ⟨some 141, .load none (.s 140), none⟩,
 ⟨some 142, .mov (.s 7), none⟩,
 ⟨some 143, .fld 4 (.s 10), none⟩,
 ⟨some 144, .load none (.s 143), none⟩,
 ⟨some 145, .mov (.s 14), none⟩,
 ⟨some 146, .idxS 1 (.s 144) (.s 145), none⟩,
 ⟨some 147, .load none (.s 146), none⟩,
 ⟨some 148, .idxS 1 (.s 142) (.s 147), none⟩,
 ⟨some 149, .load none (.s 148), none⟩,
 ⟨some 150, .mov (.s 9), none⟩,
 ⟨some 151, .mov (.s 15), none⟩,
 ⟨some 152, .call 77 [(.s 150), (.s 151)], none⟩,
 ⟨some 153, .call 75 [(.s 149), (.s 152)], none⟩,
 ⟨some 154, .idxS 1 (.s 136) (.s 141), none⟩,
 ⟨none, .store 1 (.s 154) (.s 153), none⟩])))
 (.reg false false [
 ⟨some 155, .bin .add (.s 131) (.c (.int .i64 1)), none⟩,
 ⟨some 131, .mov (.s 155), none⟩])))))))
 (.skip)))))))))))))
 (.reg false false [
 ⟨some 60, .mov (.s 8), none⟩,
 ⟨some 61, .bin .sub (.s 60) (.c (.int .i64 1)), none⟩,
 ⟨some 8, .mov (.s 61), none⟩]))))))
 (.seq (.reg false false [
 ⟨some 156, .mov (.s 3), none⟩,
 ⟨some 2, .mov (.s 156), none⟩])
 (.ret)))))))),
 [.tmp 2], false⟩
theorem fn55_ok : FnOk Try.prog 55 fn55 := by unfold FnOk; kernel_rfl
/-- haruspex/haruspexref15.without -/
def fn56 : Mx.Fn := ⟨27,
 .seq (.reg false false [
 ⟨some 4, .mov (.c (.slice none 0 0)), none⟩])
 (.seq (.reg false false [
 ⟨some 5, .mov (.c (.slice none 0 0)), none⟩])
 (.seq (.seq (.reg false false [
 ⟨some 6, .mov (.c (.int .i64 0)), none⟩])
 (.block 0 (.loop (.seq (.seq (.reg false false [
 ⟨some 7, .mov (.s 6), none⟩,
 ⟨some 8, .mov (.s 0), none⟩,
 ⟨some 9, .len (.s 8), none⟩,
 ⟨some 10, .bin .lss (.s 7) (.s 9), none⟩])
 (.cond (.s 10)
 (.skip)
 (.exit 0)))
 (.seq (.block 1 (.seq (.reg false false [
 ⟨some 13, .mov (.s 0), none⟩,
 ⟨some 14, .mov (.s 6), none⟩,
 ⟨some 15, .idxS 1 (.s 13) (.s 14), none⟩,
 ⟨some 16, .load none (.s 15), none⟩,
 ⟨some 17, .mov (.s 1), none⟩,
 ⟨some 18, .bin .neq (.s 16) (.s 17), none⟩])
 (.cond (.s 18)
 (.reg false false [
 ⟨some 19, .mov (.s 5), none⟩,
 ⟨some 20, .mov (.s 0), none⟩,
 ⟨some 21, .mov (.s 6), none⟩,
 ⟨some 22, .idxS 1 (.s 20) (.s 21), none⟩,
 ⟨some 23, .load none (.s 22), none⟩,
 ⟨some 24, .bsl 1 1 [(.int .i64 0)] [(0, (.s 23))], none⟩,
 ⟨some 25, .app 1 8 (.s 19) (.s 24), none⟩,
 ⟨some 5, .mov (.s 25), none⟩])
 (.skip))))
 (.reg false false [
 ⟨some 11, .mov (.s 6), none⟩,
 ⟨some 12, .bin .add (.s 11) (.c (.int .i64 1)), none⟩,
 ⟨some 6, .mov (.s 12), none⟩]))))))
 (.seq (.reg false false [
 ⟨some 26, .mov (.s 5), none⟩,
 ⟨some 4, .mov (.s 26), none⟩])
 (.ret)))),
 [.tmp 4], false⟩
theorem fn56_ok : FnOk Try.prog 56 fn56 := by unfold FnOk; kernel_rfl
/-- haruspex/haruspexref15.Sum -/
def fn57 : Mx.Fn := ⟨26,
 .seq (.reg false false [
 ⟨some 2, .mov (.c (.int .i64 0)), none⟩,
 ⟨some 3, .mov (.c (.bool false)), none⟩])
 (.seq (.reg false false [
 ⟨some 4, .mov (.c (.int .i64 0)), none⟩])
 (.seq (.seq (.reg false false [
 ⟨some 5, .mov (.c (.int .i64 0)), none⟩])
 (.block 0 (.loop (.seq (.seq (.reg false false [
 ⟨some 6, .mov (.s 5), none⟩,
 ⟨some 7, .mov (.s 0), none⟩,
 ⟨some 8, .len (.s 7), none⟩,
 ⟨some 9, .bin .lss (.s 6) (.s 8), none⟩])
 (.cond (.s 9)
 (.skip)
 (.exit 0)))
 (.seq (.block 1 (.seq (.seq (.reg false false [
 ⟨some 12, .mov (.s 0), none⟩,
 ⟨some 13, .mov (.s 5), none⟩,
 ⟨some 14, .idxS 1 (.s 12) (.s 13), none⟩,
 ⟨some 15, .load none (.s 14), none⟩,
 ⟨some 16, .mov (.s 4), none⟩,
 ⟨some 17, .bin .sub (.c (.int .i64 4611686018427387903)) (.s 16), none⟩,
 ⟨some 18, .bin .gtr (.s 15) (.s 17), none⟩])
 (.cond (.s 18)
 (.seq (.reg false false [
 ⟨some 2, .mov (.c (.int .i64 0)), none⟩,
 ⟨some 3, .mov (.c (.bool false)), none⟩])
 (.ret))
 (.skip)))
 (.reg false false [
 ⟨some 19, .mov (.s 4), none⟩,
 ⟨some 20, .mov (.s 0), none⟩,
 ⟨some 21, .mov (.s 5), none⟩,
 ⟨some 22, .idxS 1 (.s 20) (.s 21), none⟩,
 ⟨some 23, .load none (.s 22), none⟩,
 ⟨some 24, .bin .add (.s 19) (.s 23), none⟩,
 ⟨some 4, .mov (.s 24), none⟩])))
 (.reg false false [
 ⟨some 10, .mov (.s 5), none⟩,
 ⟨some 11, .bin .add (.s 10) (.c (.int .i64 1)), none⟩,
 ⟨some 5, .mov (.s 11), none⟩]))))))
 (.seq (.reg false false [
 ⟨some 25, .mov (.s 4), none⟩,
 ⟨some 2, .mov (.s 25), none⟩,
 ⟨some 3, .mov (.c (.bool true)), none⟩])
 (.ret)))),
 [.tmp 2, .tmp 3], true⟩
theorem fn57_ok : FnOk Try.prog 57 fn57 := by unfold FnOk; kernel_rfl
/-- haruspex/haruspexref02.Same -/
def fn58 : Mx.Fn := ⟨26,
 .seq (.reg false false [
 ⟨some 4, .mov (.c (.bool false)), none⟩])
 (.seq (.seq (.reg false false [
 ⟨some 6, .mov (.s 0), none⟩,
 ⟨some 7, .len (.s 6), none⟩,
 ⟨some 8, .mov (.s 1), none⟩,
 ⟨some 9, .len (.s 8), none⟩,
 ⟨some 10, .bin .neq (.s 7) (.s 9), none⟩])
 (.cond (.s 10)
 (.seq (.reg false false [
 ⟨some 4, .mov (.c (.bool false)), none⟩])
 (.ret))
 (.skip)))
 (.seq (.seq (.reg false false [
 ⟨some 5, .mov (.c (.int .i64 0)), none⟩])
 (.block 0 (.loop (.seq (.seq (.reg false false [
 ⟨some 11, .mov (.s 5), none⟩,
 ⟨some 12, .mov (.s 0), none⟩,
 ⟨some 13, .len (.s 12), none⟩,
 ⟨some 14, .bin .lss (.s 11) (.s 13), none⟩])
 (.cond (.s 14)
 (.skip)
 (.exit 0)))
 (.seq (.block 1 (.seq (.reg true false [
 ⟨some 17, .mov (.s 0), none⟩,
 ⟨some 18, .mov (.s 5), none⟩,
 ⟨some 19, .idxS 1 (.s 17) (.s 18), none⟩,
 ⟨some 20, .load none (.s 19), none⟩,
 ⟨some 21, .mov (.s 1), none⟩,
 ⟨some 22, .mov (.s 5), none⟩,
 ⟨some 23, .idxS 1 (.s 21) (.s 22), none⟩,
 ⟨some 24, .load none (.s 23), none⟩,
 ⟨some 25, .bin .neq (.s 20) (.s 24), none⟩])
 (.cond (.s 25)
 (.seq (.reg false false [
 ⟨some 4, .mov (.c (.bool false)), none⟩])
 (.ret))
 (.skip))))
 (.reg false false [
 ⟨some 15, .mov (.s 5), none⟩,
 ⟨some 16, .bin .add (.s 15) (.c (.int .i64 1)), none⟩,
 ⟨some 5, .mov (.s 16), none⟩]))))))
 (.seq (.reg false false [
 ⟨some 4, .mov (.c (.bool true)), none⟩])
 (.ret)))),
 [.tmp 4], true⟩
theorem fn58_ok : FnOk Try.prog 58 fn58 := by unfold FnOk; kernel_rfl
/-- haruspex/circuit.literals -/
def fn67 : Mx.Fn := ⟨55,
 .seq (.reg false false [
 ⟨some 2, .mov (.c (.slice none 0 0)), none⟩])
 (.seq (.reg false false [
 ⟨some 10, .mov (.s 0), none⟩,
 ⟨some 11, .len (.s 10), none⟩,
 ⟨some 12, .mk 1 24 [(.slice none 0 0)] (.s 11) (.s 11), none⟩,
 ⟨some 3, .alloc [(.slice none 0 0)], none⟩,
 ⟨none, .store 1 (.s 3) (.s 12), none⟩])
 (.seq (.seq (.reg false false [
 ⟨some 13, .mov (.s 0), none⟩,
 ⟨some 14, .len (.s 13), none⟩,
 ⟨some 15, .mov (.c (.int .i64 0)), none⟩])
 (.block 0 (.loop (.seq (.reg false false [
 ⟨some 16, .bin .lss (.s 15) (.s 14), none⟩])
 (.seq (.cond (.s 16)
 (.skip)
 (.exit 0))
 (.seq (.block 1 (.seq (.reg false false [
 ⟨some 17, .mov (.s 15), none⟩,
 ⟨some 18, .idxS 1 (.s 13) (.s 15), none⟩,
 ⟨some 19, .load none (.s 18), none⟩,
 ⟨some 4, .mov (.s 17), none⟩,
 ⟨some 5, .mov (.s 19), none⟩])
 (.reg true false [
 ⟨some 20, .load none (.s 3), none⟩,
 ⟨some 21, .mov (.s 4), none⟩,
 ⟨some 22, .mov (.s 5), none⟩,
 ⟨some 23, .mk 16 128 [(.int .u64 0), (.int .u64 0), (.int .u64 0), (.int .u64 0), (.int .u64 0), (.int .u64 0), (.int .u64 0), (.int .u64 0), (.int .u64 0), (.int .u64 0), (.int .u64 0), (.int .u64 0), (.int .u64 0), (.int .u64 0), (.int .u64 0), (.int .u64 0)] (.s 22) (.s 22), none⟩,
 ⟨some 24, .idxS 1 (.s 20) (.s 21), none⟩,
 ⟨none, .store 1 (.s 24) (.s 23), none⟩])))
 (.reg false false [
 ⟨some 25, .bin .add (.s 15) (.c (.int .i64 1)), none⟩,
 ⟨some 15, .mov (.s 25), none⟩])))))))
 (.seq (.seq (.reg false false [
 ⟨some 26, .mov (.s 0), none⟩,
 ⟨some 27, .call 85 [(.s 26)], none⟩])
 (.block 2 (.rfunc (.s 27) [28, 29] (.seq (.reg false false [
 ⟨some 6, .mov (.s 28), none⟩])
 (.reg false false [
 ⟨some 7, .mov (.s 29), none⟩]))
 (.block 3 (.seq (.reg false false [
 ⟨some 30, .mov (.s 7), none⟩,
 ⟨some 31, .len (.s 30), none⟩,
 ⟨some 32, .mov (.c (.int .i64 0)), none⟩])
 (.block 4 (.loop (.seq (.reg false false [
 ⟨some 33, .bin .lss (.s 32) (.s 31), none⟩])
 (.seq (.cond (.s 33)
 (.skip)
 (.exit 4))
 (.seq (.block 5 (.seq (.reg false false [
 ⟨some 34, .mov (.s 32), none⟩,
 ⟨some 35, .idxS 1 (.s 30) (.s 32), none⟩,
 ⟨some 36, .load none (.s 35), none⟩,
 ⟨some 8, .mov (.s 34), none⟩,
 ⟨some 9, .mov (.s 36), none⟩])
 (.reg true false [
 ⟨some 37, .load none (.s 3), none⟩,
 ⟨some 38, .mov (.s 8), none⟩,
 ⟨some 39, .idxS 1 (.s 37) (.s 38), none⟩,
 ⟨some 40, .load none (.s 39), none⟩,
 ⟨some 41, .mov (.s 9), none⟩,
 ⟨some 42, .mov (.s 6), none⟩,
 ⟨some 43, .bin .quo (.s 42) (.c (.int .i64 64)), none⟩,
 ⟨some 44, .idxS 16 (.s 40) (.s 41), none⟩,
 ⟨some 45, .idxA 1 16 (.s 44) (.s 43), none⟩,
 ⟨some 46, .load none (.s 45), none⟩,
 ⟨some 47, .mov (.s 6), none⟩,
 ⟨some 48, .bin .rem (.s 47) (.c (.int .i64 64)), none⟩,
 ⟨some 49, .bin .shl (.c (.int .u64 1)) (.s 48), none⟩,
 ⟨some 50, .bin .or (.s 46) (.s 49), none⟩,
 ⟨some 51, .idxS 16 (.s 40) (.s 41), none⟩,
 ⟨some 52, .idxA 1 16 (.s 51) (.s 43), none⟩,
 ⟨none, .store 1 (.s 52) (.s 50), none⟩])))
 (.reg false false [
 ⟨some 53, .bin .add (.s 32) (.c (.int .i64 1)), none⟩,
 ⟨some 32, .mov (.s 53), none⟩])))))))))))
 (.seq (.reg false false [
 ⟨some 54, .load none (.s 3), none⟩,
 ⟨some 2, .mov (.s 54), none⟩])
 (.ret))))),
 [.tmp 2], false⟩
theorem fn67_ok : FnOk Try.prog 67 fn67 := by unfold FnOk; kernel_rfl
/-- haruspex/haruspexref03.Product -/
def fn69 : Mx.Fn := ⟨24,
 .seq (.reg false false [
 ⟨some 4, .mov (.c (.int .i64 0)), none⟩,
 ⟨some 5, .mov (.c (.bool false)), none⟩])
 (.seq (.reg false false [
 ⟨some 9, .mov (.s 0), none⟩,
 ⟨some 10, .conv .u64 (.s 9), none⟩,
 ⟨some 11, .mov (.s 1), none⟩,
 ⟨some 12, .conv .u64 (.s 11), none⟩,
 ⟨some 13, .call 79 [(.s 10), (.s 12)], none⟩,
 ⟨some 8, .mov (.s 13), none⟩,
 ⟨some 14, .ext (.s 8) 0, none⟩,
 ⟨some 15, .ext (.s 8) 1, none⟩,
 ⟨some 6, .mov (.s 14), none⟩,
 ⟨some 7, .mov (.s 15), none⟩])
 (.seq (.seq (.reg false false [
 ⟨some 16, .mov (.s 6), none⟩,
 ⟨some 17, .bin .gtr (.s 16) (.c (.int .u64 0)), none⟩,
 ⟨some 18, .mov (.s 17), none⟩,
 ⟨some 19, .mov (.s 7), some (18, false)⟩,
 ⟨some 20, .bin .gtr (.s 19) (.c (.int .u64 4611686018427387903)), some (18, false)⟩,
 ⟨some 21, .pick (.s 18) (.c (.bool true)) (.s 20), none⟩])
 (.cond (.s 21)
 (.seq (.reg false false [
 ⟨some 4, .mov (.c (.int .i64 0)), none⟩,
 ⟨some 5, .mov (.c (.bool false)), none⟩])
 (.ret))
 (.skip)))
 (.seq (.reg false false [
 ⟨some 22, .mov (.s 7), none⟩,
 ⟨some 23, .conv .i64 (.s 22), none⟩,
 ⟨some 4, .mov (.s 23), none⟩,
 ⟨some 5, .mov (.c (.bool true)), none⟩])
 (.ret)))),
 [.tmp 4, .tmp 5], true⟩
theorem fn69_ok : FnOk Try.prog 69 fn69 := by unfold FnOk; kernel_rfl
/-- haruspex/circuit.try$1 -/
def fn70 : Mx.Fn := ⟨3,
 .seq (.reg false false [
 ⟨some 1, .recover, none⟩,
 ⟨some 2, .eqi true (.s 1), none⟩])
 (.cond (.s 2)
 (.reg false false [
 ⟨none, .store 1 (.s 0) (.c (.int .i64 6)), none⟩])
 (.skip)),
 [], false⟩
theorem fn70_ok : FnOk Try.prog 70 fn70 := by unfold FnOk; kernel_rfl
/-- (*haruspex/circuit.run).number -/
def fn71 : Mx.Fn := ⟨7,
 .seq (.reg false false [
 ⟨some 3, .box (.s 1), none⟩,
 ⟨some 4, .mov (.c (.int .i64 0)), none⟩])
 (.seq (.reg false false [
 ⟨some 5, .fld 3 (.s 3), none⟩,
 ⟨some 6, .load none (.s 5), none⟩,
 ⟨some 4, .mov (.s 6), none⟩])
 (.ret)),
 [.tmp 4], false⟩
theorem fn71_ok : FnOk Try.prog 71 fn71 := by unfold FnOk; kernel_rfl
/-- (*haruspex/circuit.run).is -/
def fn72 : Mx.Fn := ⟨22,
 .seq (.reg false false [
 ⟨some 3, .box (.s 1), none⟩,
 ⟨some 4, .mov (.c (.int .i64 0)), none⟩])
 (.seq (.seq (.reg true false [
 ⟨some 6, .mov (.s 0), none⟩,
 ⟨some 7, .nilck (.s 6), none⟩,
 ⟨some 8, .fld 2 (.s 7), none⟩,
 ⟨some 9, .load none (.s 8), none⟩,
 ⟨some 10, .fld 1 (.s 3), none⟩,
 ⟨some 11, .load none (.s 10), none⟩,
 ⟨some 12, .idxS 1 (.s 9) (.s 11), none⟩,
 ⟨some 13, .load none (.s 12), none⟩,
 ⟨some 5, .mov (.s 13), none⟩])
 (.seq (.reg false false [
 ⟨some 14, .mov (.s 5), none⟩,
 ⟨some 15, .bin .geq (.s 14) (.c (.int .i64 0)), none⟩,
 ⟨some 16, .mov (.s 15), none⟩,
 ⟨some 17, .mov (.s 5), some (16, true)⟩,
 ⟨some 18, .fld 2 (.s 3), some (16, true)⟩,
 ⟨some 19, .load none (.s 18), some (16, true)⟩,
 ⟨some 20, .bin .neq (.s 17) (.s 19), some (16, true)⟩,
 ⟨some 21, .pick (.s 16) (.s 20) (.c (.bool false)), none⟩])
 (.cond (.s 21)
 (.seq (.reg false false [
 ⟨some 4, .mov (.c (.int .i64 0)), none⟩])
 (.ret))
 (.skip))))
 (.seq (.reg false false [
 ⟨some 4, .mov (.c (.int .i64 1)), none⟩])
 (.ret))),
 [.tmp 4], false⟩
theorem fn72_ok : FnOk Try.prog 72 fn72 := by unfold FnOk; kernel_rfl
/-- (*haruspex/circuit.run).sum -/
def fn73 : Mx.Fn := ⟨26,
 .seq (.reg false false [
 ⟨some 3, .box (.s 1), none⟩,
 ⟨some 4, .mov (.c (.int .i64 0)), none⟩])
 (.seq (.reg false false [
 ⟨some 5, .mov (.c (.int .i64 0)), none⟩])
 (.seq (.seq (.reg false false [
 ⟨some 8, .fld 4 (.s 3), none⟩,
 ⟨some 9, .load none (.s 8), none⟩,
 ⟨some 10, .len (.s 9), none⟩,
 ⟨some 11, .mov (.c (.int .i64 0)), none⟩])
 (.block 0 (.loop (.seq (.reg false false [
 ⟨some 12, .bin .lss (.s 11) (.s 10), none⟩])
 (.seq (.cond (.s 12)
 (.skip)
 (.exit 0))
 (.seq (.block 1 (.seq (.reg false false [
 ⟨some 13, .idxS 1 (.s 9) (.s 11), none⟩,
 ⟨some 14, .load none (.s 13), none⟩,
 ⟨some 7, .mov (.s 14), none⟩])
 (.reg false false [
 ⟨some 15, .mov (.s 5), none⟩,
 ⟨some 16, .mov (.s 0), none⟩,
 ⟨some 17, .nilck (.s 16), none⟩,
 ⟨some 18, .fld 3 (.s 17), none⟩,
 ⟨some 19, .load none (.s 18), none⟩,
 ⟨some 20, .mov (.s 7), none⟩,
 ⟨some 21, .idxS 1 (.s 19) (.s 20), none⟩,
 ⟨some 22, .load none (.s 21), none⟩,
 ⟨some 23, .call 75 [(.s 15), (.s 22)], none⟩,
 ⟨some 5, .mov (.s 23), none⟩])))
 (.reg false false [
 ⟨some 24, .bin .add (.s 11) (.c (.int .i64 1)), none⟩,
 ⟨some 11, .mov (.s 24), none⟩])))))))
 (.seq (.reg false false [
 ⟨some 25, .mov (.s 5), none⟩,
 ⟨some 4, .mov (.s 25), none⟩])
 (.ret)))),
 [.tmp 4], false⟩
theorem fn73_ok : FnOk Try.prog 73 fn73 := by unfold FnOk; kernel_rfl
/-- (*haruspex/circuit.run).product -/
def fn74 : Mx.Fn := ⟨26,
 .seq (.reg false false [
 ⟨some 3, .box (.s 1), none⟩,
 ⟨some 4, .mov (.c (.int .i64 0)), none⟩])
 (.seq (.reg false false [
 ⟨some 5, .mov (.c (.int .i64 1)), none⟩])
 (.seq (.seq (.reg false false [
 ⟨some 8, .fld 4 (.s 3), none⟩,
 ⟨some 9, .load none (.s 8), none⟩,
 ⟨some 10, .len (.s 9), none⟩,
 ⟨some 11, .mov (.c (.int .i64 0)), none⟩])
 (.block 0 (.loop (.seq (.reg false false [
 ⟨some 12, .bin .lss (.s 11) (.s 10), none⟩])
 (.seq (.cond (.s 12)
 (.skip)
 (.exit 0))
 (.seq (.block 1 (.seq (.reg false false [
 ⟨some 13, .idxS 1 (.s 9) (.s 11), none⟩,
 ⟨some 14, .load none (.s 13), none⟩,
 ⟨some 7, .mov (.s 14), none⟩])
 (.reg false false [
 ⟨some 15, .mov (.s 5), none⟩,
 ⟨some 16, .mov (.s 0), none⟩,
 ⟨some 17, .nilck (.s 16), none⟩,
 ⟨some 18, .fld 3 (.s 17), none⟩,
 ⟨some 19, .load none (.s 18), none⟩,
 ⟨some 20, .mov (.s 7), none⟩,
 ⟨some 21, .idxS 1 (.s 19) (.s 20), none⟩,
 ⟨some 22, .load none (.s 21), none⟩,
 ⟨some 23, .call 77 [(.s 15), (.s 22)], none⟩,
 ⟨some 5, .mov (.s 23), none⟩])))
 (.reg false false [
 ⟨some 24, .bin .add (.s 11) (.c (.int .i64 1)), none⟩,
 ⟨some 11, .mov (.s 24), none⟩])))))))
 (.seq (.reg false false [
 ⟨some 25, .mov (.s 5), none⟩,
 ⟨some 4, .mov (.s 25), none⟩])
 (.ret)))),
 [.tmp 4], false⟩
theorem fn74_ok : FnOk Try.prog 74 fn74 := by unfold FnOk; kernel_rfl
/-- haruspex/circuit.plus -/
def fn75 : Mx.Fn := ⟨11,
 .seq (.reg false false [
 ⟨some 4, .mov (.c (.int .i64 0)), none⟩])
 (.seq (.reg false false [
 ⟨some 5, .mov (.s 0), none⟩,
 ⟨some 6, .mov (.s 1), none⟩,
 ⟨some 7, .mov (.s 0), none⟩,
 ⟨some 8, .bin .sub (.c (.int .i64 4611686018427387904)) (.s 7), none⟩,
 ⟨some 9, .mm false [(.s 6), (.s 8)], none⟩,
 ⟨some 10, .bin .add (.s 5) (.s 9), none⟩,
 ⟨some 4, .mov (.s 10), none⟩])
 (.ret)),
 [.tmp 4], true⟩
theorem fn75_ok : FnOk Try.prog 75 fn75 := by unfold FnOk; kernel_rfl
/-- (*haruspex/circuit.run).others -/
def fn76 : Mx.Fn := ⟨64,
 .seq (.reg false false [
 ⟨some 4, .mov (.c (.slice none 0 0)), none⟩])
 (.seq (.reg false false [
 ⟨some 11, .mov (.s 1), none⟩,
 ⟨some 12, .len (.s 11), none⟩,
 ⟨some 13, .mk 1 8 [(.int .i64 0)] (.s 12) (.s 12), none⟩,
 ⟨some 5, .mov (.s 13), none⟩])
 (.seq (.reg false false [
 ⟨some 6, .mov (.c (.int .i64 1)), none⟩,
 ⟨some 7, .mov (.c (.int .i64 1)), none⟩])
 (.seq (.seq (.reg false false [
 ⟨some 14, .mov (.s 1), none⟩,
 ⟨some 15, .len (.s 14), none⟩,
 ⟨some 16, .mov (.c (.int .i64 0)), none⟩])
 (.block 0 (.loop (.seq (.reg false false [
 ⟨some 17, .bin .lss (.s 16) (.s 15), none⟩])
 (.seq (.cond (.s 17)
 (.skip)
 (.exit 0))
 (.seq (.block 1 (.seq (.reg false false [
 ⟨some 18, .mov (.s 16), none⟩,
 ⟨some 19, .idxS 1 (.s 14) (.s 16), none⟩,
 ⟨some 20, .load none (.s 19), none⟩,
 ⟨some 8, .mov (.s 18), none⟩,
 ⟨some 9, .mov (.s 20), none⟩])
 (.seq (.reg false false [
 ⟨some 21, .mov (.s 5), none⟩,
 ⟨some 22, .mov (.s 8), none⟩,
 ⟨some 23, .mov (.s 6), none⟩,
 ⟨some 24, .idxS 1 (.s 21) (.s 22), none⟩,
 ⟨none, .store 1 (.s 24) (.s 23), none⟩])
 (.reg false false [
 ⟨some 25, .mov (.s 6), none⟩,
 ⟨some 26, .mov (.s 0), none⟩,
 ⟨some 27, .nilck (.s 26), none⟩,
 ⟨some 28, .fld 3 (.s 27), none⟩,
 ⟨some 29, .load none (.s 28), none⟩,
 ⟨some 30, .mov (.s 9), none⟩,
 ⟨some 31, .idxS 1 (.s 29) (.s 30), none⟩,
 ⟨some 32, .load none (.s 31), none⟩,
 ⟨some 33, .call 77 [(.s 25), (.s 32)], none⟩,
 ⟨some 6, .mov (.s 33), none⟩]))))
 (.reg false false [
 ⟨some 34, .bin .add (.s 16) (.c (.int .i64 1)), none⟩,
 ⟨some 16, .mov (.s 34), none⟩])))))))
 (.seq (.seq (.reg false false [
 ⟨some 35, .mov (.s 1), none⟩,
 ⟨some 36, .len (.s 35), none⟩,
 ⟨some 37, .bin .sub (.s 36) (.c (.int .i64 1)), none⟩,
 ⟨some 10, .mov (.s 37), none⟩])
 (.block 2 (.loop (.seq (.seq (.reg false false [
 ⟨some 38, .mov (.s 10), none⟩,
 ⟨some 39, .bin .geq (.s 38) (.c (.int .i64 0)), none⟩])
 (.cond (.s 39)
 (.skip)
 (.exit 2)))
 (.seq (.block 3 (.seq (.reg false false [
 ⟨some 42, .mov (.s 5), none⟩,
 ⟨some 43, .mov (.s 10), none⟩,
 ⟨some 44, .mov (.s 5), none⟩,
 ⟨some 45, .mov (.s 10), none⟩,
 ⟨some 46, .idxS 1 (.s 44) (.s 45), none⟩,
 ⟨some 47, .load none (.s 46), none⟩,
 ⟨some 48, .mov (.s 7), none⟩,
 ⟨some 49, .call 77 [(.s 47), (.s 48)], none⟩,
 ⟨some 50, .idxS 1 (.s 42) (.s 43), none⟩,
 ⟨none, .store 1 (.s 50) (.s 49), none⟩])
 (.reg true false [
 ⟨some 51, .mov (.s 7), none⟩,
 ⟨some 52, .mov (.s 0), none⟩,
 ⟨some 53, .nilck (.s 52), none⟩,
 ⟨some 54, .fld 3 (.s 53), none⟩,
 ⟨some 55, .load none (.s 54), none⟩,
 ⟨some 56, .mov (.s 1), none⟩,
 ⟨some 57, .mov (.s 10), none⟩,
 ⟨some 58, .idxS 1 (.s 56) (.s 57), none⟩,
 ⟨some 59, .load none (.s 58), none⟩,
 ⟨some 60, .idxS 1 (.s 55) (.s 59), none⟩,
 ⟨some 61, .load none (.s 60), none⟩,
 ⟨some 62, .call 77 [(.s 51), (.s 61)], none⟩,
 ⟨some 7, .mov (.s 62), none⟩])))
 (.reg false false [
 ⟨some 40, .mov (.s 10), none⟩,
 ⟨some 41, .bin .sub (.s 40) (.c (.int .i64 1)), none⟩,
 ⟨some 10, .mov (.s 41), none⟩]))))))
 (.seq (.reg false false [
 ⟨some 63, .mov (.s 5), none⟩,
 ⟨some 4, .mov (.s 63), none⟩])
 (.ret)))))),
 [.tmp 4], false⟩
theorem fn76_ok : FnOk Try.prog 76 fn76 := by unfold FnOk; kernel_rfl
/-- haruspex/circuit.times -/
def fn77 : Mx.Fn := ⟨23,
 .seq (.reg false false [
 ⟨some 4, .mov (.c (.int .i64 0)), none⟩])
 (.seq (.reg false false [
 ⟨some 8, .mov (.s 0), none⟩,
 ⟨some 9, .conv .u64 (.s 8), none⟩,
 ⟨some 10, .mov (.s 1), none⟩,
 ⟨some 11, .conv .u64 (.s 10), none⟩,
 ⟨some 12, .call 79 [(.s 9), (.s 11)], none⟩,
 ⟨some 7, .mov (.s 12), none⟩,
 ⟨some 13, .ext (.s 7) 0, none⟩,
 ⟨some 14, .ext (.s 7) 1, none⟩,
 ⟨some 5, .mov (.s 13), none⟩,
 ⟨some 6, .mov (.s 14), none⟩])
 (.seq (.seq (.reg false false [
 ⟨some 15, .mov (.s 5), none⟩,
 ⟨some 16, .bin .gtr (.s 15) (.c (.int .u64 0)), none⟩,
 ⟨some 17, .mov (.s 16), none⟩,
 ⟨some 18, .mov (.s 6), some (17, false)⟩,
 ⟨some 19, .bin .gtr (.s 18) (.c (.int .u64 4611686018427387903)), some (17, false)⟩,
 ⟨some 20, .pick (.s 17) (.c (.bool true)) (.s 19), none⟩])
 (.cond (.s 20)
 (.seq (.reg false false [
 ⟨some 4, .mov (.c (.int .i64 4611686018427387904)), none⟩])
 (.ret))
 (.skip)))
 (.seq (.reg false false [
 ⟨some 21, .mov (.s 6), none⟩,
 ⟨some 22, .conv .i64 (.s 21), none⟩,
 ⟨some 4, .mov (.s 22), none⟩])
 (.ret)))),
 [.tmp 4], true⟩
theorem fn77_ok : FnOk Try.prog 77 fn77 := by unfold FnOk; kernel_rfl
/-- math/bits.Mul64 -/
def fn79 : Mx.Fn := ⟨51,
 .seq (.reg false false [
 ⟨some 4, .mov (.c (.int .u64 0)), none⟩,
 ⟨some 5, .mov (.c (.int .u64 0)), none⟩])
 (.seq (.reg false false [
 ⟨some 14, .mov (.s 0), none⟩,
 ⟨some 15, .bin .and (.s 14) (.c (.int .u64 4294967295)), none⟩,
 ⟨some 6, .mov (.s 15), none⟩])
 (.seq (.reg false false [
 ⟨some 16, .mov (.s 0), none⟩,
 ⟨some 17, .bin .shr (.s 16) (.c (.int .u64 32)), none⟩,
 ⟨some 7, .mov (.s 17), none⟩])
 (.seq (.reg false false [
 ⟨some 18, .mov (.s 1), none⟩,
 ⟨some 19, .bin .and (.s 18) (.c (.int .u64 4294967295)), none⟩,
 ⟨some 8, .mov (.s 19), none⟩])
 (.seq (.reg false false [
 ⟨some 20, .mov (.s 1), none⟩,
 ⟨some 21, .bin .shr (.s 20) (.c (.int .u64 32)), none⟩,
 ⟨some 9, .mov (.s 21), none⟩])
 (.seq (.reg false false [
 ⟨some 22, .mov (.s 6), none⟩,
 ⟨some 23, .mov (.s 8), none⟩,
 ⟨some 24, .bin .mul (.s 22) (.s 23), none⟩,
 ⟨some 10, .mov (.s 24), none⟩])
 (.seq (.reg false false [
 ⟨some 25, .mov (.s 7), none⟩,
 ⟨some 26, .mov (.s 8), none⟩,
 ⟨some 27, .bin .mul (.s 25) (.s 26), none⟩,
 ⟨some 28, .mov (.s 10), none⟩,
 ⟨some 29, .bin .shr (.s 28) (.c (.int .u64 32)), none⟩,
 ⟨some 30, .bin .add (.s 27) (.s 29), none⟩,
 ⟨some 11, .mov (.s 30), none⟩])
 (.seq (.reg false false [
 ⟨some 31, .mov (.s 11), none⟩,
 ⟨some 32, .bin .and (.s 31) (.c (.int .u64 4294967295)), none⟩,
 ⟨some 12, .mov (.s 32), none⟩])
 (.seq (.reg false false [
 ⟨some 33, .mov (.s 11), none⟩,
 ⟨some 34, .bin .shr (.s 33) (.c (.int .u64 32)), none⟩,
 ⟨some 13, .mov (.s 34), none⟩])
 (.seq (.reg false false [
 ⟨some 35, .mov (.s 12), none⟩,
 ⟨some 36, .mov (.s 6), none⟩,
 ⟨some 37, .mov (.s 9), none⟩,
 ⟨some 38, .bin .mul (.s 36) (.s 37), none⟩,
 ⟨some 39, .bin .add (.s 35) (.s 38), none⟩,
 ⟨some 12, .mov (.s 39), none⟩])
 (.seq (.reg false false [
 ⟨some 40, .mov (.s 7), none⟩,
 ⟨some 41, .mov (.s 9), none⟩,
 ⟨some 42, .bin .mul (.s 40) (.s 41), none⟩,
 ⟨some 43, .mov (.s 13), none⟩,
 ⟨some 44, .bin .add (.s 42) (.s 43), none⟩,
 ⟨some 45, .mov (.s 12), none⟩,
 ⟨some 46, .bin .shr (.s 45) (.c (.int .u64 32)), none⟩,
 ⟨some 47, .bin .add (.s 44) (.s 46), none⟩,
 ⟨some 4, .mov (.s 47), none⟩])
 (.seq (.reg false false [
 ⟨some 48, .mov (.s 0), none⟩,
 ⟨some 49, .mov (.s 1), none⟩,
 ⟨some 50, .bin .mul (.s 48) (.s 49), none⟩,
 ⟨some 5, .mov (.s 50), none⟩])
 (.ret)))))))))))),
 [.tmp 4, .tmp 5], true⟩
theorem fn79_ok : FnOk Try.prog 79 fn79 := by unfold FnOk; kernel_rfl
/-- haruspex/weigh.Combinations -/
def fn85 : Mx.Fn := ⟨4,
 .seq (.reg false false [
 ⟨some 1, .box (.s 0), none⟩,
 ⟨some 2, .mov (.c .nilFunc), none⟩])
 (.seq (.reg false false [
 ⟨some 3, .clo 91 [] [(.s 1)], none⟩,
 ⟨some 2, .mov (.s 3), none⟩])
 (.ret)),
 [.tmp 2], false⟩
theorem fn85_ok : FnOk Try.prog 85 fn85 := by unfold FnOk; kernel_rfl
/-- haruspex/weigh.Combinations$1 -/
def fn91 : Mx.Fn := ⟨45,
 .seq (.reg false false [
 ⟨some 6, .load none (.s 1), none⟩,
 ⟨some 7, .len (.s 6), none⟩,
 ⟨some 8, .mk 1 8 [(.int .i64 0)] (.s 7) (.s 7), none⟩,
 ⟨some 3, .mov (.s 8), none⟩])
 (.seq (.reg false false [
 ⟨some 4, .mov (.c (.int .i64 0)), none⟩])
 (.block 0 (.loop (.seq (.seq (.reg false false [
 ⟨some 9, .mov (.s 0), none⟩,
 ⟨some 10, .mov (.s 4), none⟩,
 ⟨some 11, .mov (.s 3), none⟩,
 ⟨some 12, .callv (.s 9) [(.s 10), (.s 11)], none⟩])
 (.cond (.s 12)
 (.skip)
 (.exit 0)))
 (.seq (.block 1 (.seq (.reg false false [
 ⟨some 15, .load none (.s 1), none⟩,
 ⟨some 16, .len (.s 15), none⟩,
 ⟨some 17, .bin .sub (.s 16) (.c (.int .i64 1)), none⟩,
 ⟨some 5, .mov (.s 17), none⟩])
 (.seq (.block 2 (.loop (.seq (.seq (.reg true false [
 ⟨some 18, .mov (.s 5), none⟩,
 ⟨some 19, .bin .geq (.s 18) (.c (.int .i64 0)), none⟩,
 ⟨some 20, .mov (.s 19), none⟩,
 ⟨some 21, .mov (.s 3), some (20, true)⟩,
 ⟨some 22, .mov (.s 5), some (20, true)⟩,
 ⟨some 23, .idxS 1 (.s 21) (.s 22), some (20, true)⟩,
 ⟨some 24, .load none (.s 23), some (20, true)⟩,
 ⟨some 25, .load none (.s 1), some (20, true)⟩,
 ⟨some 26, .mov (.s 5), some (20, true)⟩,
 ⟨some 27, .idxS 1 (.s 25) (.s 26), some (20, true)⟩,
 ⟨some 28, .load none (.s 27), some (20, true)⟩,
 ⟨some 29, .bin .sub (.s 28) (.c (.int .i64 1)), some (20, true)⟩,
 ⟨some 30, .bin .eql (.s 24) (.s 29), some (20, true)⟩,
 ⟨some 31, .pick (.s 20) (.s 30) (.c (.bool false)), none⟩])
 (.cond (.s 31)
 (.skip)
 (.exit 2)))
 (.block 3 (.seq (.reg false false [
 ⟨some 32, .mov (.s 3), none⟩,
 ⟨some 33, .mov (.s 5), none⟩,
 ⟨some 34, .idxS 1 (.s 32) (.s 33), none⟩,
 ⟨none, .store 1 (.s 34) (.c (.int .i64 0)), none⟩])
 (.reg false false [
 ⟨some 35, .mov (.s 5), none⟩,
 ⟨some 36, .bin .sub (.s 35) (.c (.int .i64 1)), none⟩,
 ⟨some 5, .mov (.s 36), none⟩]))))))
 (.seq (.seq (.reg false false [
 ⟨some 37, .mov (.s 5), none⟩,
 ⟨some 38, .bin .lss (.s 37) (.c (.int .i64 0)), none⟩])
 (.cond (.s 38)
 (.ret)
 (.skip)))
 (.reg false false [
 ⟨some 39, .mov (.s 3), none⟩,
 ⟨some 40, .mov (.s 5), none⟩,
 ⟨some 41, .idxS 1 (.s 39) (.s 40), none⟩,
 ⟨some 42, .load none (.s 41), none⟩,
 ⟨some 43, .bin .add (.s 42) (.c (.int .i64 1)), none⟩,
 ⟨some 44, .idxS 1 (.s 39) (.s 40), none⟩,
 ⟨none, .store 1 (.s 44) (.s 43), none⟩])))))
 (.reg false false [
 ⟨some 13, .mov (.s 4), none⟩,
 ⟨some 14, .bin .add (.s 13) (.c (.int .i64 1)), none⟩,
 ⟨some 4, .mov (.s 14), none⟩])))))),
 [], false⟩
theorem fn91_ok : FnOk Try.prog 91 fn91 := by unfold FnOk; kernel_rfl
def tab : List (Nat × Mx.Fn) := [(4, fn4), (5, fn5), (10, fn10), (11, fn11), (12, fn12), (13, fn13), (14, fn14), (15, fn15), (19, fn19), (20, fn20), (21, fn21), (22, fn22), (23, fn23), (24, fn24), (25, fn25), (27, fn27), (28, fn28), (29, fn29), (30, fn30), (31, fn31), (32, fn32), (34, fn34), (38, fn38), (39, fn39), (40, fn40), (41, fn41), (42, fn42), (43, fn43), (44, fn44), (45, fn45), (47, fn47), (48, fn48), (49, fn49), (50, fn50), (51, fn51), (52, fn52), (53, fn53), (54, fn54), (55, fn55), (56, fn56), (57, fn57), (58, fn58), (67, fn67), (69, fn69), (70, fn70), (71, fn71), (72, fn72), (73, fn73), (74, fn74), (75, fn75), (76, fn76), (77, fn77), (79, fn79), (85, fn85), (91, fn91)]
theorem tab_ok : ∀ x ∈ tab, FnOk Try.prog x.1 x.2 := by
  intro x hx
  simp only [tab, List.mem_cons, List.not_mem_nil, or_false] at hx
  rcases hx with rfl | rfl | rfl | rfl | rfl | rfl | rfl | rfl | rfl | rfl | rfl | rfl | rfl | rfl | rfl | rfl | rfl | rfl | rfl | rfl | rfl | rfl | rfl | rfl | rfl | rfl | rfl | rfl | rfl | rfl | rfl | rfl | rfl | rfl | rfl | rfl | rfl | rfl | rfl | rfl | rfl | rfl | rfl | rfl | rfl | rfl | rfl | rfl | rfl | rfl | rfl | rfl | rfl | rfl | rfl
  · exact fn4_ok
  · exact fn5_ok
  · exact fn10_ok
  · exact fn11_ok
  · exact fn12_ok
  · exact fn13_ok
  · exact fn14_ok
  · exact fn15_ok
  · exact fn19_ok
  · exact fn20_ok
  · exact fn21_ok
  · exact fn22_ok
  · exact fn23_ok
  · exact fn24_ok
  · exact fn25_ok
  · exact fn27_ok
  · exact fn28_ok
  · exact fn29_ok
  · exact fn30_ok
  · exact fn31_ok
  · exact fn32_ok
  · exact fn34_ok
  · exact fn38_ok
  · exact fn39_ok
  · exact fn40_ok
  · exact fn41_ok
  · exact fn42_ok
  · exact fn43_ok
  · exact fn44_ok
  · exact fn45_ok
  · exact fn47_ok
  · exact fn48_ok
  · exact fn49_ok
  · exact fn50_ok
  · exact fn51_ok
  · exact fn52_ok
  · exact fn53_ok
  · exact fn54_ok
  · exact fn55_ok
  · exact fn56_ok
  · exact fn57_ok
  · exact fn58_ok
  · exact fn67_ok
  · exact fn69_ok
  · exact fn70_ok
  · exact fn71_ok
  · exact fn72_ok
  · exact fn73_ok
  · exact fn74_ok
  · exact fn75_ok
  · exact fn76_ok
  · exact fn77_ok
  · exact fn79_ok
  · exact fn85_ok
  · exact fn91_ok
end Go.Proofs.Ytbjfkbkmoeibdaa.C
