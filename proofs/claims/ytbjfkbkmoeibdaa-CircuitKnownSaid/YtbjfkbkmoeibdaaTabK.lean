/-
  The plain form of the functions that one law reaches, printed by a program of this repo (wip/mx) and held against the loaded program by the kernel. Conditions: none.
-/
import Derived.Test.YtbjfkbkmoeibdaaMx16
import Derived.Test.YtbjfkbkmoeibdaaRows
namespace Go.Proofs.Ytbjfkbkmoeibdaa
open Go Go.Mx
set_option linter.unusedSimpArgs false
set_option linter.unusedVariables false
set_option maxRecDepth 100000
-- haruspex/haruspexlaw15.CircuitKnown: 8; [8, 10, 13, 14, 15, 20, 22, 24, 28, 29, 30, 31, 32, 33, 34, 42, 43, 44, 45, 49, 50, 51, 54, 55, 58, 59, 67, 70, 71, 72, 73, 74, 75, 76, 77, 78, 79, 85, 91]
/-- haruspex/haruspexlaw15.CircuitKnown -/
def fn8 : Mx.Fn := ⟨326,
  .seq (.reg false false [
     ⟨some 0, .mov (.c (.bool false)), none⟩])
  (.seq (.seq (.reg false false [
      ⟨some 34, .call 10 [], none⟩,
      ⟨some 35, .un .not (.s 34), none⟩])
   (.cond (.s 35)
     (.seq (.reg false false [
         ⟨some 0, .mov (.c (.bool false)), none⟩])
      (.ret))
     (.skip)))
  (.seq (.reg false false [
     ⟨some 36, .call 28 [], none⟩,
     ⟨some 1, .alloc [(.slice none 0 0), (.slice none 0 0)], none⟩,
     ⟨none, .store 2 (.s 1) (.s 36), none⟩])
  (.seq (.reg false false [
     ⟨some 38, .load (some 2) (.s 1), none⟩,
     ⟨some 39, .bsl 1 1 [(.int .i64 0)] [(0, (.c (.int .i64 0)))], none⟩,
     ⟨some 40, .call 22 [(.s 38), (.s 39)], none⟩,
     ⟨some 37, .mov (.s 40), none⟩,
     ⟨some 41, .ext (.s 37) 0, none⟩,
     ⟨some 42, .ext (.s 37) 1, none⟩,
     ⟨some 2, .mov (.s 41), none⟩,
     ⟨some 3, .mov (.s 42), none⟩])
  (.seq (.reg false false [
     ⟨some 44, .load (some 2) (.s 1), none⟩,
     ⟨some 45, .bsl 1 1 [(.int .i64 0)] [(0, (.c (.int .i64 2)))], none⟩,
     ⟨some 46, .call 20 [(.s 44), (.s 45)], none⟩,
     ⟨some 43, .mov (.s 46), none⟩,
     ⟨some 47, .ext (.s 43) 0, none⟩,
     ⟨some 48, .ext (.s 43) 1, none⟩,
     ⟨some 4, .mov (.s 47), none⟩,
     ⟨some 5, .mov (.s 48), none⟩])
  (.seq (.reg false false [
     ⟨some 50, .load (some 2) (.s 1), none⟩,
     ⟨some 51, .call 20 [(.s 50), (.c (.slice none 0 0))], none⟩,
     ⟨some 49, .mov (.s 51), none⟩,
     ⟨some 52, .ext (.s 49) 0, none⟩,
     ⟨some 53, .ext (.s 49) 1, none⟩,
     ⟨some 6, .mov (.s 52), none⟩,
     ⟨some 7, .mov (.s 53), none⟩])
  (.seq (.reg false false [
     ⟨some 55, .load (some 2) (.s 1), none⟩,
     ⟨some 56, .bsl 1 1 [(.int .i64 0)] [(0, (.c (.int .i64 (-2))))], none⟩,
     ⟨some 57, .call 22 [(.s 55), (.s 56)], none⟩,
     ⟨some 54, .mov (.s 57), none⟩,
     ⟨some 58, .ext (.s 54) 0, none⟩,
     ⟨some 59, .ext (.s 54) 1, none⟩,
     ⟨some 8, .mov (.s 58), none⟩,
     ⟨some 9, .mov (.s 59), none⟩])
  (.seq (.reg false false [
     ⟨some 60, .call 28 [], none⟩,
     ⟨some 10, .alloc [(.slice none 0 0), (.slice none 0 0)], none⟩,
     ⟨none, .store 2 (.s 10) (.s 60), none⟩])
  (.seq (.reg true true [
     ⟨some 61, .fld 1 (.s 10), none⟩,
     ⟨some 62, .load none (.s 61), none⟩,
     ⟨some 63, .slc 5 (.s 62) none (some (.c (.int .i64 6))) (some (.c (.int .i64 6))), none⟩,
     ⟨some 64, .bsl 1 3 [(.int .i64 0)] [(0, (.c (.int .i64 2))), (1, (.c (.int .i64 4))), (2, (.c (.int .i64 5)))], none⟩,
     ⟨some 65, .call 29 [(.s 64)], none⟩,
     ⟨some 66, .bsl 5 1 [(.int .i64 0), (.int .i64 0), (.int .i64 0), (.int .i64 0), (.slice none 0 0)] [(0, (.s 65))], none⟩,
     ⟨some 67, .app 5 56 (.s 63) (.s 66), none⟩,
     ⟨some 68, .fld 1 (.s 10), none⟩,
     ⟨none, .store 1 (.s 68) (.s 67), none⟩])
  (.seq (.reg false false [
     ⟨some 70, .load (some 2) (.s 10), none⟩,
     ⟨some 71, .call 14 [(.s 70)], none⟩,
     ⟨some 69, .mov (.s 71), none⟩,
     ⟨some 72, .ext (.s 69) 0, none⟩,
     ⟨some 73, .ext (.s 69) 1, none⟩,
     ⟨some 74, .ext (.s 69) 2, none⟩,
     ⟨some 75, .ext (.s 69) 3, none⟩,
     ⟨some 11, .mov (.s 72), none⟩,
     ⟨some 12, .mov (.s 73), none⟩,
     ⟨some 13, .mov (.s 74), none⟩,
     ⟨some 14, .mov (.s 75), none⟩])
  (.seq (.seq (.reg false false [
      ⟨some 76, .bsl 1 1 [(.int .i64 0)] [(0, (.c (.int .i64 2)))], none⟩,
      ⟨some 77, .build [(.slice none 0 0), (.slice none 0 0)] [(0, 1, (.s 76))], none⟩,
      ⟨some 78, .call 30 [(.c (.int .i64 1))], none⟩,
      ⟨some 79, .bsl 5 1 [(.int .i64 0), (.int .i64 0), (.int .i64 0), (.int .i64 0), (.slice none 0 0)] [(0, (.s 78))], none⟩,
      ⟨some 80, .build [(.slice none 0 0), (.slice none 0 0)] [(1, 1, (.s 79))], none⟩,
      ⟨some 81, .bsl 1 1 [(.int .i64 0)] [(0, (.c (.int .i64 5)))], none⟩,
      ⟨some 82, .call 30 [(.c (.int .i64 1))], none⟩,
      ⟨some 83, .bsl 5 1 [(.int .i64 0), (.int .i64 0), (.int .i64 0), (.int .i64 0), (.slice none 0 0)] [(0, (.s 82))], none⟩,
      ⟨some 84, .build [(.slice none 0 0), (.slice none 0 0)] [(0, 1, (.s 81)), (1, 1, (.s 83))], none⟩,
      ⟨some 85, .bsl 1 1 [(.int .i64 0)] [(0, (.c (.int .i64 0)))], none⟩,
      ⟨some 86, .call 30 [(.c (.int .i64 1))], none⟩,
      ⟨some 87, .bsl 5 1 [(.int .i64 0), (.int .i64 0), (.int .i64 0), (.int .i64 0), (.slice none 0 0)] [(0, (.s 86))], none⟩,
      ⟨some 88, .build [(.slice none 0 0), (.slice none 0 0)] [(0, 1, (.s 85)), (1, 1, (.s 87))], none⟩,
      ⟨some 89, .bsl 1 6 [(.int .i64 0)] [(0, (.c (.int .i64 4))), (1, (.c (.int .i64 4))), (2, (.c (.int .i64 4))), (3, (.c (.int .i64 4))), (4, (.c (.int .i64 4))), (5, (.c (.int .i64 2)))], none⟩,
      ⟨some 90, .call 30 [(.c (.int .i64 1))], none⟩,
      ⟨some 91, .bsl 5 1 [(.int .i64 0), (.int .i64 0), (.int .i64 0), (.int .i64 0), (.slice none 0 0)] [(0, (.s 90))], none⟩,
      ⟨some 92, .build [(.slice none 0 0), (.slice none 0 0)] [(0, 1, (.s 89)), (1, 1, (.s 91))], none⟩,
      ⟨some 93, .bsl 1 9 [(.int .i64 0)] [(0, (.c (.int .i64 1))), (1, (.c (.int .i64 1))), (2, (.c (.int .i64 1))), (3, (.c (.int .i64 1))), (4, (.c (.int .i64 1))), (5, (.c (.int .i64 1))), (6, (.c (.int .i64 1))), (7, (.c (.int .i64 1))), (8, (.c (.int .i64 1)))], none⟩,
      ⟨some 94, .call 30 [(.c (.int .i64 1))], none⟩,
      ⟨some 95, .bsl 5 1 [(.int .i64 0), (.int .i64 0), (.int .i64 0), (.int .i64 0), (.slice none 0 0)] [(0, (.s 94))], none⟩,
      ⟨some 96, .build [(.slice none 0 0), (.slice none 0 0)] [(0, 1, (.s 93)), (1, 1, (.s 95))], none⟩,
      ⟨some 97, .bsl 1 1 [(.int .i64 0)] [(0, (.c (.int .i64 2)))], none⟩,
      ⟨some 98, .bsl 1 1 [(.int .i64 0)] [(0, (.c (.int .i64 0)))], none⟩,
      ⟨some 99, .call 29 [(.s 98)], none⟩,
      ⟨some 100, .bsl 5 1 [(.int .i64 0), (.int .i64 0), (.int .i64 0), (.int .i64 0), (.slice none 0 0)] [(0, (.s 99))], none⟩,
      ⟨some 101, .build [(.slice none 0 0), (.slice none 0 0)] [(0, 1, (.s 97)), (1, 1, (.s 100))], none⟩,
      ⟨some 102, .bsl 1 1 [(.int .i64 0)] [(0, (.c (.int .i64 2)))], none⟩,
      ⟨some 103, .call 30 [(.c (.int .i64 1))], none⟩,
      ⟨some 104, .call 29 [(.c (.slice none 0 0))], none⟩,
      ⟨some 105, .bsl 5 2 [(.int .i64 0), (.int .i64 0), (.int .i64 0), (.int .i64 0), (.slice none 0 0)] [(0, (.s 103)), (1, (.s 104))], none⟩,
      ⟨some 106, .build [(.slice none 0 0), (.slice none 0 0)] [(0, 1, (.s 102)), (1, 1, (.s 105))], none⟩,
      ⟨some 107, .bsl 1 1 [(.int .i64 0)] [(0, (.c (.int .i64 2)))], none⟩,
      ⟨some 108, .call 30 [(.c (.int .i64 1))], none⟩,
      ⟨some 109, .bsl 1 2 [(.int .i64 0)] [(0, (.c (.int .i64 0))), (1, (.c (.int .i64 0)))], none⟩,
      ⟨some 110, .call 29 [(.s 109)], none⟩,
      ⟨some 111, .bsl 5 2 [(.int .i64 0), (.int .i64 0), (.int .i64 0), (.int .i64 0), (.slice none 0 0)] [(0, (.s 108)), (1, (.s 110))], none⟩,
      ⟨some 112, .build [(.slice none 0 0), (.slice none 0 0)] [(0, 1, (.s 107)), (1, 1, (.s 111))], none⟩,
      ⟨some 113, .bsl 1 1 [(.int .i64 0)] [(0, (.c (.int .i64 2)))], none⟩,
      ⟨some 114, .call 30 [(.c (.int .i64 1))], none⟩,
      ⟨some 115, .call 30 [(.c (.int .i64 1))], none⟩,
      ⟨some 116, .bsl 1 2 [(.int .i64 0)] [(0, (.c (.int .i64 1))), (1, (.c (.int .i64 0)))], none⟩,
      ⟨some 117, .call 31 [(.s 116)], none⟩,
      ⟨some 118, .bsl 5 3 [(.int .i64 0), (.int .i64 0), (.int .i64 0), (.int .i64 0), (.slice none 0 0)] [(0, (.s 114)), (1, (.s 115)), (2, (.s 117))], none⟩,
      ⟨some 119, .build [(.slice none 0 0), (.slice none 0 0)] [(0, 1, (.s 113)), (1, 1, (.s 118))], none⟩,
      ⟨some 120, .bsl 1 1 [(.int .i64 0)] [(0, (.c (.int .i64 2)))], none⟩,
      ⟨some 121, .call 32 [(.c (.int .i64 1)), (.c (.int .i64 0))], none⟩,
      ⟨some 122, .bsl 5 1 [(.int .i64 0), (.int .i64 0), (.int .i64 0), (.int .i64 0), (.slice none 0 0)] [(0, (.s 121))], none⟩,
      ⟨some 123, .build [(.slice none 0 0), (.slice none 0 0)] [(0, 1, (.s 120)), (1, 1, (.s 122))], none⟩,
      ⟨some 124, .bsl 1 1 [(.int .i64 0)] [(0, (.c (.int .i64 2)))], none⟩,
      ⟨some 125, .call 32 [(.c (.int .i64 0)), (.c (.int .i64 2))], none⟩,
      ⟨some 126, .bsl 5 1 [(.int .i64 0), (.int .i64 0), (.int .i64 0), (.int .i64 0), (.slice none 0 0)] [(0, (.s 125))], none⟩,
      ⟨some 127, .build [(.slice none 0 0), (.slice none 0 0)] [(0, 1, (.s 124)), (1, 1, (.s 126))], none⟩,
      ⟨some 128, .bsl 1 1 [(.int .i64 0)] [(0, (.c (.int .i64 2)))], none⟩,
      ⟨some 129, .call 30 [(.c (.int .i64 (-1)))], none⟩,
      ⟨some 130, .bsl 5 1 [(.int .i64 0), (.int .i64 0), (.int .i64 0), (.int .i64 0), (.slice none 0 0)] [(0, (.s 129))], none⟩,
      ⟨some 131, .build [(.slice none 0 0), (.slice none 0 0)] [(0, 1, (.s 128)), (1, 1, (.s 130))], none⟩,
      ⟨some 132, .bsl 1 1 [(.int .i64 0)] [(0, (.c (.int .i64 2)))], none⟩,
      ⟨some 133, .call 30 [(.c (.int .i64 4611686018427387904))], none⟩,
      ⟨some 134, .bsl 5 1 [(.int .i64 0), (.int .i64 0), (.int .i64 0), (.int .i64 0), (.slice none 0 0)] [(0, (.s 133))], none⟩,
      ⟨some 135, .build [(.slice none 0 0), (.slice none 0 0)] [(0, 1, (.s 132)), (1, 1, (.s 134))], none⟩,
      ⟨some 136, .bsl 1 1 [(.int .i64 0)] [(0, (.c (.int .i64 2)))], none⟩,
      ⟨some 137, .build [(.int .i64 0), (.int .i64 0), (.int .i64 0), (.int .i64 0), (.slice none 0 0)] [], none⟩,
      ⟨some 138, .bsl 5 1 [(.int .i64 0), (.int .i64 0), (.int .i64 0), (.int .i64 0), (.slice none 0 0)] [(0, (.s 137))], none⟩,
      ⟨some 139, .build [(.slice none 0 0), (.slice none 0 0)] [(0, 1, (.s 136)), (1, 1, (.s 138))], none⟩,
      ⟨some 140, .bsl 1 1 [(.int .i64 0)] [(0, (.c (.int .i64 2)))], none⟩,
      ⟨some 141, .build [(.int .i64 0), (.int .i64 0), (.int .i64 0), (.int .i64 0), (.slice none 0 0)] [(0, 1, (.c (.int .i64 5)))], none⟩,
      ⟨some 142, .bsl 5 1 [(.int .i64 0), (.int .i64 0), (.int .i64 0), (.int .i64 0), (.slice none 0 0)] [(0, (.s 141))], none⟩,
      ⟨some 143, .build [(.slice none 0 0), (.slice none 0 0)] [(0, 1, (.s 140)), (1, 1, (.s 142))], none⟩,
      ⟨some 144, .bsl 1 1 [(.int .i64 0)] [(0, (.c (.int .i64 2)))], none⟩,
      ⟨some 145, .build [(.int .i64 0), (.int .i64 0), (.int .i64 0), (.int .i64 0), (.slice none 0 0)] [(0, 1, (.c (.int .i64 1))), (1, 1, (.c (.int .i64 1)))], none⟩,
      ⟨some 146, .bsl 5 1 [(.int .i64 0), (.int .i64 0), (.int .i64 0), (.int .i64 0), (.slice none 0 0)] [(0, (.s 145))], none⟩,
      ⟨some 147, .build [(.slice none 0 0), (.slice none 0 0)] [(0, 1, (.s 144)), (1, 1, (.s 146))], none⟩,
      ⟨some 148, .bsl 1 1 [(.int .i64 0)] [(0, (.c (.int .i64 2)))], none⟩,
      ⟨some 149, .build [(.int .i64 0), (.int .i64 0), (.int .i64 0), (.int .i64 0), (.slice none 0 0)] [(0, 1, (.c (.int .i64 2))), (3, 1, (.c (.int .i64 1)))], none⟩,
      ⟨some 150, .bsl 5 1 [(.int .i64 0), (.int .i64 0), (.int .i64 0), (.int .i64 0), (.slice none 0 0)] [(0, (.s 149))], none⟩,
      ⟨some 151, .build [(.slice none 0 0), (.slice none 0 0)] [(0, 1, (.s 148)), (1, 1, (.s 150))], none⟩,
      ⟨some 152, .bsl 1 1 [(.int .i64 0)] [(0, (.c (.int .i64 2)))], none⟩,
      ⟨some 153, .call 30 [(.c (.int .i64 1))], none⟩,
      ⟨some 154, .bsl 1 1 [(.int .i64 0)] [(0, (.c (.int .i64 0)))], none⟩,
      ⟨some 155, .build [(.int .i64 0), (.int .i64 0), (.int .i64 0), (.int .i64 0), (.slice none 0 0)] [(0, 1, (.c (.int .i64 3))), (4, 1, (.s 154)), (2, 1, (.c (.int .i64 1)))], none⟩,
      ⟨some 156, .bsl 5 2 [(.int .i64 0), (.int .i64 0), (.int .i64 0), (.int .i64 0), (.slice none 0 0)] [(0, (.s 153)), (1, (.s 155))], none⟩,
      ⟨some 157, .build [(.slice none 0 0), (.slice none 0 0)] [(0, 1, (.s 152)), (1, 1, (.s 156))], none⟩,
      ⟨some 158, .bsl 1 1 [(.int .i64 0)] [(0, (.c (.int .i64 2)))], none⟩,
      ⟨some 159, .call 30 [(.c (.int .i64 1))], none⟩,
      ⟨some 160, .bsl 5 1 [(.int .i64 0), (.int .i64 0), (.int .i64 0), (.int .i64 0), (.slice none 0 0)] [(0, (.s 159))], none⟩,
      ⟨some 161, .call 33 [(.s 160), (.c (.int .i64 4001))], none⟩,
      ⟨some 162, .build [(.slice none 0 0), (.slice none 0 0)] [(0, 1, (.s 158)), (1, 1, (.s 161))], none⟩,
      ⟨some 163, .bsl 2 20 [(.slice none 0 0), (.slice none 0 0)] [(0, (.s 77)), (1, (.s 80)), (2, (.s 84)), (3, (.s 88)), (4, (.s 92)), (5, (.s 96)), (6, (.s 101)), (7, (.s 106)), (8, (.s 112)), (9, (.s 119)), (10, (.s 123)), (11, (.s 127)), (12, (.s 131)), (13, (.s 135)), (14, (.s 139)), (15, (.s 143)), (16, (.s 147)), (17, (.s 151)), (18, (.s 157)), (19, (.s 162))], none⟩,
      ⟨some 164, .len (.s 163), none⟩,
      ⟨some 165, .mov (.c (.int .i64 0)), none⟩])
   (.block 0 (.loop (.seq (.reg false false [
        ⟨some 166, .bin .lss (.s 165) (.s 164), none⟩])
     (.seq (.cond (.s 166)
        (.skip)
        (.exit 0))
     (.seq (.block 1 (.seq (.reg false false [
          ⟨some 167, .idxS 2 (.s 163) (.s 165), none⟩,
          ⟨some 168, .load (some 2) (.s 167), none⟩,
          ⟨some 16, .alloc [(.slice none 0 0), (.slice none 0 0)], none⟩,
          ⟨none, .store 2 (.s 16) (.s 168), none⟩])
       (.seq (.reg false false [
          ⟨some 170, .load (some 2) (.s 16), none⟩,
          ⟨some 171, .call 20 [(.s 170), (.c (.slice none 0 0))], none⟩,
          ⟨some 169, .mov (.s 171), none⟩,
          ⟨some 172, .ext (.s 169) 0, none⟩,
          ⟨some 173, .ext (.s 169) 1, none⟩,
          ⟨some 17, .mov (.s 172), none⟩,
          ⟨some 18, .mov (.s 173), none⟩])
       (.seq (.reg false false [
          ⟨some 174, .load (some 2) (.s 16), none⟩,
          ⟨some 175, .call 13 [(.s 174)], none⟩,
          ⟨some 176, .bin .neq (.s 175) (.c (.int .i64 150)), none⟩,
          ⟨some 177, .mov (.s 176), none⟩,
          ⟨some 178, .mov (.s 18), some (177, false)⟩,
          ⟨some 179, .bin .neq (.s 178) (.c (.int .i64 150)), some (177, false)⟩,
          ⟨some 180, .pick (.s 177) (.c (.bool true)) (.s 179), none⟩])
       (.cond (.s 180)
         (.seq (.reg false false [
             ⟨some 0, .mov (.c (.bool false)), none⟩])
          (.ret))
         (.skip))))))
     (.reg false false [
       ⟨some 181, .bin .add (.s 165) (.c (.int .i64 1)), none⟩,
       ⟨some 165, .mov (.s 181), none⟩])))))))
  (.seq (.reg false false [
     ⟨some 182, .bsl 1 8 [(.int .i64 0)] [(0, (.c (.int .i64 4))), (1, (.c (.int .i64 4))), (2, (.c (.int .i64 4))), (3, (.c (.int .i64 4))), (4, (.c (.int .i64 4))), (5, (.c (.int .i64 1))), (6, (.c (.int .i64 1))), (7, (.c (.int .i64 1)))], none⟩,
     ⟨some 183, .call 30 [(.c (.int .i64 1))], none⟩,
     ⟨some 184, .bsl 5 1 [(.int .i64 0), (.int .i64 0), (.int .i64 0), (.int .i64 0), (.slice none 0 0)] [(0, (.s 183))], none⟩,
     ⟨some 185, .call 33 [(.s 184), (.c (.int .i64 4000))], none⟩,
     ⟨some 186, .build [(.slice none 0 0), (.slice none 0 0)] [(0, 1, (.s 182)), (1, 1, (.s 185))], none⟩,
     ⟨some 19, .alloc [(.slice none 0 0), (.slice none 0 0)], none⟩,
     ⟨none, .store 2 (.s 19) (.s 186), none⟩])
  (.seq (.reg false false [
     ⟨some 187, .bsl 1 1 [(.int .i64 0)] [(0, (.c (.int .i64 2)))], none⟩,
     ⟨some 188, .call 30 [(.c (.int .i64 4611686018427387903))], none⟩,
     ⟨some 189, .call 30 [(.c (.int .i64 1))], none⟩,
     ⟨some 190, .call 30 [(.c (.int .i64 0))], none⟩,
     ⟨some 191, .bsl 1 2 [(.int .i64 0)] [(0, (.c (.int .i64 0))), (1, (.c (.int .i64 2)))], none⟩,
     ⟨some 192, .call 29 [(.s 191)], none⟩,
     ⟨some 193, .bsl 1 2 [(.int .i64 0)] [(0, (.c (.int .i64 0))), (1, (.c (.int .i64 1)))], none⟩,
     ⟨some 194, .call 31 [(.s 193)], none⟩,
     ⟨some 195, .bsl 5 5 [(.int .i64 0), (.int .i64 0), (.int .i64 0), (.int .i64 0), (.slice none 0 0)] [(0, (.s 188)), (1, (.s 189)), (2, (.s 190)), (3, (.s 192)), (4, (.s 194))], none⟩,
     ⟨some 196, .build [(.slice none 0 0), (.slice none 0 0)] [(0, 1, (.s 187)), (1, 1, (.s 195))], none⟩,
     ⟨some 20, .alloc [(.slice none 0 0), (.slice none 0 0)], none⟩,
     ⟨none, .store 2 (.s 20) (.s 196), none⟩])
  (.seq (.reg false false [
     ⟨some 197, .bsl 1 1 [(.int .i64 0)] [(0, (.c (.int .i64 2)))], none⟩,
     ⟨some 198, .call 30 [(.c (.int .i64 4611686018427387903))], none⟩,
     ⟨some 199, .call 30 [(.c (.int .i64 1))], none⟩,
     ⟨some 200, .bsl 1 2 [(.int .i64 0)] [(0, (.c (.int .i64 0))), (1, (.c (.int .i64 1)))], none⟩,
     ⟨some 201, .call 29 [(.s 200)], none⟩,
     ⟨some 202, .bsl 5 3 [(.int .i64 0), (.int .i64 0), (.int .i64 0), (.int .i64 0), (.slice none 0 0)] [(0, (.s 198)), (1, (.s 199)), (2, (.s 201))], none⟩,
     ⟨some 203, .build [(.slice none 0 0), (.slice none 0 0)] [(0, 1, (.s 197)), (1, 1, (.s 202))], none⟩,
     ⟨some 21, .alloc [(.slice none 0 0), (.slice none 0 0)], none⟩,
     ⟨none, .store 2 (.s 21) (.s 203), none⟩])
  (.seq (.reg false false [
     ⟨some 204, .bsl 1 1 [(.int .i64 0)] [(0, (.c (.int .i64 2)))], none⟩,
     ⟨some 205, .call 30 [(.c (.int .i64 2147483648))], none⟩,
     ⟨some 206, .call 30 [(.c (.int .i64 2147483648))], none⟩,
     ⟨some 207, .call 30 [(.c (.int .i64 0))], none⟩,
     ⟨some 208, .bsl 1 2 [(.int .i64 0)] [(0, (.c (.int .i64 0))), (1, (.c (.int .i64 1)))], none⟩,
     ⟨some 209, .call 31 [(.s 208)], none⟩,
     ⟨some 210, .bsl 1 3 [(.int .i64 0)] [(0, (.c (.int .i64 0))), (1, (.c (.int .i64 1))), (2, (.c (.int .i64 2)))], none⟩,
     ⟨some 211, .call 31 [(.s 210)], none⟩,
     ⟨some 212, .bsl 5 5 [(.int .i64 0), (.int .i64 0), (.int .i64 0), (.int .i64 0), (.slice none 0 0)] [(0, (.s 205)), (1, (.s 206)), (2, (.s 207)), (3, (.s 209)), (4, (.s 211))], none⟩,
     ⟨some 213, .build [(.slice none 0 0), (.slice none 0 0)] [(0, 1, (.s 204)), (1, 1, (.s 212))], none⟩,
     ⟨some 22, .alloc [(.slice none 0 0), (.slice none 0 0)], none⟩,
     ⟨none, .store 2 (.s 22) (.s 213), none⟩])
  (.seq (.reg false false [
     ⟨some 214, .bsl 1 1 [(.int .i64 0)] [(0, (.c (.int .i64 2)))], none⟩,
     ⟨some 215, .call 30 [(.c (.int .i64 2147483648))], none⟩,
     ⟨some 216, .call 30 [(.c (.int .i64 2147483648))], none⟩,
     ⟨some 217, .call 30 [(.c (.int .i64 0))], none⟩,
     ⟨some 218, .bsl 1 3 [(.int .i64 0)] [(0, (.c (.int .i64 0))), (1, (.c (.int .i64 1))), (2, (.c (.int .i64 2)))], none⟩,
     ⟨some 219, .call 31 [(.s 218)], none⟩,
     ⟨some 220, .bsl 5 4 [(.int .i64 0), (.int .i64 0), (.int .i64 0), (.int .i64 0), (.slice none 0 0)] [(0, (.s 215)), (1, (.s 216)), (2, (.s 217)), (3, (.s 219))], none⟩,
     ⟨some 221, .build [(.slice none 0 0), (.slice none 0 0)] [(0, 1, (.s 214)), (1, 1, (.s 220))], none⟩,
     ⟨some 23, .alloc [(.slice none 0 0), (.slice none 0 0)], none⟩,
     ⟨none, .store 2 (.s 23) (.s 221), none⟩])
  (.seq (.reg false false [
     ⟨some 222, .bsl 1 1 [(.int .i64 0)] [(0, (.c (.int .i64 2)))], none⟩,
     ⟨some 223, .call 32 [(.c (.int .i64 0)), (.c (.int .i64 0))], none⟩,
     ⟨some 224, .call 30 [(.c (.int .i64 2147483648))], none⟩,
     ⟨some 225, .call 30 [(.c (.int .i64 2147483648))], none⟩,
     ⟨some 226, .bsl 1 3 [(.int .i64 0)] [(0, (.c (.int .i64 0))), (1, (.c (.int .i64 1))), (2, (.c (.int .i64 2)))], none⟩,
     ⟨some 227, .call 31 [(.s 226)], none⟩,
     ⟨some 228, .bsl 5 4 [(.int .i64 0), (.int .i64 0), (.int .i64 0), (.int .i64 0), (.slice none 0 0)] [(0, (.s 223)), (1, (.s 224)), (2, (.s 225)), (3, (.s 227))], none⟩,
     ⟨some 229, .build [(.slice none 0 0), (.slice none 0 0)] [(0, 1, (.s 222)), (1, 1, (.s 228))], none⟩,
     ⟨some 24, .alloc [(.slice none 0 0), (.slice none 0 0)], none⟩,
     ⟨none, .store 2 (.s 24) (.s 229), none⟩])
  (.seq (.reg false false [
     ⟨some 231, .load (some 2) (.s 21), none⟩,
     ⟨some 232, .bsl 1 1 [(.int .i64 0)] [(0, (.c (.int .i64 0)))], none⟩,
     ⟨some 233, .call 20 [(.s 231), (.s 232)], none⟩,
     ⟨some 230, .mov (.s 233), none⟩,
     ⟨some 234, .ext (.s 230) 0, none⟩,
     ⟨some 235, .ext (.s 230) 1, none⟩,
     ⟨some 25, .mov (.s 234), none⟩,
     ⟨some 26, .mov (.s 235), none⟩])
  (.seq (.reg false false [
     ⟨some 237, .load (some 2) (.s 22), none⟩,
     ⟨some 238, .bsl 1 1 [(.int .i64 0)] [(0, (.c (.int .i64 0)))], none⟩,
     ⟨some 239, .call 20 [(.s 237), (.s 238)], none⟩,
     ⟨some 236, .mov (.s 239), none⟩,
     ⟨some 240, .ext (.s 236) 0, none⟩,
     ⟨some 241, .ext (.s 236) 1, none⟩,
     ⟨some 27, .mov (.s 240), none⟩,
     ⟨some 28, .mov (.s 241), none⟩])
  (.seq (.reg false false [
     ⟨some 243, .load (some 2) (.s 23), none⟩,
     ⟨some 244, .bsl 1 1 [(.int .i64 0)] [(0, (.c (.int .i64 0)))], none⟩,
     ⟨some 245, .call 22 [(.s 243), (.s 244)], none⟩,
     ⟨some 242, .mov (.s 245), none⟩,
     ⟨some 246, .ext (.s 242) 0, none⟩,
     ⟨some 247, .ext (.s 242) 1, none⟩,
     ⟨some 29, .mov (.s 246), none⟩,
     ⟨some 30, .mov (.s 247), none⟩])
  (.seq (.reg false false [
     ⟨some 249, .load (some 2) (.s 24), none⟩,
     ⟨some 250, .bsl 1 1 [(.int .i64 0)] [(0, (.c (.int .i64 1)))], none⟩,
     ⟨some 251, .call 22 [(.s 249), (.s 250)], none⟩,
     ⟨some 248, .mov (.s 251), none⟩,
     ⟨some 252, .ext (.s 248) 0, none⟩,
     ⟨some 253, .ext (.s 248) 1, none⟩,
     ⟨some 31, .mov (.s 252), none⟩,
     ⟨some 32, .mov (.s 253), none⟩])
  (.seq (.reg false false [
     ⟨some 254, .mov (.s 5), none⟩,
     ⟨some 255, .bin .eql (.s 254) (.c (.int .i64 2)), none⟩,
     ⟨some 256, .mov (.s 255), none⟩,
     ⟨some 257, .mov (.s 7), some (256, true)⟩,
     ⟨some 258, .bin .eql (.s 257) (.c (.int .i64 2)), some (256, true)⟩,
     ⟨some 259, .pick (.s 256) (.s 258) (.c (.bool false)), none⟩,
     ⟨some 260, .mov (.s 259), none⟩,
     ⟨some 261, .mov (.s 9), some (260, true)⟩,
     ⟨some 262, .bin .eql (.s 261) (.c (.int .i64 2)), some (260, true)⟩,
     ⟨some 263, .pick (.s 260) (.s 262) (.c (.bool false)), none⟩,
     ⟨some 264, .mov (.s 263), none⟩,
     ⟨some 265, .mov (.s 26), some (264, true)⟩,
     ⟨some 266, .bin .eql (.s 265) (.c (.int .i64 6)), some (264, true)⟩,
     ⟨some 267, .pick (.s 264) (.s 266) (.c (.bool false)), none⟩,
     ⟨some 268, .mov (.s 267), none⟩,
     ⟨some 269, .mov (.s 28), some (268, true)⟩,
     ⟨some 270, .bin .eql (.s 269) (.c (.int .i64 6)), some (268, true)⟩,
     ⟨some 271, .pick (.s 268) (.s 270) (.c (.bool false)), none⟩,
     ⟨some 272, .mov (.s 271), none⟩,
     ⟨some 273, .mov (.s 30), some (272, true)⟩,
     ⟨some 274, .bin .eql (.s 273) (.c (.int .i64 6)), some (272, true)⟩,
     ⟨some 275, .pick (.s 272) (.s 274) (.c (.bool false)), none⟩,
     ⟨some 276, .mov (.s 275), none⟩,
     ⟨some 277, .mov (.s 32), some (276, true)⟩,
     ⟨some 278, .bin .eql (.s 277) (.c (.int .i64 6)), some (276, true)⟩,
     ⟨some 279, .pick (.s 276) (.s 278) (.c (.bool false)), none⟩,
     ⟨some 33, .mov (.s 279), none⟩])
  (.seq (.reg false false [
     ⟨some 280, .mov (.s 33), none⟩,
     ⟨some 281, .mov (.s 280), none⟩,
     ⟨some 282, .mov (.s 3), some (281, true)⟩,
     ⟨some 283, .bin .eql (.s 282) (.c (.int .i64 0)), some (281, true)⟩,
     ⟨some 284, .pick (.s 281) (.s 283) (.c (.bool false)), none⟩,
     ⟨some 285, .mov (.s 284), none⟩,
     ⟨some 286, .mov (.s 2), some (285, true)⟩,
     ⟨some 287, .bsl 1 2 [(.int .i64 0)] [(0, (.c (.int .i64 3))), (1, (.c (.int .i64 5)))], some (285, true)⟩,
     ⟨some 288, .bsl 1 1 [(.slice none 0 0)] [(0, (.s 287))], some (285, true)⟩,
     ⟨some 289, .call 24 [(.s 286), (.s 288)], some (285, true)⟩,
     ⟨some 290, .pick (.s 285) (.s 289) (.c (.bool false)), none⟩,
     ⟨some 291, .mov (.s 290), none⟩,
     ⟨some 292, .mov (.s 14), some (291, true)⟩,
     ⟨some 293, .bin .eql (.s 292) (.c (.int .i64 0)), some (291, true)⟩,
     ⟨some 294, .pick (.s 291) (.s 293) (.c (.bool false)), none⟩,
     ⟨some 295, .mov (.s 294), none⟩,
     ⟨some 296, .mov (.s 11), some (295, true)⟩,
     ⟨some 297, .un .not (.s 296), some (295, true)⟩,
     ⟨some 298, .pick (.s 295) (.s 297) (.c (.bool false)), none⟩,
     ⟨some 299, .mov (.s 298), none⟩,
     ⟨some 300, .mov (.s 12), some (299, true)⟩,
     ⟨some 301, .pick (.s 299) (.s 300) (.c (.bool false)), none⟩,
     ⟨some 302, .mov (.s 301), none⟩,
     ⟨some 303, .mov (.s 13), some (302, true)⟩,
     ⟨some 304, .un .not (.s 303), some (302, true)⟩,
     ⟨some 305, .pick (.s 302) (.s 304) (.c (.bool false)), none⟩,
     ⟨some 306, .mov (.s 305), none⟩,
     ⟨some 307, .load (some 2) (.s 19), some (306, true)⟩,
     ⟨some 308, .call 13 [(.s 307)], some (306, true)⟩,
     ⟨some 309, .bin .eql (.s 308) (.c (.int .i64 0)), some (306, true)⟩,
     ⟨some 310, .pick (.s 306) (.s 309) (.c (.bool false)), none⟩,
     ⟨some 311, .mov (.s 310), none⟩,
     ⟨some 312, .load (some 2) (.s 20), some (311, true)⟩,
     ⟨some 313, .bsl 1 1 [(.int .i64 0)] [(0, (.c (.int .i64 1)))], some (311, true)⟩,
     ⟨some 314, .call 34 [(.s 312), (.c (.int .i64 4611686018427387903)), (.s 313)], some (311, true)⟩,
     ⟨some 315, .pick (.s 311) (.s 314) (.c (.bool false)), none⟩,
     ⟨some 316, .mov (.s 315), none⟩,
     ⟨some 317, .load (some 2) (.s 23), some (316, true)⟩,
     ⟨some 318, .bsl 1 1 [(.int .i64 0)] [(0, (.c (.int .i64 0)))], some (316, true)⟩,
     ⟨some 319, .call 34 [(.s 317), (.c (.int .i64 0)), (.s 318)], some (316, true)⟩,
     ⟨some 320, .pick (.s 316) (.s 319) (.c (.bool false)), none⟩,
     ⟨some 321, .mov (.s 320), none⟩,
     ⟨some 322, .load (some 2) (.s 24), some (321, true)⟩,
     ⟨some 323, .bsl 1 1 [(.int .i64 0)] [(0, (.c (.int .i64 1)))], some (321, true)⟩,
     ⟨some 324, .call 34 [(.s 322), (.c (.int .i64 0)), (.s 323)], some (321, true)⟩,
     ⟨some 325, .pick (.s 321) (.s 324) (.c (.bool false)), none⟩,
     ⟨some 0, .mov (.s 325), none⟩])
  (.ret))))))))))))))))))))))),
  [.tmp 0], true⟩
theorem fn8_ok : FnOk Try.prog 8 fn8 := by unfold FnOk; kernel_rfl
/-- haruspex/haruspexlaw15.wakes -/
def fn10 : Mx.Fn := ⟨89,
  .seq (.reg false false [
     ⟨some 0, .mov (.c (.bool false)), none⟩])
  (.seq (.reg false false [
     ⟨some 11, .call 28 [], none⟩,
     ⟨some 1, .alloc [(.slice none 0 0), (.slice none 0 0)], none⟩,
     ⟨none, .store 2 (.s 1) (.s 11), none⟩])
  (.seq (.reg false false [
     ⟨some 13, .load (some 2) (.s 1), none⟩,
     ⟨some 14, .bsl 1 1 [(.int .i64 0)] [(0, (.c (.int .i64 (-1))))], none⟩,
     ⟨some 15, .call 22 [(.s 13), (.s 14)], none⟩,
     ⟨some 12, .mov (.s 15), none⟩,
     ⟨some 16, .ext (.s 12) 0, none⟩,
     ⟨some 17, .ext (.s 12) 1, none⟩,
     ⟨some 2, .mov (.s 16), none⟩,
     ⟨some 3, .mov (.s 17), none⟩])
  (.seq (.reg false false [
     ⟨some 19, .load (some 2) (.s 1), none⟩,
     ⟨some 20, .call 14 [(.s 19)], none⟩,
     ⟨some 18, .mov (.s 20), none⟩,
     ⟨some 21, .ext (.s 18) 0, none⟩,
     ⟨some 22, .ext (.s 18) 1, none⟩,
     ⟨some 23, .ext (.s 18) 2, none⟩,
     ⟨some 24, .ext (.s 18) 3, none⟩,
     ⟨some 4, .mov (.s 21), none⟩,
     ⟨some 5, .mov (.s 22), none⟩,
     ⟨some 6, .mov (.s 23), none⟩,
     ⟨some 7, .mov (.s 24), none⟩])
  (.seq (.reg false false [
     ⟨some 26, .load (some 2) (.s 1), none⟩,
     ⟨some 27, .call 15 [(.s 26)], none⟩,
     ⟨some 25, .mov (.s 27), none⟩,
     ⟨some 28, .ext (.s 25) 0, none⟩,
     ⟨some 29, .ext (.s 25) 1, none⟩,
     ⟨some 30, .ext (.s 25) 2, none⟩,
     ⟨some 8, .mov (.s 28), none⟩,
     ⟨some 9, .mov (.s 29), none⟩,
     ⟨some 10, .mov (.s 30), none⟩])
  (.seq (.reg false false [
     ⟨some 31, .load (some 2) (.s 1), none⟩,
     ⟨some 32, .bsl 1 1 [(.int .i64 0)] [(0, (.c (.int .i64 (-1))))], none⟩,
     ⟨some 33, .call 34 [(.s 31), (.c (.int .i64 8)), (.s 32)], none⟩,
     ⟨some 34, .mov (.s 33), none⟩,
     ⟨some 35, .load (some 2) (.s 1), some (34, true)⟩,
     ⟨some 36, .bsl 1 1 [(.int .i64 0)] [(0, (.c (.int .i64 0)))], some (34, true)⟩,
     ⟨some 37, .call 34 [(.s 35), (.c (.int .i64 3)), (.s 36)], some (34, true)⟩,
     ⟨some 38, .pick (.s 34) (.s 37) (.c (.bool false)), none⟩,
     ⟨some 39, .mov (.s 38), none⟩,
     ⟨some 40, .load (some 2) (.s 1), some (39, true)⟩,
     ⟨some 41, .bsl 1 1 [(.int .i64 0)] [(0, (.c (.int .i64 1)))], some (39, true)⟩,
     ⟨some 42, .call 34 [(.s 40), (.c (.int .i64 5)), (.s 41)], some (39, true)⟩,
     ⟨some 43, .pick (.s 39) (.s 42) (.c (.bool false)), none⟩,
     ⟨some 44, .mov (.s 43), none⟩,
     ⟨some 45, .mov (.s 3), some (44, true)⟩,
     ⟨some 46, .bin .eql (.s 45) (.c (.int .i64 0)), some (44, true)⟩,
     ⟨some 47, .pick (.s 44) (.s 46) (.c (.bool false)), none⟩,
     ⟨some 48, .mov (.s 47), none⟩,
     ⟨some 49, .mov (.s 2), some (48, true)⟩,
     ⟨some 50, .bsl 1 2 [(.int .i64 0)] [(0, (.c (.int .i64 3))), (1, (.c (.int .i64 5)))], some (48, true)⟩,
     ⟨some 51, .bsl 1 1 [(.slice none 0 0)] [(0, (.s 50))], some (48, true)⟩,
     ⟨some 52, .call 24 [(.s 49), (.s 51)], some (48, true)⟩,
     ⟨some 53, .pick (.s 48) (.s 52) (.c (.bool false)), none⟩,
     ⟨some 54, .mov (.s 53), none⟩,
     ⟨some 55, .mov (.s 4), some (54, true)⟩,
     ⟨some 56, .pick (.s 54) (.s 55) (.c (.bool false)), none⟩,
     ⟨some 57, .mov (.s 56), none⟩,
     ⟨some 58, .mov (.s 5), some (57, true)⟩,
     ⟨some 59, .pick (.s 57) (.s 58) (.c (.bool false)), none⟩,
     ⟨some 60, .mov (.s 59), none⟩,
     ⟨some 61, .mov (.s 6), some (60, true)⟩,
     ⟨some 62, .pick (.s 60) (.s 61) (.c (.bool false)), none⟩,
     ⟨some 63, .mov (.s 62), none⟩,
     ⟨some 64, .mov (.s 7), some (63, true)⟩,
     ⟨some 65, .bin .eql (.s 64) (.c (.int .i64 0)), some (63, true)⟩,
     ⟨some 66, .pick (.s 63) (.s 65) (.c (.bool false)), none⟩,
     ⟨some 67, .mov (.s 66), none⟩,
     ⟨some 68, .mov (.s 8), some (67, true)⟩,
     ⟨some 69, .bin .eql (.s 68) (.c (.int .i64 7)), some (67, true)⟩,
     ⟨some 70, .pick (.s 67) (.s 69) (.c (.bool false)), none⟩,
     ⟨some 71, .mov (.s 70), none⟩,
     ⟨some 72, .mov (.s 9), some (71, true)⟩,
     ⟨some 73, .bin .eql (.s 72) (.c (.int .i64 6)), some (71, true)⟩,
     ⟨some 74, .pick (.s 71) (.s 73) (.c (.bool false)), none⟩,
     ⟨some 75, .mov (.s 74), none⟩,
     ⟨some 76, .mov (.s 10), some (75, true)⟩,
     ⟨some 77, .bin .eql (.s 76) (.c (.int .i64 0)), some (75, true)⟩,
     ⟨some 78, .pick (.s 75) (.s 77) (.c (.bool false)), none⟩,
     ⟨some 79, .mov (.s 78), none⟩,
     ⟨some 80, .load (some 2) (.s 1), some (79, true)⟩,
     ⟨some 81, .call 13 [(.s 80)], some (79, true)⟩,
     ⟨some 82, .bin .eql (.s 81) (.c (.int .i64 0)), some (79, true)⟩,
     ⟨some 83, .pick (.s 79) (.s 82) (.c (.bool false)), none⟩,
     ⟨some 84, .mov (.s 83), none⟩,
     ⟨some 85, .build [(.slice none 0 0), (.slice none 0 0)] [], some (84, true)⟩,
     ⟨some 86, .call 13 [(.s 85)], some (84, true)⟩,
     ⟨some 87, .bin .eql (.s 86) (.c (.int .i64 150)), some (84, true)⟩,
     ⟨some 88, .pick (.s 84) (.s 87) (.c (.bool false)), none⟩,
     ⟨some 0, .mov (.s 88), none⟩])
  (.ret)))))),
  [.tmp 0], true⟩
theorem fn10_ok : FnOk Try.prog 10 fn10 := by unfold FnOk; kernel_rfl
/-- haruspex/circuit.Check -/
def fn13 : Mx.Fn := ⟨63,
  .seq (.reg false false [
     ⟨some 1, .box (.s 0), none⟩,
     ⟨some 2, .mov (.c (.int .i64 0)), none⟩])
  (.seq (.seq (.reg false false [
      ⟨some 8, .fld 0 (.s 1), none⟩,
      ⟨some 9, .load none (.s 8), none⟩,
      ⟨some 10, .len (.s 9), none⟩,
      ⟨some 11, .bin .lss (.s 10) (.c (.int .i64 1)), none⟩,
      ⟨some 12, .mov (.s 11), none⟩,
      ⟨some 13, .fld 0 (.s 1), some (12, false)⟩,
      ⟨some 14, .load none (.s 13), some (12, false)⟩,
      ⟨some 15, .len (.s 14), some (12, false)⟩,
      ⟨some 16, .bin .gtr (.s 15) (.c (.int .i64 8)), some (12, false)⟩,
      ⟨some 17, .pick (.s 12) (.c (.bool true)) (.s 16), none⟩,
      ⟨some 18, .mov (.s 17), none⟩,
      ⟨some 19, .fld 1 (.s 1), some (18, false)⟩,
      ⟨some 20, .load none (.s 19), some (18, false)⟩,
      ⟨some 21, .len (.s 20), some (18, false)⟩,
      ⟨some 22, .bin .lss (.s 21) (.c (.int .i64 1)), some (18, false)⟩,
      ⟨some 23, .pick (.s 18) (.c (.bool true)) (.s 22), none⟩,
      ⟨some 24, .mov (.s 23), none⟩,
      ⟨some 25, .fld 1 (.s 1), some (24, false)⟩,
      ⟨some 26, .load none (.s 25), some (24, false)⟩,
      ⟨some 27, .len (.s 26), some (24, false)⟩,
      ⟨some 28, .bin .gtr (.s 27) (.c (.int .i64 4000)), some (24, false)⟩,
      ⟨some 29, .pick (.s 24) (.c (.bool true)) (.s 28), none⟩])
   (.cond (.s 29)
     (.seq (.reg false false [
         ⟨some 2, .mov (.c (.int .i64 150)), none⟩])
      (.ret))
     (.skip)))
  (.seq (.reg false false [
     ⟨some 3, .mov (.c (.int .i64 1)), none⟩])
  (.seq (.seq (.reg false false [
      ⟨some 30, .fld 0 (.s 1), none⟩,
      ⟨some 31, .load none (.s 30), none⟩,
      ⟨some 32, .len (.s 31), none⟩,
      ⟨some 33, .mov (.c (.int .i64 0)), none⟩])
   (.block 0 (.loop (.seq (.reg false false [
        ⟨some 34, .bin .lss (.s 33) (.s 32), none⟩])
     (.seq (.cond (.s 34)
        (.skip)
        (.exit 0))
     (.seq (.block 1 (.seq (.reg false false [
          ⟨some 35, .idxS 1 (.s 31) (.s 33), none⟩,
          ⟨some 36, .load none (.s 35), none⟩,
          ⟨some 5, .mov (.s 36), none⟩])
       (.seq (.seq (.reg false false [
           ⟨some 37, .mov (.s 5), none⟩,
           ⟨some 38, .bin .lss (.s 37) (.c (.int .i64 1)), none⟩,
           ⟨some 39, .mov (.s 38), none⟩,
           ⟨some 40, .mov (.s 5), some (39, false)⟩,
           ⟨some 41, .bin .gtr (.s 40) (.c (.int .i64 4)), some (39, false)⟩,
           ⟨some 42, .pick (.s 39) (.c (.bool true)) (.s 41), none⟩])
        (.cond (.s 42)
          (.seq (.reg false false [
              ⟨some 2, .mov (.c (.int .i64 150)), none⟩])
           (.ret))
          (.skip)))
       (.reg false false [
         ⟨some 43, .mov (.s 3), none⟩,
         ⟨some 44, .mov (.s 5), none⟩,
         ⟨some 45, .bin .mul (.s 43) (.s 44), none⟩,
         ⟨some 3, .mov (.s 45), none⟩]))))
     (.reg false false [
       ⟨some 46, .bin .add (.s 33) (.c (.int .i64 1)), none⟩,
       ⟨some 33, .mov (.s 46), none⟩])))))))
  (.seq (.seq (.reg false false [
      ⟨some 47, .mov (.s 3), none⟩,
      ⟨some 48, .bin .gtr (.s 47) (.c (.int .i64 1024)), none⟩])
   (.cond (.s 48)
     (.seq (.reg false false [
         ⟨some 2, .mov (.c (.int .i64 150)), none⟩])
      (.ret))
     (.skip)))
  (.seq (.seq (.reg false false [
      ⟨some 49, .fld 1 (.s 1), none⟩,
      ⟨some 50, .load none (.s 49), none⟩,
      ⟨some 51, .len (.s 50), none⟩,
      ⟨some 52, .mov (.c (.int .i64 0)), none⟩])
   (.block 2 (.loop (.seq (.reg false false [
        ⟨some 53, .bin .lss (.s 52) (.s 51), none⟩])
     (.seq (.cond (.s 53)
        (.skip)
        (.exit 2))
     (.seq (.block 3 (.seq (.reg false false [
          ⟨some 54, .mov (.s 52), none⟩,
          ⟨some 55, .idxS 5 (.s 50) (.s 52), none⟩,
          ⟨some 56, .load (some 5) (.s 55), none⟩,
          ⟨some 7, .alloc [(.int .i64 0), (.int .i64 0), (.int .i64 0), (.int .i64 0), (.slice none 0 0)], none⟩,
          ⟨some 6, .mov (.s 54), none⟩,
          ⟨none, .store 5 (.s 7) (.s 56), none⟩])
       (.seq (.reg false false [
          ⟨some 57, .load (some 2) (.s 1), none⟩,
          ⟨some 58, .mov (.s 6), none⟩,
          ⟨some 59, .load (some 5) (.s 7), none⟩,
          ⟨some 60, .call 42 [(.s 57), (.s 58), (.s 59)], none⟩,
          ⟨some 61, .un .not (.s 60), none⟩])
       (.cond (.s 61)
         (.seq (.reg false false [
             ⟨some 2, .mov (.c (.int .i64 150)), none⟩])
          (.ret))
         (.skip)))))
     (.reg false false [
       ⟨some 62, .bin .add (.s 52) (.c (.int .i64 1)), none⟩,
       ⟨some 52, .mov (.s 62), none⟩])))))))
  (.seq (.reg false false [
     ⟨some 2, .mov (.c (.int .i64 0)), none⟩])
  (.ret))))))),
  [.tmp 2], true⟩
theorem fn13_ok : FnOk Try.prog 13 fn13 := by unfold FnOk; kernel_rfl
/-- haruspex/circuit.Kinds -/
def fn14 : Mx.Fn := ⟨78,
  .seq (.reg false false [
     ⟨some 1, .box (.s 0), none⟩,
     ⟨some 2, .mov (.c (.bool false)), none⟩,
     ⟨some 3, .mov (.c (.bool false)), none⟩,
     ⟨some 4, .mov (.c (.bool false)), none⟩,
     ⟨some 5, .mov (.c (.int .i64 0)), none⟩])
  (.seq (.seq (.reg false false [
      ⟨some 12, .load (some 2) (.s 1), none⟩,
      ⟨some 13, .call 13 [(.s 12)], none⟩,
      ⟨some 5, .mov (.s 13), none⟩])
   (.seq (.reg false false [
      ⟨some 14, .mov (.s 5), none⟩,
      ⟨some 15, .bin .neq (.s 14) (.c (.int .i64 0)), none⟩])
   (.cond (.s 15)
     (.seq (.reg false false [
         ⟨some 16, .mov (.s 5), none⟩,
         ⟨some 2, .mov (.c (.bool false)), none⟩,
         ⟨some 3, .mov (.c (.bool false)), none⟩,
         ⟨some 4, .mov (.c (.bool false)), none⟩,
         ⟨some 5, .mov (.s 16), none⟩])
      (.ret))
     (.skip))))
  (.seq (.reg false false [
     ⟨some 2, .mov (.c (.bool true)), none⟩,
     ⟨some 3, .mov (.c (.bool true)), none⟩])
  (.seq (.reg false false [
     ⟨some 17, .load (some 2) (.s 1), none⟩,
     ⟨some 18, .call 43 [(.s 17)], none⟩,
     ⟨some 6, .mov (.s 18), none⟩])
  (.seq (.seq (.reg false false [
      ⟨some 19, .fld 1 (.s 1), none⟩,
      ⟨some 20, .load none (.s 19), none⟩,
      ⟨some 21, .len (.s 20), none⟩,
      ⟨some 22, .mov (.c (.int .i64 0)), none⟩])
   (.block 0 (.loop (.seq (.reg false false [
        ⟨some 23, .bin .lss (.s 22) (.s 21), none⟩])
     (.seq (.cond (.s 23)
        (.skip)
        (.exit 0))
     (.seq (.block 1 (.seq (.reg false false [
          ⟨some 24, .idxS 5 (.s 20) (.s 22), none⟩,
          ⟨some 25, .load (some 5) (.s 24), none⟩,
          ⟨some 8, .alloc [(.int .i64 0), (.int .i64 0), (.int .i64 0), (.int .i64 0), (.slice none 0 0)], none⟩,
          ⟨none, .store 5 (.s 8) (.s 25), none⟩])
       (.seq (.reg false false [
          ⟨some 9, .mov (.c (.int .u64 0)), none⟩])
       (.seq (.reg false false [
          ⟨some 26, .fld 4 (.s 8), none⟩,
          ⟨some 27, .load none (.s 26), none⟩,
          ⟨some 28, .len (.s 27), none⟩,
          ⟨some 29, .mov (.c (.int .i64 0)), none⟩])
       (.block 2 (.loop (.seq (.reg false false [
            ⟨some 30, .bin .lss (.s 29) (.s 28), none⟩])
         (.seq (.cond (.s 30)
            (.skip)
            (.exit 2))
         (.seq (.block 3 (.seq (.reg false false [
              ⟨some 31, .idxS 1 (.s 27) (.s 29), none⟩,
              ⟨some 32, .load none (.s 31), none⟩,
              ⟨some 11, .mov (.s 32), none⟩])
           (.seq (.seq (.reg false false [
               ⟨some 33, .fld 0 (.s 8), none⟩,
               ⟨some 34, .load none (.s 33), none⟩,
               ⟨some 35, .bin .eql (.s 34) (.c (.int .i64 3)), none⟩])
            (.cond (.s 35)
              (.reg true false [
                 ⟨some 36, .mov (.s 2), none⟩,
                 ⟨some 37, .mov (.s 36), none⟩,
                 ⟨some 38, .mov (.s 6), some (37, true)⟩,
                 ⟨some 39, .mov (.s 11), some (37, true)⟩,
                 ⟨some 40, .idxS 1 (.s 38) (.s 39), some (37, true)⟩,
                 ⟨some 41, .load none (.s 40), some (37, true)⟩,
                 ⟨some 42, .mov (.s 6), some (37, true)⟩,
                 ⟨some 43, .fld 4 (.s 8), some (37, true)⟩,
                 ⟨some 44, .load none (.s 43), some (37, true)⟩,
                 ⟨some 45, .idxS 1 (.s 44) (.c (.int .i64 0)), some (37, true)⟩,
                 ⟨some 46, .load none (.s 45), some (37, true)⟩,
                 ⟨some 47, .idxS 1 (.s 42) (.s 46), some (37, true)⟩,
                 ⟨some 48, .load none (.s 47), some (37, true)⟩,
                 ⟨some 49, .bin .eql (.s 41) (.s 48), some (37, true)⟩,
                 ⟨some 50, .pick (.s 37) (.s 49) (.c (.bool false)), none⟩,
                 ⟨some 2, .mov (.s 50), none⟩])
              (.reg false false [
                 ⟨some 51, .mov (.s 3), none⟩,
                 ⟨some 52, .mov (.s 51), none⟩,
                 ⟨some 53, .mov (.s 6), some (52, true)⟩,
                 ⟨some 54, .mov (.s 11), some (52, true)⟩,
                 ⟨some 55, .idxS 1 (.s 53) (.s 54), some (52, true)⟩,
                 ⟨some 56, .load none (.s 55), some (52, true)⟩,
                 ⟨some 57, .mov (.s 9), some (52, true)⟩,
                 ⟨some 58, .bin .and (.s 56) (.s 57), some (52, true)⟩,
                 ⟨some 59, .bin .eql (.s 58) (.c (.int .u64 0)), some (52, true)⟩,
                 ⟨some 60, .pick (.s 52) (.s 59) (.c (.bool false)), none⟩,
                 ⟨some 3, .mov (.s 60), none⟩])))
           (.reg false false [
             ⟨some 61, .mov (.s 9), none⟩,
             ⟨some 62, .mov (.s 6), none⟩,
             ⟨some 63, .mov (.s 11), none⟩,
             ⟨some 64, .idxS 1 (.s 62) (.s 63), none⟩,
             ⟨some 65, .load none (.s 64), none⟩,
             ⟨some 66, .bsl 1 2 [(.int .u64 0)] [(0, (.s 61)), (1, (.s 65))], none⟩,
             ⟨some 67, .call 44 [(.s 66)], none⟩,
             ⟨some 9, .mov (.s 67), none⟩]))))
         (.reg false false [
           ⟨some 68, .bin .add (.s 29) (.c (.int .i64 1)), none⟩,
           ⟨some 29, .mov (.s 68), none⟩]))))))))))
     (.reg false false [
       ⟨some 69, .bin .add (.s 22) (.c (.int .i64 1)), none⟩,
       ⟨some 22, .mov (.s 69), none⟩])))))))
  (.seq (.reg false false [
     ⟨some 71, .load (some 2) (.s 1), none⟩,
     ⟨some 72, .call 45 [(.s 71)], none⟩,
     ⟨some 70, .mov (.s 72), none⟩,
     ⟨some 73, .ext (.s 70) 0, none⟩,
     ⟨some 74, .ext (.s 70) 1, none⟩,
     ⟨some 4, .mov (.s 74), none⟩])
  (.seq (.reg false false [
     ⟨some 75, .mov (.s 2), none⟩,
     ⟨some 76, .mov (.s 3), none⟩,
     ⟨some 77, .mov (.s 4), none⟩,
     ⟨some 2, .mov (.s 75), none⟩,
     ⟨some 3, .mov (.s 76), none⟩,
     ⟨some 4, .mov (.s 77), none⟩,
     ⟨some 5, .mov (.c (.int .i64 0)), none⟩])
  (.ret))))))),
  [.tmp 2, .tmp 3, .tmp 4, .tmp 5], true⟩
theorem fn14_ok : FnOk Try.prog 14 fn14 := by unfold FnOk; kernel_rfl
/-- haruspex/circuit.Size -/
def fn15 : Mx.Fn := ⟨29,
  .seq (.reg false false [
     ⟨some 1, .box (.s 0), none⟩,
     ⟨some 2, .mov (.c (.int .i64 0)), none⟩,
     ⟨some 3, .mov (.c (.int .i64 0)), none⟩,
     ⟨some 4, .mov (.c (.int .i64 0)), none⟩])
  (.seq (.seq (.reg false false [
      ⟨some 7, .load (some 2) (.s 1), none⟩,
      ⟨some 8, .call 13 [(.s 7)], none⟩,
      ⟨some 4, .mov (.s 8), none⟩])
   (.seq (.reg false false [
      ⟨some 9, .mov (.s 4), none⟩,
      ⟨some 10, .bin .neq (.s 9) (.c (.int .i64 0)), none⟩])
   (.cond (.s 10)
     (.seq (.reg false false [
         ⟨some 11, .mov (.s 4), none⟩,
         ⟨some 2, .mov (.c (.int .i64 0)), none⟩,
         ⟨some 3, .mov (.c (.int .i64 0)), none⟩,
         ⟨some 4, .mov (.s 11), none⟩])
      (.ret))
     (.skip))))
  (.seq (.seq (.reg false false [
      ⟨some 12, .fld 1 (.s 1), none⟩,
      ⟨some 13, .load none (.s 12), none⟩,
      ⟨some 14, .len (.s 13), none⟩,
      ⟨some 15, .mov (.c (.int .i64 0)), none⟩])
   (.block 0 (.loop (.seq (.reg false false [
        ⟨some 16, .bin .lss (.s 15) (.s 14), none⟩])
     (.seq (.cond (.s 16)
        (.skip)
        (.exit 0))
     (.seq (.block 1 (.seq (.reg false false [
          ⟨some 17, .idxS 5 (.s 13) (.s 15), none⟩,
          ⟨some 18, .load (some 5) (.s 17), none⟩,
          ⟨some 6, .alloc [(.int .i64 0), (.int .i64 0), (.int .i64 0), (.int .i64 0), (.slice none 0 0)], none⟩,
          ⟨none, .store 5 (.s 6) (.s 18), none⟩])
       (.reg false false [
         ⟨some 19, .mov (.s 3), none⟩,
         ⟨some 20, .fld 4 (.s 6), none⟩,
         ⟨some 21, .load none (.s 20), none⟩,
         ⟨some 22, .len (.s 21), none⟩,
         ⟨some 23, .bin .add (.s 19) (.s 22), none⟩,
         ⟨some 3, .mov (.s 23), none⟩])))
     (.reg false false [
       ⟨some 24, .bin .add (.s 15) (.c (.int .i64 1)), none⟩,
       ⟨some 15, .mov (.s 24), none⟩])))))))
  (.seq (.reg false false [
     ⟨some 25, .fld 1 (.s 1), none⟩,
     ⟨some 26, .load none (.s 25), none⟩,
     ⟨some 27, .len (.s 26), none⟩,
     ⟨some 28, .mov (.s 3), none⟩,
     ⟨some 2, .mov (.s 27), none⟩,
     ⟨some 3, .mov (.s 28), none⟩,
     ⟨some 4, .mov (.c (.int .i64 0)), none⟩])
  (.ret)))),
  [.tmp 2, .tmp 3, .tmp 4], true⟩
theorem fn15_ok : FnOk Try.prog 15 fn15 := by unfold FnOk; kernel_rfl
/-- haruspex/circuit.Eval -/
def fn20 : Mx.Fn := ⟨36,
  .seq (.reg false false [
     ⟨some 2, .box (.s 0), none⟩,
     ⟨some 4, .mov (.c (.int .i64 0)), none⟩,
     ⟨some 5, .mov (.c (.int .i64 0)), none⟩])
  (.seq (.reg false false [
     ⟨some 10, .load (some 2) (.s 2), none⟩,
     ⟨some 11, .mov (.s 1), none⟩,
     ⟨some 12, .call 49 [(.s 10), (.s 11)], none⟩,
     ⟨some 9, .mov (.s 12), none⟩,
     ⟨some 13, .ext (.s 9) 0, none⟩,
     ⟨some 14, .ext (.s 9) 1, none⟩,
     ⟨some 6, .mov (.s 13), none⟩,
     ⟨some 7, .mov (.s 14), none⟩])
  (.seq (.seq (.reg false false [
      ⟨some 15, .mov (.s 7), none⟩,
      ⟨some 16, .bin .neq (.s 15) (.c (.int .i64 0)), none⟩])
   (.cond (.s 16)
     (.seq (.reg false false [
         ⟨some 17, .mov (.s 7), none⟩,
         ⟨some 4, .mov (.c (.int .i64 0)), none⟩,
         ⟨some 5, .mov (.s 17), none⟩])
      (.ret))
     (.skip)))
  (.seq (.seq (.reg false false [
      ⟨some 18, .mov (.s 6), none⟩,
      ⟨some 19, .clo 51 [(.s 18)] [], none⟩,
      ⟨some 20, .call 50 [(.s 19)], none⟩,
      ⟨some 8, .mov (.s 20), none⟩])
   (.seq (.reg false false [
      ⟨some 21, .mov (.s 8), none⟩,
      ⟨some 22, .bin .neq (.s 21) (.c (.int .i64 0)), none⟩])
   (.cond (.s 22)
     (.seq (.reg false false [
         ⟨some 23, .mov (.s 8), none⟩,
         ⟨some 4, .mov (.c (.int .i64 0)), none⟩,
         ⟨some 5, .mov (.s 23), none⟩])
      (.ret))
     (.skip))))
  (.seq (.reg true false [
     ⟨some 24, .mov (.s 6), none⟩,
     ⟨some 25, .nilck (.s 24), none⟩,
     ⟨some 26, .fld 3 (.s 25), none⟩,
     ⟨some 27, .load none (.s 26), none⟩,
     ⟨some 28, .mov (.s 6), none⟩,
     ⟨some 29, .nilck (.s 28), none⟩,
     ⟨some 30, .fld 3 (.s 29), none⟩,
     ⟨some 31, .load none (.s 30), none⟩,
     ⟨some 32, .len (.s 31), none⟩,
     ⟨some 33, .bin .sub (.s 32) (.c (.int .i64 1)), none⟩,
     ⟨some 34, .idxS 1 (.s 27) (.s 33), none⟩,
     ⟨some 35, .load none (.s 34), none⟩,
     ⟨some 4, .mov (.s 35), none⟩,
     ⟨some 5, .mov (.c (.int .i64 0)), none⟩])
  (.ret))))),
  [.tmp 4, .tmp 5], true⟩
theorem fn20_ok : FnOk Try.prog 20 fn20 := by unfold FnOk; kernel_rfl
/-- haruspex/circuit.Derive -/
def fn22 : Mx.Fn := ⟨25,
  .seq (.reg false false [
     ⟨some 2, .box (.s 0), none⟩,
     ⟨some 4, .mov (.c (.slice none 0 0)), none⟩,
     ⟨some 5, .mov (.c (.int .i64 0)), none⟩])
  (.seq (.reg false false [
     ⟨some 11, .load (some 2) (.s 2), none⟩,
     ⟨some 12, .mov (.s 1), none⟩,
     ⟨some 13, .call 49 [(.s 11), (.s 12)], none⟩,
     ⟨some 10, .mov (.s 13), none⟩,
     ⟨some 14, .ext (.s 10) 0, none⟩,
     ⟨some 15, .ext (.s 10) 1, none⟩,
     ⟨some 6, .alloc [(.pointer none)], none⟩,
     ⟨none, .store 1 (.s 6) (.s 14), none⟩,
     ⟨some 7, .mov (.s 15), none⟩])
  (.seq (.seq (.reg false false [
      ⟨some 16, .mov (.s 7), none⟩,
      ⟨some 17, .bin .neq (.s 16) (.c (.int .i64 0)), none⟩])
   (.cond (.s 17)
     (.seq (.reg false false [
         ⟨some 18, .mov (.s 7), none⟩,
         ⟨some 4, .mov (.c (.slice none 0 0)), none⟩,
         ⟨some 5, .mov (.s 18), none⟩])
      (.ret))
     (.skip)))
  (.seq (.reg false false [
     ⟨some 8, .alloc [(.slice none 0 0)], none⟩])
  (.seq (.seq (.reg false false [
      ⟨some 19, .clo 54 [] [(.s 6), (.s 8)], none⟩,
      ⟨some 20, .call 50 [(.s 19)], none⟩,
      ⟨some 9, .mov (.s 20), none⟩])
   (.seq (.reg false false [
      ⟨some 21, .mov (.s 9), none⟩,
      ⟨some 22, .bin .neq (.s 21) (.c (.int .i64 0)), none⟩])
   (.cond (.s 22)
     (.seq (.reg false false [
         ⟨some 23, .mov (.s 9), none⟩,
         ⟨some 4, .mov (.c (.slice none 0 0)), none⟩,
         ⟨some 5, .mov (.s 23), none⟩])
      (.ret))
     (.skip))))
  (.seq (.reg false false [
     ⟨some 24, .load none (.s 8), none⟩,
     ⟨some 4, .mov (.s 24), none⟩,
     ⟨some 5, .mov (.c (.int .i64 0)), none⟩])
  (.ret)))))),
  [.tmp 4, .tmp 5], false⟩
theorem fn22_ok : FnOk Try.prog 22 fn22 := by unfold FnOk; kernel_rfl
/-- haruspex/haruspexref15.SameTable -/
def fn24 : Mx.Fn := ⟨27,
  .seq (.reg false false [
     ⟨some 4, .mov (.c (.bool false)), none⟩])
  (.seq (.seq (.reg false false [
      ⟨some 6, .mov (.s 0), none⟩,
      ⟨some 7, .len (.s 6), none⟩,
      ⟨some 8, .mov (.s 1), none⟩,
      ⟨some 9, .len (.s 8), none⟩,
      ⟨some 10, .bin .neq (.s 7) (.s 9), none⟩])
   (.cond (.s 10)
     (.seq (.reg false false [
         ⟨some 4, .mov (.c (.bool false)), none⟩])
      (.ret))
     (.skip)))
  (.seq (.seq (.reg false false [
      ⟨some 5, .mov (.c (.int .i64 0)), none⟩])
   (.block 0 (.loop (.seq (.seq (.reg false false [
         ⟨some 11, .mov (.s 5), none⟩,
         ⟨some 12, .mov (.s 0), none⟩,
         ⟨some 13, .len (.s 12), none⟩,
         ⟨some 14, .bin .lss (.s 11) (.s 13), none⟩])
      (.cond (.s 14)
        (.skip)
        (.exit 0)))
     (.seq (.block 1 (.seq (.reg true false [
          ⟨some 17, .mov (.s 0), none⟩,
          ⟨some 18, .mov (.s 5), none⟩,
          ⟨some 19, .idxS 1 (.s 17) (.s 18), none⟩,
          ⟨some 20, .load none (.s 19), none⟩,
          ⟨some 21, .mov (.s 1), none⟩,
          ⟨some 22, .mov (.s 5), none⟩,
          ⟨some 23, .idxS 1 (.s 21) (.s 22), none⟩,
          ⟨some 24, .load none (.s 23), none⟩,
          ⟨some 25, .call 58 [(.s 20), (.s 24)], none⟩,
          ⟨some 26, .un .not (.s 25), none⟩])
       (.cond (.s 26)
         (.seq (.reg false false [
             ⟨some 4, .mov (.c (.bool false)), none⟩])
          (.ret))
         (.skip))))
     (.reg false false [
       ⟨some 15, .mov (.s 5), none⟩,
       ⟨some 16, .bin .add (.s 15) (.c (.int .i64 1)), none⟩,
       ⟨some 5, .mov (.s 16), none⟩]))))))
  (.seq (.reg false false [
     ⟨some 4, .mov (.c (.bool true)), none⟩])
  (.ret)))),
  [.tmp 4], true⟩
theorem fn24_ok : FnOk Try.prog 24 fn24 := by unfold FnOk; kernel_rfl
/-- haruspex/haruspexlaw15.sample -/
def fn28 : Mx.Fn := ⟨14,
  .seq (.reg false false [
     ⟨some 0, .alloc [(.slice none 0 0), (.slice none 0 0)], none⟩])
  (.seq (.reg false false [
     ⟨some 1, .bsl 1 1 [(.int .i64 0)] [(0, (.c (.int .i64 2)))], none⟩,
     ⟨some 2, .call 32 [(.c (.int .i64 0)), (.c (.int .i64 0))], none⟩,
     ⟨some 3, .call 32 [(.c (.int .i64 0)), (.c (.int .i64 1))], none⟩,
     ⟨some 4, .call 30 [(.c (.int .i64 3))], none⟩,
     ⟨some 5, .call 30 [(.c (.int .i64 5))], none⟩,
     ⟨some 6, .bsl 1 2 [(.int .i64 0)] [(0, (.c (.int .i64 0))), (1, (.c (.int .i64 2)))], none⟩,
     ⟨some 7, .call 31 [(.s 6)], none⟩,
     ⟨some 8, .bsl 1 2 [(.int .i64 0)] [(0, (.c (.int .i64 1))), (1, (.c (.int .i64 3)))], none⟩,
     ⟨some 9, .call 31 [(.s 8)], none⟩,
     ⟨some 10, .bsl 1 2 [(.int .i64 0)] [(0, (.c (.int .i64 4))), (1, (.c (.int .i64 5)))], none⟩,
     ⟨some 11, .call 29 [(.s 10)], none⟩,
     ⟨some 12, .bsl 5 7 [(.int .i64 0), (.int .i64 0), (.int .i64 0), (.int .i64 0), (.slice none 0 0)] [(0, (.s 2)), (1, (.s 3)), (2, (.s 4)), (3, (.s 5)), (4, (.s 7)), (5, (.s 9)), (6, (.s 11))], none⟩,
     ⟨some 13, .build [(.slice none 0 0), (.slice none 0 0)] [(0, 1, (.s 1)), (1, 1, (.s 12))], none⟩,
     ⟨none, .store 2 (.s 0) (.s 13), none⟩])
  (.ret)),
  [.cell 0 (some 2)], false⟩
theorem fn28_ok : FnOk Try.prog 28 fn28 := by unfold FnOk; kernel_rfl
/-- haruspex/haruspexlaw15.sum -/
def fn29 : Mx.Fn := ⟨5,
  .seq (.reg false false [
     ⟨some 2, .alloc [(.int .i64 0), (.int .i64 0), (.int .i64 0), (.int .i64 0), (.slice none 0 0)], none⟩])
  (.seq (.reg false false [
     ⟨some 3, .mov (.s 0), none⟩,
     ⟨some 4, .build [(.int .i64 0), (.int .i64 0), (.int .i64 0), (.int .i64 0), (.slice none 0 0)] [(0, 1, (.c (.int .i64 3))), (4, 1, (.s 3))], none⟩,
     ⟨none, .store 5 (.s 2) (.s 4), none⟩])
  (.ret)),
  [.cell 2 (some 5)], false⟩
theorem fn29_ok : FnOk Try.prog 29 fn29 := by unfold FnOk; kernel_rfl
/-- haruspex/haruspexlaw15.number -/
def fn30 : Mx.Fn := ⟨5,
  .seq (.reg false false [
     ⟨some 2, .alloc [(.int .i64 0), (.int .i64 0), (.int .i64 0), (.int .i64 0), (.slice none 0 0)], none⟩])
  (.seq (.reg false false [
     ⟨some 3, .mov (.s 0), none⟩,
     ⟨some 4, .build [(.int .i64 0), (.int .i64 0), (.int .i64 0), (.int .i64 0), (.slice none 0 0)] [(0, 1, (.c (.int .i64 1))), (3, 1, (.s 3))], none⟩,
     ⟨none, .store 5 (.s 2) (.s 4), none⟩])
  (.ret)),
  [.cell 2 (some 5)], false⟩
theorem fn30_ok : FnOk Try.prog 30 fn30 := by unfold FnOk; kernel_rfl
/-- haruspex/haruspexlaw15.product -/
def fn31 : Mx.Fn := ⟨5,
  .seq (.reg false false [
     ⟨some 2, .alloc [(.int .i64 0), (.int .i64 0), (.int .i64 0), (.int .i64 0), (.slice none 0 0)], none⟩])
  (.seq (.reg false false [
     ⟨some 3, .mov (.s 0), none⟩,
     ⟨some 4, .build [(.int .i64 0), (.int .i64 0), (.int .i64 0), (.int .i64 0), (.slice none 0 0)] [(0, 1, (.c (.int .i64 4))), (4, 1, (.s 3))], none⟩,
     ⟨none, .store 5 (.s 2) (.s 4), none⟩])
  (.ret)),
  [.cell 2 (some 5)], false⟩
theorem fn31_ok : FnOk Try.prog 31 fn31 := by unfold FnOk; kernel_rfl
/-- haruspex/haruspexlaw15.is -/
def fn32 : Mx.Fn := ⟨8,
  .seq (.reg false false [
     ⟨some 4, .alloc [(.int .i64 0), (.int .i64 0), (.int .i64 0), (.int .i64 0), (.slice none 0 0)], none⟩])
  (.seq (.reg false false [
     ⟨some 5, .mov (.s 0), none⟩,
     ⟨some 6, .mov (.s 1), none⟩,
     ⟨some 7, .build [(.int .i64 0), (.int .i64 0), (.int .i64 0), (.int .i64 0), (.slice none 0 0)] [(0, 1, (.c (.int .i64 2))), (1, 1, (.s 5)), (2, 1, (.s 6))], none⟩,
     ⟨none, .store 5 (.s 4) (.s 7), none⟩])
  (.ret)),
  [.cell 4 (some 5)], false⟩
theorem fn32_ok : FnOk Try.prog 32 fn32 := by unfold FnOk; kernel_rfl
/-- slices.Repeat[[]haruspex/api.Gate,haruspex/api.Gate] -/
def fn33 : Mx.Fn := ⟨48,
  .seq (.reg false false [
     ⟨some 4, .mov (.c (.slice none 0 0)), none⟩])
  (.seq (.seq (.reg false false [
      ⟨some 9, .mov (.s 1), none⟩,
      ⟨some 10, .bin .lss (.s 9) (.c (.int .i64 0)), none⟩])
   (.cond (.s 10)
     (.reg false false [
        ⟨some 11, .bad, none⟩,
        ⟨none, .panic (.s 11), none⟩])
     (.skip)))
  (.seq (.reg false false [
     ⟨some 13, .mov (.s 0), none⟩,
     ⟨some 14, .len (.s 13), none⟩,
     ⟨some 15, .conv .u64 (.s 14), none⟩,
     ⟨some 16, .mov (.s 1), none⟩,
     ⟨some 17, .conv .u64 (.s 16), none⟩,
     ⟨some 18, .call 59 [(.s 15), (.s 17)], none⟩,
     ⟨some 12, .mov (.s 18), none⟩,
     ⟨some 19, .ext (.s 12) 0, none⟩,
     ⟨some 20, .ext (.s 12) 1, none⟩,
     ⟨some 5, .mov (.s 19), none⟩,
     ⟨some 6, .mov (.s 20), none⟩])
  (.seq (.seq (.reg false false [
      ⟨some 21, .mov (.s 5), none⟩,
      ⟨some 22, .bin .gtr (.s 21) (.c (.int .u64 0)), none⟩,
      ⟨some 23, .mov (.s 22), none⟩,
      ⟨some 24, .mov (.s 6), some (23, false)⟩,
      ⟨some 25, .bin .gtr (.s 24) (.c (.int .u64 9223372036854775807)), some (23, false)⟩,
      ⟨some 26, .pick (.s 23) (.c (.bool true)) (.s 25), none⟩])
   (.cond (.s 26)
     (.reg false false [
        ⟨some 27, .bad, none⟩,
        ⟨none, .panic (.s 27), none⟩])
     (.skip)))
  (.seq (.reg false false [
     ⟨some 28, .mov (.s 6), none⟩,
     ⟨some 29, .conv .i64 (.s 28), none⟩,
     ⟨some 30, .mk 5 56 [(.int .i64 0), (.int .i64 0), (.int .i64 0), (.int .i64 0), (.slice none 0 0)] (.s 29) (.s 29), none⟩,
     ⟨some 7, .mov (.s 30), none⟩])
  (.seq (.reg false false [
     ⟨some 31, .mov (.s 7), none⟩,
     ⟨some 32, .mov (.s 0), none⟩,
     ⟨some 33, .copy 5 (.s 31) (.s 32), none⟩,
     ⟨some 8, .mov (.s 33), none⟩])
  (.seq (.block 0 (.loop (.seq (.seq (.reg false false [
         ⟨some 34, .mov (.s 8), none⟩,
         ⟨some 35, .mov (.s 7), none⟩,
         ⟨some 36, .len (.s 35), none⟩,
         ⟨some 37, .bin .lss (.s 34) (.s 36), none⟩])
      (.cond (.s 37)
        (.skip)
        (.exit 0)))
     (.block 1 (.reg true false [
        ⟨some 38, .mov (.s 8), none⟩,
        ⟨some 39, .mov (.s 7), none⟩,
        ⟨some 40, .mov (.s 8), none⟩,
        ⟨some 41, .slc 5 (.s 39) (some (.s 40)) none none, none⟩,
        ⟨some 42, .mov (.s 7), none⟩,
        ⟨some 43, .mov (.s 8), none⟩,
        ⟨some 44, .slc 5 (.s 42) none (some (.s 43)) none, none⟩,
        ⟨some 45, .copy 5 (.s 41) (.s 44), none⟩,
        ⟨some 46, .bin .add (.s 38) (.s 45), none⟩,
        ⟨some 8, .mov (.s 46), none⟩])))))
  (.seq (.reg false false [
     ⟨some 47, .mov (.s 7), none⟩,
     ⟨some 4, .mov (.s 47), none⟩])
  (.ret)))))))),
  [.tmp 4], false⟩
theorem fn33_ok : FnOk Try.prog 33 fn33 := by unfold FnOk; kernel_rfl
/-- haruspex/haruspexlaw15.value -/
def fn34 : Mx.Fn := ⟨22,
  .seq (.reg false false [
     ⟨some 3, .box (.s 0), none⟩,
     ⟨some 6, .mov (.c (.bool false)), none⟩])
  (.seq (.reg false false [
     ⟨some 10, .load (some 2) (.s 3), none⟩,
     ⟨some 11, .mov (.s 2), none⟩,
     ⟨some 12, .call 20 [(.s 10), (.s 11)], none⟩,
     ⟨some 9, .mov (.s 12), none⟩,
     ⟨some 13, .ext (.s 9) 0, none⟩,
     ⟨some 14, .ext (.s 9) 1, none⟩,
     ⟨some 7, .mov (.s 13), none⟩,
     ⟨some 8, .mov (.s 14), none⟩])
  (.seq (.reg false false [
     ⟨some 15, .mov (.s 8), none⟩,
     ⟨some 16, .bin .eql (.s 15) (.c (.int .i64 0)), none⟩,
     ⟨some 17, .mov (.s 16), none⟩,
     ⟨some 18, .mov (.s 7), some (17, true)⟩,
     ⟨some 19, .mov (.s 1), some (17, true)⟩,
     ⟨some 20, .bin .eql (.s 18) (.s 19), some (17, true)⟩,
     ⟨some 21, .pick (.s 17) (.s 20) (.c (.bool false)), none⟩,
     ⟨some 6, .mov (.s 21), none⟩])
  (.ret))),
  [.tmp 6], true⟩
theorem fn34_ok : FnOk Try.prog 34 fn34 := by unfold FnOk; kernel_rfl
/-- haruspex/circuit.validGate -/
def fn42 : Mx.Fn := ⟨117,
  .seq (.reg false false [
     ⟨some 3, .box (.s 0), none⟩,
     ⟨some 5, .box (.s 2), none⟩,
     ⟨some 6, .mov (.c (.bool false)), none⟩])
  (.seq (.seq (.reg false false [
      ⟨some 10, .fld 0 (.s 5), none⟩,
      ⟨some 11, .load none (.s 10), none⟩])
   (.block 0 (.seq (.reg false false [
       ⟨some 13, .bin .eql (.s 11) (.c (.int .i64 1)), none⟩,
       ⟨some 12, .mov (.s 13), none⟩])
    (.cond (.s 12)
      (.seq (.reg false false [
          ⟨some 14, .fld 3 (.s 5), none⟩,
          ⟨some 15, .load none (.s 14), none⟩,
          ⟨some 16, .bin .geq (.s 15) (.c (.int .i64 0)), none⟩,
          ⟨some 17, .mov (.s 16), none⟩,
          ⟨some 18, .fld 3 (.s 5), some (17, true)⟩,
          ⟨some 19, .load none (.s 18), some (17, true)⟩,
          ⟨some 20, .bin .leq (.s 19) (.c (.int .i64 4611686018427387903)), some (17, true)⟩,
          ⟨some 21, .pick (.s 17) (.s 20) (.c (.bool false)), none⟩,
          ⟨some 22, .mov (.s 21), none⟩,
          ⟨some 23, .fld 1 (.s 5), some (22, true)⟩,
          ⟨some 24, .load none (.s 23), some (22, true)⟩,
          ⟨some 25, .bin .eql (.s 24) (.c (.int .i64 0)), some (22, true)⟩,
          ⟨some 26, .pick (.s 22) (.s 25) (.c (.bool false)), none⟩,
          ⟨some 27, .mov (.s 26), none⟩,
          ⟨some 28, .fld 2 (.s 5), some (27, true)⟩,
          ⟨some 29, .load none (.s 28), some (27, true)⟩,
          ⟨some 30, .bin .eql (.s 29) (.c (.int .i64 0)), some (27, true)⟩,
          ⟨some 31, .pick (.s 27) (.s 30) (.c (.bool false)), none⟩,
          ⟨some 32, .mov (.s 31), none⟩,
          ⟨some 33, .fld 4 (.s 5), some (32, true)⟩,
          ⟨some 34, .load none (.s 33), some (32, true)⟩,
          ⟨some 35, .len (.s 34), some (32, true)⟩,
          ⟨some 36, .bin .eql (.s 35) (.c (.int .i64 0)), some (32, true)⟩,
          ⟨some 37, .pick (.s 32) (.s 36) (.c (.bool false)), none⟩,
          ⟨some 6, .mov (.s 37), none⟩])
       (.ret))
      (.seq (.reg false false [
          ⟨some 39, .bin .eql (.s 11) (.c (.int .i64 2)), none⟩,
          ⟨some 38, .mov (.s 39), none⟩])
       (.cond (.s 38)
         (.seq (.reg true false [
             ⟨some 40, .fld 1 (.s 5), none⟩,
             ⟨some 41, .load none (.s 40), none⟩,
             ⟨some 42, .bin .geq (.s 41) (.c (.int .i64 0)), none⟩,
             ⟨some 43, .mov (.s 42), none⟩,
             ⟨some 44, .fld 1 (.s 5), some (43, true)⟩,
             ⟨some 45, .load none (.s 44), some (43, true)⟩,
             ⟨some 46, .fld 0 (.s 3), some (43, true)⟩,
             ⟨some 47, .load none (.s 46), some (43, true)⟩,
             ⟨some 48, .len (.s 47), some (43, true)⟩,
             ⟨some 49, .bin .lss (.s 45) (.s 48), some (43, true)⟩,
             ⟨some 50, .pick (.s 43) (.s 49) (.c (.bool false)), none⟩,
             ⟨some 51, .mov (.s 50), none⟩,
             ⟨some 52, .fld 2 (.s 5), some (51, true)⟩,
             ⟨some 53, .load none (.s 52), some (51, true)⟩,
             ⟨some 54, .bin .geq (.s 53) (.c (.int .i64 0)), some (51, true)⟩,
             ⟨some 55, .pick (.s 51) (.s 54) (.c (.bool false)), none⟩,
             ⟨some 56, .mov (.s 55), none⟩,
             ⟨some 57, .fld 2 (.s 5), some (56, true)⟩,
             ⟨some 58, .load none (.s 57), some (56, true)⟩,
             ⟨some 59, .fld 0 (.s 3), some (56, true)⟩,
             ⟨some 60, .load none (.s 59), some (56, true)⟩,
             ⟨some 61, .fld 1 (.s 5), some (56, true)⟩,
             ⟨some 62, .load none (.s 61), some (56, true)⟩,
             ⟨some 63, .idxS 1 (.s 60) (.s 62), some (56, true)⟩,
             ⟨some 64, .load none (.s 63), some (56, true)⟩,
             ⟨some 65, .bin .lss (.s 58) (.s 64), some (56, true)⟩,
             ⟨some 66, .pick (.s 56) (.s 65) (.c (.bool false)), none⟩,
             ⟨some 67, .mov (.s 66), none⟩,
             ⟨some 68, .fld 3 (.s 5), some (67, true)⟩,
             ⟨some 69, .load none (.s 68), some (67, true)⟩,
             ⟨some 70, .bin .eql (.s 69) (.c (.int .i64 0)), some (67, true)⟩,
             ⟨some 71, .pick (.s 67) (.s 70) (.c (.bool false)), none⟩,
             ⟨some 72, .mov (.s 71), none⟩,
             ⟨some 73, .fld 4 (.s 5), some (72, true)⟩,
             ⟨some 74, .load none (.s 73), some (72, true)⟩,
             ⟨some 75, .len (.s 74), some (72, true)⟩,
             ⟨some 76, .bin .eql (.s 75) (.c (.int .i64 0)), some (72, true)⟩,
             ⟨some 77, .pick (.s 72) (.s 76) (.c (.bool false)), none⟩,
             ⟨some 6, .mov (.s 77), none⟩])
          (.ret))
         (.seq (.seq (.reg false false [
              ⟨some 79, .bin .eql (.s 11) (.c (.int .i64 3)), none⟩,
              ⟨some 78, .mov (.s 79), none⟩])
           (.cond (.s 78)
             (.skip)
             (.reg false false [
                ⟨some 80, .bin .eql (.s 11) (.c (.int .i64 4)), none⟩,
                ⟨some 78, .mov (.s 80), none⟩])))
          (.cond (.s 78)
            (.seq (.seq (.reg false false [
                 ⟨some 81, .fld 1 (.s 5), none⟩,
                 ⟨some 82, .load none (.s 81), none⟩,
                 ⟨some 83, .bin .neq (.s 82) (.c (.int .i64 0)), none⟩,
                 ⟨some 84, .mov (.s 83), none⟩,
                 ⟨some 85, .fld 2 (.s 5), some (84, false)⟩,
                 ⟨some 86, .load none (.s 85), some (84, false)⟩,
                 ⟨some 87, .bin .neq (.s 86) (.c (.int .i64 0)), some (84, false)⟩,
                 ⟨some 88, .pick (.s 84) (.c (.bool true)) (.s 87), none⟩,
                 ⟨some 89, .mov (.s 88), none⟩,
                 ⟨some 90, .fld 3 (.s 5), some (89, false)⟩,
                 ⟨some 91, .load none (.s 90), some (89, false)⟩,
                 ⟨some 92, .bin .neq (.s 91) (.c (.int .i64 0)), some (89, false)⟩,
                 ⟨some 93, .pick (.s 89) (.c (.bool true)) (.s 92), none⟩,
                 ⟨some 94, .mov (.s 93), none⟩,
                 ⟨some 95, .fld 4 (.s 5), some (94, false)⟩,
                 ⟨some 96, .load none (.s 95), some (94, false)⟩,
                 ⟨some 97, .len (.s 96), some (94, false)⟩,
                 ⟨some 98, .bin .eql (.s 97) (.c (.int .i64 0)), some (94, false)⟩,
                 ⟨some 99, .pick (.s 94) (.c (.bool true)) (.s 98), none⟩])
              (.cond (.s 99)
                (.seq (.reg false false [
                    ⟨some 6, .mov (.c (.bool false)), none⟩])
                 (.ret))
                (.skip)))
             (.seq (.reg false false [
                ⟨some 7, .mov (.c (.int .i64 (-1))), none⟩])
             (.seq (.seq (.reg false false [
                 ⟨some 100, .fld 4 (.s 5), none⟩,
                 ⟨some 101, .load none (.s 100), none⟩,
                 ⟨some 102, .len (.s 101), none⟩,
                 ⟨some 103, .mov (.c (.int .i64 0)), none⟩])
              (.block 1 (.loop (.seq (.reg false false [
                   ⟨some 104, .bin .lss (.s 103) (.s 102), none⟩])
                (.seq (.cond (.s 104)
                   (.skip)
                   (.exit 1))
                (.seq (.block 2 (.seq (.reg false false [
                     ⟨some 105, .idxS 1 (.s 101) (.s 103), none⟩,
                     ⟨some 106, .load none (.s 105), none⟩,
                     ⟨some 9, .mov (.s 106), none⟩])
                  (.seq (.seq (.reg false false [
                      ⟨some 107, .mov (.s 9), none⟩,
                      ⟨some 108, .mov (.s 7), none⟩,
                      ⟨some 109, .bin .leq (.s 107) (.s 108), none⟩,
                      ⟨some 110, .mov (.s 109), none⟩,
                      ⟨some 111, .mov (.s 9), some (110, false)⟩,
                      ⟨some 112, .mov (.s 1), some (110, false)⟩,
                      ⟨some 113, .bin .geq (.s 111) (.s 112), some (110, false)⟩,
                      ⟨some 114, .pick (.s 110) (.c (.bool true)) (.s 113), none⟩])
                   (.cond (.s 114)
                     (.seq (.reg false false [
                         ⟨some 6, .mov (.c (.bool false)), none⟩])
                      (.ret))
                     (.skip)))
                  (.reg false false [
                    ⟨some 115, .mov (.s 9), none⟩,
                    ⟨some 7, .mov (.s 115), none⟩]))))
                (.reg false false [
                  ⟨some 116, .bin .add (.s 103) (.c (.int .i64 1)), none⟩,
                  ⟨some 103, .mov (.s 116), none⟩])))))))
             (.seq (.reg false false [
                ⟨some 6, .mov (.c (.bool true)), none⟩])
             (.ret)))))
            (.skip)))))))))
  (.seq (.reg false false [
     ⟨some 6, .mov (.c (.bool false)), none⟩])
  (.ret))),
  [.tmp 6], true⟩
theorem fn42_ok : FnOk Try.prog 42 fn42 := by unfold FnOk; kernel_rfl
/-- haruspex/circuit.variables -/
def fn43 : Mx.Fn := ⟨52,
  .seq (.reg false false [
     ⟨some 1, .box (.s 0), none⟩,
     ⟨some 2, .mov (.c (.slice none 0 0)), none⟩])
  (.seq (.reg false false [
     ⟨some 8, .fld 1 (.s 1), none⟩,
     ⟨some 9, .load none (.s 8), none⟩,
     ⟨some 10, .len (.s 9), none⟩,
     ⟨some 11, .mk 1 8 [(.int .u64 0)] (.s 10) (.s 10), none⟩,
     ⟨some 3, .mov (.s 11), none⟩])
  (.seq (.seq (.reg false false [
      ⟨some 12, .fld 1 (.s 1), none⟩,
      ⟨some 13, .load none (.s 12), none⟩,
      ⟨some 14, .len (.s 13), none⟩,
      ⟨some 15, .mov (.c (.int .i64 0)), none⟩])
   (.block 0 (.loop (.seq (.reg false false [
        ⟨some 16, .bin .lss (.s 15) (.s 14), none⟩])
     (.seq (.cond (.s 16)
        (.skip)
        (.exit 0))
     (.seq (.block 1 (.seq (.reg false false [
          ⟨some 17, .mov (.s 15), none⟩,
          ⟨some 18, .idxS 5 (.s 13) (.s 15), none⟩,
          ⟨some 19, .load (some 5) (.s 18), none⟩,
          ⟨some 5, .alloc [(.int .i64 0), (.int .i64 0), (.int .i64 0), (.int .i64 0), (.slice none 0 0)], none⟩,
          ⟨some 4, .mov (.s 17), none⟩,
          ⟨none, .store 5 (.s 5) (.s 19), none⟩])
       (.seq (.seq (.reg false false [
           ⟨some 20, .fld 0 (.s 5), none⟩,
           ⟨some 21, .load none (.s 20), none⟩,
           ⟨some 22, .bin .eql (.s 21) (.c (.int .i64 2)), none⟩])
        (.cond (.s 22)
          (.reg false false [
             ⟨some 23, .mov (.s 3), none⟩,
             ⟨some 24, .mov (.s 4), none⟩,
             ⟨some 25, .fld 1 (.s 5), none⟩,
             ⟨some 26, .load none (.s 25), none⟩,
             ⟨some 27, .bin .shl (.c (.int .u64 1)) (.s 26), none⟩,
             ⟨some 28, .idxS 1 (.s 23) (.s 24), none⟩,
             ⟨none, .store 1 (.s 28) (.s 27), none⟩])
          (.skip)))
       (.seq (.reg false false [
          ⟨some 29, .fld 4 (.s 5), none⟩,
          ⟨some 30, .load none (.s 29), none⟩,
          ⟨some 31, .len (.s 30), none⟩,
          ⟨some 32, .mov (.c (.int .i64 0)), none⟩])
       (.block 2 (.loop (.seq (.reg false false [
            ⟨some 33, .bin .lss (.s 32) (.s 31), none⟩])
         (.seq (.cond (.s 33)
            (.skip)
            (.exit 2))
         (.seq (.block 3 (.seq (.reg false false [
              ⟨some 34, .idxS 1 (.s 30) (.s 32), none⟩,
              ⟨some 35, .load none (.s 34), none⟩,
              ⟨some 7, .mov (.s 35), none⟩])
           (.reg true false [
             ⟨some 36, .mov (.s 3), none⟩,
             ⟨some 37, .mov (.s 4), none⟩,
             ⟨some 38, .mov (.s 3), none⟩,
             ⟨some 39, .mov (.s 4), none⟩,
             ⟨some 40, .idxS 1 (.s 38) (.s 39), none⟩,
             ⟨some 41, .load none (.s 40), none⟩,
             ⟨some 42, .mov (.s 3), none⟩,
             ⟨some 43, .mov (.s 7), none⟩,
             ⟨some 44, .idxS 1 (.s 42) (.s 43), none⟩,
             ⟨some 45, .load none (.s 44), none⟩,
             ⟨some 46, .bsl 1 2 [(.int .u64 0)] [(0, (.s 41)), (1, (.s 45))], none⟩,
             ⟨some 47, .call 44 [(.s 46)], none⟩,
             ⟨some 48, .idxS 1 (.s 36) (.s 37), none⟩,
             ⟨none, .store 1 (.s 48) (.s 47), none⟩])))
         (.reg false false [
           ⟨some 49, .bin .add (.s 32) (.c (.int .i64 1)), none⟩,
           ⟨some 32, .mov (.s 49), none⟩]))))))))))
     (.reg false false [
       ⟨some 50, .bin .add (.s 15) (.c (.int .i64 1)), none⟩,
       ⟨some 15, .mov (.s 50), none⟩])))))))
  (.seq (.reg false false [
     ⟨some 51, .mov (.s 3), none⟩,
     ⟨some 2, .mov (.s 51), none⟩])
  (.ret)))),
  [.tmp 2], false⟩
theorem fn43_ok : FnOk Try.prog 43 fn43 := by unfold FnOk; kernel_rfl
/-- haruspex/circuit.join -/
def fn44 : Mx.Fn := ⟨17,
  .seq (.reg false false [
     ⟨some 2, .mov (.c (.int .u64 0)), none⟩])
  (.seq (.reg false false [
     ⟨some 3, .mov (.c (.int .u64 0)), none⟩])
  (.seq (.seq (.reg false false [
      ⟨some 6, .mov (.s 0), none⟩,
      ⟨some 7, .len (.s 6), none⟩,
      ⟨some 8, .mov (.c (.int .i64 0)), none⟩])
   (.block 0 (.loop (.seq (.reg false false [
        ⟨some 9, .bin .lss (.s 8) (.s 7), none⟩])
     (.seq (.cond (.s 9)
        (.skip)
        (.exit 0))
     (.seq (.block 1 (.seq (.reg false false [
          ⟨some 10, .idxS 1 (.s 6) (.s 8), none⟩,
          ⟨some 11, .load none (.s 10), none⟩,
          ⟨some 5, .mov (.s 11), none⟩])
       (.reg false false [
         ⟨some 12, .mov (.s 3), none⟩,
         ⟨some 13, .mov (.s 5), none⟩,
         ⟨some 14, .bin .or (.s 12) (.s 13), none⟩,
         ⟨some 3, .mov (.s 14), none⟩])))
     (.reg false false [
       ⟨some 15, .bin .add (.s 8) (.c (.int .i64 1)), none⟩,
       ⟨some 8, .mov (.s 15), none⟩])))))))
  (.seq (.reg false false [
     ⟨some 16, .mov (.s 3), none⟩,
     ⟨some 2, .mov (.s 16), none⟩])
  (.ret)))),
  [.tmp 2], true⟩
theorem fn44_ok : FnOk Try.prog 44 fn44 := by unfold FnOk; kernel_rfl
/-- haruspex/circuit.nonzero -/
def fn45 : Mx.Fn := ⟨139,
  .seq (.reg false false [
     ⟨some 1, .box (.s 0), none⟩,
     ⟨some 2, .mov (.c (.slice none 0 0)), none⟩,
     ⟨some 3, .mov (.c (.bool false)), none⟩])
  (.seq (.reg false false [
     ⟨some 16, .fld 0 (.s 1), none⟩,
     ⟨some 17, .load none (.s 16), none⟩,
     ⟨some 18, .call 67 [(.s 17)], none⟩,
     ⟨some 4, .mov (.s 18), none⟩])
  (.seq (.reg false false [
     ⟨some 19, .fld 1 (.s 1), none⟩,
     ⟨some 20, .load none (.s 19), none⟩,
     ⟨some 21, .len (.s 20), none⟩,
     ⟨some 22, .mk 16 128 [(.int .u64 0), (.int .u64 0), (.int .u64 0), (.int .u64 0), (.int .u64 0), (.int .u64 0), (.int .u64 0), (.int .u64 0), (.int .u64 0), (.int .u64 0), (.int .u64 0), (.int .u64 0), (.int .u64 0), (.int .u64 0), (.int .u64 0), (.int .u64 0)] (.s 21) (.s 21), none⟩,
     ⟨some 2, .mov (.s 22), none⟩,
     ⟨some 3, .mov (.c (.bool true)), none⟩])
  (.seq (.seq (.reg false false [
      ⟨some 23, .fld 1 (.s 1), none⟩,
      ⟨some 24, .load none (.s 23), none⟩,
      ⟨some 25, .len (.s 24), none⟩,
      ⟨some 26, .mov (.c (.int .i64 0)), none⟩])
   (.block 0 (.loop (.seq (.reg false false [
        ⟨some 27, .bin .lss (.s 26) (.s 25), none⟩])
     (.seq (.cond (.s 27)
        (.skip)
        (.exit 0))
     (.seq (.block 1 (.seq (.reg false false [
          ⟨some 28, .mov (.s 26), none⟩,
          ⟨some 29, .idxS 5 (.s 24) (.s 26), none⟩,
          ⟨some 30, .load (some 5) (.s 29), none⟩,
          ⟨some 6, .alloc [(.int .i64 0), (.int .i64 0), (.int .i64 0), (.int .i64 0), (.slice none 0 0)], none⟩,
          ⟨some 5, .mov (.s 28), none⟩,
          ⟨none, .store 5 (.s 6) (.s 30), none⟩])
       (.seq (.reg false false [
          ⟨some 31, .mov (.s 2), none⟩,
          ⟨some 32, .mov (.s 5), none⟩,
          ⟨some 33, .idxS 16 (.s 31) (.s 32), none⟩,
          ⟨some 7, .mov (.s 33), none⟩])
       (.seq (.block 2 (.seq (.reg false false [
            ⟨some 35, .fld 0 (.s 6), none⟩,
            ⟨some 36, .load none (.s 35), none⟩,
            ⟨some 37, .bin .eql (.s 36) (.c (.int .i64 2)), none⟩,
            ⟨some 34, .mov (.s 37), none⟩])
         (.cond (.s 34)
           (.reg true false [
              ⟨some 38, .mov (.s 7), none⟩,
              ⟨some 39, .mov (.s 4), none⟩,
              ⟨some 40, .fld 1 (.s 6), none⟩,
              ⟨some 41, .load none (.s 40), none⟩,
              ⟨some 42, .idxS 1 (.s 39) (.s 41), none⟩,
              ⟨some 43, .load none (.s 42), none⟩,
              ⟨some 44, .fld 2 (.s 6), none⟩,
              ⟨some 45, .load none (.s 44), none⟩,
              ⟨some 46, .idxS 16 (.s 43) (.s 45), none⟩,
              ⟨some 47, .load (some 16) (.s 46), none⟩,
              ⟨some 48, .nilck (.s 38), none⟩,
              ⟨none, .store 16 (.s 48) (.s 47), none⟩])
           (.seq (.reg false false [
               ⟨some 50, .fld 0 (.s 6), none⟩,
               ⟨some 51, .load none (.s 50), none⟩,
               ⟨some 52, .bin .eql (.s 51) (.c (.int .i64 4)), none⟩,
               ⟨some 53, .mov (.s 52), none⟩,
               ⟨some 54, .fld 0 (.s 6), some (53, false)⟩,
               ⟨some 55, .load none (.s 54), some (53, false)⟩,
               ⟨some 56, .bin .eql (.s 55) (.c (.int .i64 1)), some (53, false)⟩,
               ⟨some 57, .mov (.s 56), some (53, false)⟩,
               ⟨some 58, .fld 3 (.s 6), some (57, true)⟩,
               ⟨some 59, .load none (.s 58), some (57, true)⟩,
               ⟨some 60, .bin .gtr (.s 59) (.c (.int .i64 0)), some (57, true)⟩,
               ⟨some 61, .pick (.s 57) (.s 60) (.c (.bool false)), some (53, false)⟩,
               ⟨some 62, .pick (.s 53) (.c (.bool true)) (.s 61), none⟩,
               ⟨some 49, .mov (.s 62), none⟩])
            (.cond (.s 49)
              (.seq (.reg false false [
                  ⟨some 63, .mov (.s 4), none⟩,
                  ⟨some 64, .idxS 1 (.s 63) (.c (.int .i64 0)), none⟩,
                  ⟨some 65, .load none (.s 64), none⟩,
                  ⟨some 66, .len (.s 65), none⟩,
                  ⟨some 67, .mov (.c (.int .i64 0)), none⟩])
               (.block 3 (.loop (.seq (.reg false false [
                    ⟨some 68, .bin .lss (.s 67) (.s 66), none⟩])
                 (.seq (.cond (.s 68)
                    (.skip)
                    (.exit 3))
                 (.seq (.block 4 (.seq (.reg false false [
                      ⟨some 69, .idxS 16 (.s 65) (.s 67), none⟩,
                      ⟨some 70, .load (some 16) (.s 69), none⟩,
                      ⟨some 9, .alloc [(.int .u64 0), (.int .u64 0), (.int .u64 0), (.int .u64 0), (.int .u64 0), (.int .u64 0), (.int .u64 0), (.int .u64 0), (.int .u64 0), (.int .u64 0), (.int .u64 0), (.int .u64 0), (.int .u64 0), (.int .u64 0), (.int .u64 0), (.int .u64 0)], none⟩,
                      ⟨none, .store 16 (.s 9) (.s 70), none⟩])
                   (.seq (.reg false false [
                      ⟨some 71, .load (some 16) (.s 9), none⟩,
                      ⟨some 72, .mov (.c (.int .i64 0)), none⟩])
                   (.block 5 (.loop (.seq (.reg false false [
                        ⟨some 73, .bin .lss (.s 72) (.c (.int .i64 16)), none⟩])
                     (.seq (.cond (.s 73)
                        (.skip)
                        (.exit 5))
                     (.seq (.block 6 (.seq (.reg false false [
                          ⟨some 74, .mov (.s 72), none⟩,
                          ⟨some 75, .idxV none 16 (.s 71) (.s 72), none⟩,
                          ⟨some 10, .mov (.s 74), none⟩,
                          ⟨some 11, .mov (.s 75), none⟩])
                       (.reg true false [
                         ⟨some 76, .mov (.s 7), none⟩,
                         ⟨some 77, .mov (.s 10), none⟩,
                         ⟨some 78, .nilck (.s 76), none⟩,
                         ⟨some 79, .idxA 1 16 (.s 78) (.s 77), none⟩,
                         ⟨some 80, .load none (.s 79), none⟩,
                         ⟨some 81, .mov (.s 11), none⟩,
                         ⟨some 82, .bin .or (.s 80) (.s 81), none⟩,
                         ⟨some 83, .nilck (.s 76), none⟩,
                         ⟨some 84, .idxA 1 16 (.s 83) (.s 77), none⟩,
                         ⟨none, .store 1 (.s 84) (.s 82), none⟩])))
                     (.reg false false [
                       ⟨some 85, .bin .add (.s 72) (.c (.int .i64 1)), none⟩,
                       ⟨some 72, .mov (.s 85), none⟩])))))))))
                 (.reg false false [
                   ⟨some 86, .bin .add (.s 67) (.c (.int .i64 1)), none⟩,
                   ⟨some 67, .mov (.s 86), none⟩])))))))
              (.skip))))))
       (.seq (.reg false false [
          ⟨some 87, .fld 4 (.s 6), none⟩,
          ⟨some 88, .load none (.s 87), none⟩,
          ⟨some 89, .len (.s 88), none⟩,
          ⟨some 90, .mov (.c (.int .i64 0)), none⟩])
       (.block 7 (.loop (.seq (.reg false false [
            ⟨some 91, .bin .lss (.s 90) (.s 89), none⟩])
         (.seq (.cond (.s 91)
            (.skip)
            (.exit 7))
         (.seq (.block 8 (.seq (.reg false false [
              ⟨some 92, .idxS 1 (.s 88) (.s 90), none⟩,
              ⟨some 93, .load none (.s 92), none⟩,
              ⟨some 13, .mov (.s 93), none⟩])
           (.seq (.reg false false [
              ⟨some 94, .mov (.s 2), none⟩,
              ⟨some 95, .mov (.s 13), none⟩,
              ⟨some 96, .idxS 16 (.s 94) (.s 95), none⟩,
              ⟨some 97, .load (some 16) (.s 96), none⟩,
              ⟨some 98, .mov (.c (.int .i64 0)), none⟩])
           (.block 9 (.loop (.seq (.reg false false [
                ⟨some 99, .bin .lss (.s 98) (.c (.int .i64 16)), none⟩])
             (.seq (.cond (.s 99)
                (.skip)
                (.exit 9))
             (.seq (.block 10 (.seq (.reg false false [
                  ⟨some 100, .mov (.s 98), none⟩,
                  ⟨some 101, .idxV none 16 (.s 97) (.s 98), none⟩,
                  ⟨some 14, .mov (.s 100), none⟩,
                  ⟨some 15, .mov (.s 101), none⟩])
               (.seq (.seq (.reg false false [
                   ⟨some 102, .fld 0 (.s 6), none⟩,
                   ⟨some 103, .load none (.s 102), none⟩,
                   ⟨some 104, .bin .eql (.s 103) (.c (.int .i64 4)), none⟩])
                (.cond (.s 104)
                  (.seq (.reg true false [
                      ⟨some 105, .mov (.s 7), none⟩,
                      ⟨some 106, .mov (.s 14), none⟩,
                      ⟨some 107, .nilck (.s 105), none⟩,
                      ⟨some 108, .idxA 1 16 (.s 107) (.s 106), none⟩,
                      ⟨some 109, .load none (.s 108), none⟩,
                      ⟨some 110, .mov (.s 15), none⟩,
                      ⟨some 111, .bin .and (.s 109) (.s 110), none⟩,
                      ⟨some 112, .nilck (.s 105), none⟩,
                      ⟨some 113, .idxA 1 16 (.s 112) (.s 106), none⟩,
                      ⟨none, .store 1 (.s 113) (.s 111), none⟩])
                   (.exit 10))
                  (.skip)))
               (.seq (.reg false false [
                  ⟨some 114, .mov (.s 3), none⟩,
                  ⟨some 115, .mov (.s 114), none⟩,
                  ⟨some 116, .mov (.s 7), some (115, true)⟩,
                  ⟨some 117, .mov (.s 14), some (115, true)⟩,
                  ⟨some 118, .nilck (.s 116), some (115, true)⟩,
                  ⟨some 119, .idxA 1 16 (.s 118) (.s 117), some (115, true)⟩,
                  ⟨some 120, .load none (.s 119), some (115, true)⟩,
                  ⟨some 121, .mov (.s 15), some (115, true)⟩,
                  ⟨some 122, .bin .and (.s 120) (.s 121), some (115, true)⟩,
                  ⟨some 123, .bin .eql (.s 122) (.c (.int .u64 0)), some (115, true)⟩,
                  ⟨some 124, .pick (.s 115) (.s 123) (.c (.bool false)), none⟩,
                  ⟨some 3, .mov (.s 124), none⟩])
               (.reg true false [
                 ⟨some 125, .mov (.s 7), none⟩,
                 ⟨some 126, .mov (.s 14), none⟩,
                 ⟨some 127, .nilck (.s 125), none⟩,
                 ⟨some 128, .idxA 1 16 (.s 127) (.s 126), none⟩,
                 ⟨some 129, .load none (.s 128), none⟩,
                 ⟨some 130, .mov (.s 15), none⟩,
                 ⟨some 131, .bin .or (.s 129) (.s 130), none⟩,
                 ⟨some 132, .nilck (.s 125), none⟩,
                 ⟨some 133, .idxA 1 16 (.s 132) (.s 126), none⟩,
                 ⟨none, .store 1 (.s 133) (.s 131), none⟩])))))
             (.reg false false [
               ⟨some 134, .bin .add (.s 98) (.c (.int .i64 1)), none⟩,
               ⟨some 98, .mov (.s 134), none⟩])))))))))
         (.reg false false [
           ⟨some 135, .bin .add (.s 90) (.c (.int .i64 1)), none⟩,
           ⟨some 90, .mov (.s 135), none⟩])))))))))))
     (.reg false false [
       ⟨some 136, .bin .add (.s 26) (.c (.int .i64 1)), none⟩,
       ⟨some 26, .mov (.s 136), none⟩])))))))
  (.seq (.reg false false [
     ⟨some 137, .mov (.s 2), none⟩,
     ⟨some 138, .mov (.s 3), none⟩,
     ⟨some 2, .mov (.s 137), none⟩,
     ⟨some 3, .mov (.s 138), none⟩])
  (.ret))))),
  [.tmp 2, .tmp 3], false⟩
theorem fn45_ok : FnOk Try.prog 45 fn45 := by unfold FnOk; kernel_rfl
/-- haruspex/circuit.newRun -/
def fn49 : Mx.Fn := ⟨43,
  .seq (.reg false false [
     ⟨some 2, .box (.s 0), none⟩,
     ⟨some 4, .mov (.c (.pointer none)), none⟩,
     ⟨some 5, .mov (.c (.int .i64 0)), none⟩])
  (.seq (.seq (.reg false false [
      ⟨some 9, .load (some 2) (.s 2), none⟩,
      ⟨some 10, .call 13 [(.s 9)], none⟩,
      ⟨some 6, .mov (.s 10), none⟩])
   (.seq (.reg false false [
      ⟨some 11, .mov (.s 6), none⟩,
      ⟨some 12, .bin .neq (.s 11) (.c (.int .i64 0)), none⟩])
   (.cond (.s 12)
     (.seq (.reg false false [
         ⟨some 13, .mov (.s 6), none⟩,
         ⟨some 4, .mov (.c (.pointer none)), none⟩,
         ⟨some 5, .mov (.s 13), none⟩])
      (.ret))
     (.skip))))
  (.seq (.seq (.reg false false [
      ⟨some 14, .mov (.s 1), none⟩,
      ⟨some 15, .len (.s 14), none⟩,
      ⟨some 16, .fld 0 (.s 2), none⟩,
      ⟨some 17, .load none (.s 16), none⟩,
      ⟨some 18, .len (.s 17), none⟩,
      ⟨some 19, .bin .neq (.s 15) (.s 18), none⟩])
   (.cond (.s 19)
     (.seq (.reg false false [
         ⟨some 4, .mov (.c (.pointer none)), none⟩,
         ⟨some 5, .mov (.c (.int .i64 2)), none⟩])
      (.ret))
     (.skip)))
  (.seq (.seq (.reg false false [
      ⟨some 20, .mov (.s 1), none⟩,
      ⟨some 21, .len (.s 20), none⟩,
      ⟨some 22, .mov (.c (.int .i64 0)), none⟩])
   (.block 0 (.loop (.seq (.reg false false [
        ⟨some 23, .bin .lss (.s 22) (.s 21), none⟩])
     (.seq (.cond (.s 23)
        (.skip)
        (.exit 0))
     (.seq (.block 1 (.seq (.reg false false [
          ⟨some 24, .mov (.s 22), none⟩,
          ⟨some 25, .idxS 1 (.s 20) (.s 22), none⟩,
          ⟨some 26, .load none (.s 25), none⟩,
          ⟨some 7, .mov (.s 24), none⟩,
          ⟨some 8, .mov (.s 26), none⟩])
       (.seq (.reg false false [
          ⟨some 27, .mov (.s 8), none⟩,
          ⟨some 28, .bin .lss (.s 27) (.c (.int .i64 (-1))), none⟩,
          ⟨some 29, .mov (.s 28), none⟩,
          ⟨some 30, .mov (.s 8), some (29, false)⟩,
          ⟨some 31, .fld 0 (.s 2), some (29, false)⟩,
          ⟨some 32, .load none (.s 31), some (29, false)⟩,
          ⟨some 33, .mov (.s 7), some (29, false)⟩,
          ⟨some 34, .idxS 1 (.s 32) (.s 33), some (29, false)⟩,
          ⟨some 35, .load none (.s 34), some (29, false)⟩,
          ⟨some 36, .bin .geq (.s 30) (.s 35), some (29, false)⟩,
          ⟨some 37, .pick (.s 29) (.c (.bool true)) (.s 36), none⟩])
       (.cond (.s 37)
         (.seq (.reg false false [
             ⟨some 4, .mov (.c (.pointer none)), none⟩,
             ⟨some 5, .mov (.c (.int .i64 2)), none⟩])
          (.ret))
         (.skip)))))
     (.reg false false [
       ⟨some 38, .bin .add (.s 22) (.c (.int .i64 1)), none⟩,
       ⟨some 22, .mov (.s 38), none⟩])))))))
  (.seq (.reg false false [
     ⟨some 39, .load (some 2) (.s 2), none⟩,
     ⟨some 40, .mov (.s 1), none⟩,
     ⟨some 41, .build [(.slice none 0 0), (.slice none 0 0), (.slice none 0 0), (.slice none 0 0)] [(0, 2, (.s 39)), (2, 1, (.s 40))], none⟩,
     ⟨some 42, .box (.s 41), none⟩,
     ⟨some 4, .mov (.s 42), none⟩,
     ⟨some 5, .mov (.c (.int .i64 0)), none⟩])
  (.ret))))),
  [.tmp 4, .tmp 5], false⟩
theorem fn49_ok : FnOk Try.prog 49 fn49 := by unfold FnOk; kernel_rfl
/-- haruspex/circuit.try -/
def fn50 : Mx.Fn := ⟨6,
  .seq (.reg false false [
     ⟨some 2, .alloc [(.int .i64 0)], none⟩])
  (.seq (.reg false false [
     ⟨some 3, .clo 70 [] [(.s 2)], none⟩,
     ⟨none, .defer (.s 3) [], none⟩])
  (.seq (.reg false false [
     ⟨some 4, .mov (.s 0), none⟩,
     ⟨some 5, .callv (.s 4) [], none⟩])
  (.seq (.reg false false [
     ⟨none, .store 1 (.s 2) (.c (.int .i64 0)), none⟩])
  (.ret)))),
  [.cell 2 none], false⟩
theorem fn50_ok : FnOk Try.prog 50 fn50 := by unfold FnOk; kernel_rfl
/-- (*haruspex/circuit.run).evaluate -/
def fn51 : Mx.Fn := ⟨58,
  .seq (.reg false false [
     ⟨some 6, .mov (.s 0), none⟩,
     ⟨some 7, .clo 71 [(.s 6)] [], none⟩,
     ⟨some 8, .mov (.s 0), none⟩,
     ⟨some 9, .clo 72 [(.s 8)] [], none⟩,
     ⟨some 10, .mov (.s 0), none⟩,
     ⟨some 11, .clo 73 [(.s 10)] [], none⟩,
     ⟨some 12, .mov (.s 0), none⟩,
     ⟨some 13, .clo 74 [(.s 12)] [], none⟩,
     ⟨some 14, .build [.nilFunc, .nilFunc, .nilFunc, .nilFunc, .nilFunc] [(1, 1, (.s 7)), (2, 1, (.s 9)), (3, 1, (.s 11)), (4, 1, (.s 13))], none⟩,
     ⟨some 2, .alloc [.nilFunc, .nilFunc, .nilFunc, .nilFunc, .nilFunc], none⟩,
     ⟨none, .store 5 (.s 2) (.s 14), none⟩])
  (.seq (.reg false false [
     ⟨some 15, .mov (.s 0), none⟩,
     ⟨some 16, .mov (.s 0), none⟩,
     ⟨some 17, .nilck (.s 16), none⟩,
     ⟨some 18, .fld 0 (.s 17), none⟩,
     ⟨some 19, .fld 1 (.s 18), none⟩,
     ⟨some 20, .load none (.s 19), none⟩,
     ⟨some 21, .len (.s 20), none⟩,
     ⟨some 22, .mk 1 8 [(.int .i64 0)] (.c (.int .i64 0)) (.s 21), none⟩,
     ⟨some 23, .nilck (.s 15), none⟩,
     ⟨some 24, .fld 3 (.s 23), none⟩,
     ⟨none, .store 1 (.s 24) (.s 22), none⟩])
  (.seq (.reg false false [
     ⟨some 25, .mov (.s 0), none⟩,
     ⟨some 26, .nilck (.s 25), none⟩,
     ⟨some 27, .fld 0 (.s 26), none⟩,
     ⟨some 28, .fld 1 (.s 27), none⟩,
     ⟨some 29, .load none (.s 28), none⟩,
     ⟨some 30, .len (.s 29), none⟩,
     ⟨some 31, .mov (.c (.int .i64 0)), none⟩])
  (.block 0 (.loop (.seq (.reg false false [
       ⟨some 32, .bin .lss (.s 31) (.s 30), none⟩])
    (.seq (.cond (.s 32)
       (.skip)
       (.exit 0))
    (.seq (.block 1 (.seq (.reg false false [
         ⟨some 33, .mov (.s 31), none⟩,
         ⟨some 34, .idxS 5 (.s 29) (.s 31), none⟩,
         ⟨some 35, .load (some 5) (.s 34), none⟩,
         ⟨some 4, .alloc [(.int .i64 0), (.int .i64 0), (.int .i64 0), (.int .i64 0), (.slice none 0 0)], none⟩,
         ⟨some 3, .mov (.s 33), none⟩,
         ⟨none, .store 5 (.s 4) (.s 35), none⟩])
      (.seq (.reg true false [
         ⟨some 36, .fld 0 (.s 4), none⟩,
         ⟨some 37, .load none (.s 36), none⟩,
         ⟨some 38, .idxA 1 5 (.s 2) (.s 37), none⟩,
         ⟨some 39, .load none (.s 38), none⟩,
         ⟨some 40, .load (some 5) (.s 4), none⟩,
         ⟨some 41, .callv (.s 39) [(.s 40)], none⟩,
         ⟨some 5, .mov (.s 41), none⟩])
      (.seq (.seq (.reg false false [
          ⟨some 42, .mov (.s 5), none⟩,
          ⟨some 43, .bin .eql (.s 42) (.c (.int .i64 4611686018427387904)), none⟩])
       (.cond (.s 43)
         (.reg false false [
            ⟨some 44, .mov (.s 3), none⟩,
            ⟨some 45, .build [(.int .i64 0)] [(0, 1, (.s 44))], none⟩,
            ⟨some 46, .mkI 135 (.s 45), none⟩,
            ⟨none, .panic (.s 46), none⟩])
         (.skip)))
      (.reg false false [
        ⟨some 47, .mov (.s 0), none⟩,
        ⟨some 48, .mov (.s 0), none⟩,
        ⟨some 49, .nilck (.s 48), none⟩,
        ⟨some 50, .fld 3 (.s 49), none⟩,
        ⟨some 51, .load none (.s 50), none⟩,
        ⟨some 52, .mov (.s 5), none⟩,
        ⟨some 53, .bsl 1 1 [(.int .i64 0)] [(0, (.s 52))], none⟩,
        ⟨some 54, .app 1 8 (.s 51) (.s 53), none⟩,
        ⟨some 55, .nilck (.s 47), none⟩,
        ⟨some 56, .fld 3 (.s 55), none⟩,
        ⟨none, .store 1 (.s 56) (.s 54), none⟩])))))
    (.reg false false [
      ⟨some 57, .bin .add (.s 31) (.c (.int .i64 1)), none⟩,
      ⟨some 31, .mov (.s 57), none⟩])))))))),
  [], false⟩
theorem fn51_ok : FnOk Try.prog 51 fn51 := by unfold FnOk; kernel_rfl
/-- haruspex/circuit.Derive$1 -/
def fn54 : Mx.Fn := ⟨6,
  .seq (.reg false false [
     ⟨some 2, .load none (.s 0), none⟩,
     ⟨some 3, .call 51 [(.s 2)], none⟩])
  (.reg false false [
    ⟨some 4, .load none (.s 0), none⟩,
    ⟨some 5, .call 55 [(.s 4)], none⟩,
    ⟨none, .store 1 (.s 1) (.s 5), none⟩]),
  [], false⟩
theorem fn54_ok : FnOk Try.prog 54 fn54 := by unfold FnOk; kernel_rfl
/-- (*haruspex/circuit.run).derive -/
def fn55 : Mx.Fn := ⟨157,
  .seq (.reg false false [
     ⟨some 2, .mov (.c (.slice none 0 0)), none⟩])
  (.seq (.reg false false [
     ⟨some 16, .mov (.s 0), none⟩,
     ⟨some 17, .nilck (.s 16), none⟩,
     ⟨some 18, .fld 0 (.s 17), none⟩,
     ⟨some 19, .fld 0 (.s 18), none⟩,
     ⟨some 20, .load none (.s 19), none⟩,
     ⟨some 21, .len (.s 20), none⟩,
     ⟨some 22, .mk 1 24 [(.slice none 0 0)] (.s 21) (.s 21), none⟩,
     ⟨some 3, .mov (.s 22), none⟩])
  (.seq (.seq (.reg false false [
      ⟨some 23, .mov (.s 0), none⟩,
      ⟨some 24, .nilck (.s 23), none⟩,
      ⟨some 25, .fld 0 (.s 24), none⟩,
      ⟨some 26, .fld 0 (.s 25), none⟩,
      ⟨some 27, .load none (.s 26), none⟩,
      ⟨some 28, .len (.s 27), none⟩,
      ⟨some 29, .mov (.c (.int .i64 0)), none⟩])
   (.block 0 (.loop (.seq (.reg false false [
        ⟨some 30, .bin .lss (.s 29) (.s 28), none⟩])
     (.seq (.cond (.s 30)
        (.skip)
        (.exit 0))
     (.seq (.block 1 (.seq (.reg false false [
          ⟨some 31, .mov (.s 29), none⟩,
          ⟨some 32, .idxS 1 (.s 27) (.s 29), none⟩,
          ⟨some 33, .load none (.s 32), none⟩,
          ⟨some 4, .mov (.s 31), none⟩,
          ⟨some 5, .mov (.s 33), none⟩])
       (.reg false false [
         ⟨some 34, .mov (.s 3), none⟩,
         ⟨some 35, .mov (.s 4), none⟩,
         ⟨some 36, .mov (.s 5), none⟩,
         ⟨some 37, .mk 1 8 [(.int .i64 0)] (.s 36) (.s 36), none⟩,
         ⟨some 38, .idxS 1 (.s 34) (.s 35), none⟩,
         ⟨none, .store 1 (.s 38) (.s 37), none⟩])))
     (.reg false false [
       ⟨some 39, .bin .add (.s 29) (.c (.int .i64 1)), none⟩,
       ⟨some 29, .mov (.s 39), none⟩])))))))
  (.seq (.reg false false [
     ⟨some 40, .mov (.s 0), none⟩,
     ⟨some 41, .nilck (.s 40), none⟩,
     ⟨some 42, .fld 0 (.s 41), none⟩,
     ⟨some 43, .fld 1 (.s 42), none⟩,
     ⟨some 44, .load none (.s 43), none⟩,
     ⟨some 45, .len (.s 44), none⟩,
     ⟨some 46, .bin .sub (.s 45) (.c (.int .i64 1)), none⟩,
     ⟨some 6, .mov (.s 46), none⟩])
  (.seq (.reg false false [
     ⟨some 47, .mov (.s 0), none⟩,
     ⟨some 48, .nilck (.s 47), none⟩,
     ⟨some 49, .fld 0 (.s 48), none⟩,
     ⟨some 50, .fld 1 (.s 49), none⟩,
     ⟨some 51, .load none (.s 50), none⟩,
     ⟨some 52, .len (.s 51), none⟩,
     ⟨some 53, .mk 1 8 [(.int .i64 0)] (.s 52) (.s 52), none⟩,
     ⟨some 7, .mov (.s 53), none⟩])
  (.seq (.reg false false [
     ⟨some 54, .mov (.s 7), none⟩,
     ⟨some 55, .mov (.s 6), none⟩,
     ⟨some 56, .idxS 1 (.s 54) (.s 55), none⟩,
     ⟨none, .store 1 (.s 56) (.c (.int .i64 1)), none⟩])
  (.seq (.seq (.reg false false [
      ⟨some 57, .mov (.s 6), none⟩,
      ⟨some 8, .mov (.s 57), none⟩])
   (.block 2 (.loop (.seq (.seq (.reg false false [
         ⟨some 58, .mov (.s 8), none⟩,
         ⟨some 59, .bin .geq (.s 58) (.c (.int .i64 0)), none⟩])
      (.cond (.s 59)
        (.skip)
        (.exit 2)))
     (.seq (.block 3 (.seq (.reg false false [
          ⟨some 62, .mov (.s 7), none⟩,
          ⟨some 63, .mov (.s 8), none⟩,
          ⟨some 64, .idxS 1 (.s 62) (.s 63), none⟩,
          ⟨some 65, .load none (.s 64), none⟩,
          ⟨some 9, .mov (.s 65), none⟩])
       (.seq (.seq (.reg false false [
           ⟨some 66, .mov (.s 9), none⟩,
           ⟨some 67, .bin .eql (.s 66) (.c (.int .i64 4611686018427387904)), none⟩])
        (.cond (.s 67)
          (.reg false false [
             ⟨some 68, .mov (.s 8), none⟩,
             ⟨some 69, .build [(.int .i64 0)] [(0, 1, (.s 68))], none⟩,
             ⟨some 70, .mkI 135 (.s 69), none⟩,
             ⟨none, .panic (.s 70), none⟩])
          (.skip)))
       (.seq (.reg false false [
          ⟨some 71, .mov (.s 0), none⟩,
          ⟨some 72, .nilck (.s 71), none⟩,
          ⟨some 73, .fld 0 (.s 72), none⟩,
          ⟨some 74, .fld 1 (.s 73), none⟩,
          ⟨some 75, .load none (.s 74), none⟩,
          ⟨some 76, .mov (.s 8), none⟩,
          ⟨some 77, .idxS 5 (.s 75) (.s 76), none⟩,
          ⟨some 78, .load (some 5) (.s 77), none⟩,
          ⟨some 10, .alloc [(.int .i64 0), (.int .i64 0), (.int .i64 0), (.int .i64 0), (.slice none 0 0)], none⟩,
          ⟨none, .store 5 (.s 10) (.s 78), none⟩])
       (.seq (.reg false false [
          ⟨some 79, .fld 0 (.s 10), none⟩,
          ⟨some 80, .load none (.s 79), none⟩])
       (.block 4 (.seq (.reg false false [
           ⟨some 82, .bin .eql (.s 80) (.c (.int .i64 2)), none⟩,
           ⟨some 81, .mov (.s 82), none⟩])
        (.cond (.s 81)
          (.seq (.reg true false [
              ⟨some 83, .mov (.s 3), none⟩,
              ⟨some 84, .fld 1 (.s 10), none⟩,
              ⟨some 85, .load none (.s 84), none⟩,
              ⟨some 86, .idxS 1 (.s 83) (.s 85), none⟩,
              ⟨some 87, .load none (.s 86), none⟩,
              ⟨some 88, .fld 2 (.s 10), none⟩,
              ⟨some 89, .load none (.s 88), none⟩,
              ⟨some 90, .idxS 1 (.s 87) (.s 89), none⟩,
              ⟨some 11, .mov (.s 90), none⟩])
           (.seq (.reg false false [
              ⟨some 91, .mov (.s 11), none⟩,
              ⟨some 92, .mov (.s 11), none⟩,
              ⟨some 93, .nilck (.s 92), none⟩,
              ⟨some 94, .load none (.s 93), none⟩,
              ⟨some 95, .mov (.s 9), none⟩,
              ⟨some 96, .call 75 [(.s 94), (.s 95)], none⟩,
              ⟨some 97, .nilck (.s 91), none⟩,
              ⟨none, .store 1 (.s 97) (.s 96), none⟩])
           (.seq (.reg false false [
              ⟨some 98, .mov (.s 11), none⟩,
              ⟨some 99, .nilck (.s 98), none⟩,
              ⟨some 100, .load none (.s 99), none⟩,
              ⟨some 101, .bin .eql (.s 100) (.c (.int .i64 4611686018427387904)), none⟩])
           (.cond (.s 101)
             (.reg false false [
                ⟨some 102, .mov (.s 8), none⟩,
                ⟨some 103, .build [(.int .i64 0)] [(0, 1, (.s 102))], none⟩,
                ⟨some 104, .mkI 135 (.s 103), none⟩,
                ⟨none, .panic (.s 104), none⟩])
             (.skip)))))
          (.seq (.reg false false [
              ⟨some 106, .bin .eql (.s 80) (.c (.int .i64 3)), none⟩,
              ⟨some 105, .mov (.s 106), none⟩])
           (.cond (.s 105)
             (.seq (.reg false false [
                 ⟨some 107, .fld 4 (.s 10), none⟩,
                 ⟨some 108, .load none (.s 107), none⟩,
                 ⟨some 109, .len (.s 108), none⟩,
                 ⟨some 110, .mov (.c (.int .i64 0)), none⟩])
              (.block 5 (.loop (.seq (.reg false false [
                   ⟨some 111, .bin .lss (.s 110) (.s 109), none⟩])
                (.seq (.cond (.s 111)
                   (.skip)
                   (.exit 5))
                (.seq (.block 6 (.seq (.reg false false [
                     ⟨some 112, .idxS 1 (.s 108) (.s 110), none⟩,
                     ⟨some 113, .load none (.s 112), none⟩,
                     ⟨some 13, .mov (.s 113), none⟩])
                  (.reg false false [
                    ⟨some 114, .mov (.s 7), none⟩,
                    ⟨some 115, .mov (.s 13), none⟩,
                    ⟨some 116, .mov (.s 7), none⟩,
                    ⟨some 117, .mov (.s 13), none⟩,
                    ⟨some 118, .idxS 1 (.s 116) (.s 117), none⟩,
                    ⟨some 119, .load none (.s 118), none⟩,
                    ⟨some 120, .mov (.s 9), none⟩,
                    ⟨some 121, .call 75 [(.s 119), (.s 120)], none⟩,
                    ⟨some 122, .idxS 1 (.s 114) (.s 115), none⟩,
                    ⟨none, .store 1 (.s 122) (.s 121), none⟩])))
                (.reg false false [
                  ⟨some 123, .bin .add (.s 110) (.c (.int .i64 1)), none⟩,
                  ⟨some 110, .mov (.s 123), none⟩])))))))
             (.seq (.reg false false [
                 ⟨some 125, .bin .eql (.s 80) (.c (.int .i64 4)), none⟩,
                 ⟨some 124, .mov (.s 125), none⟩])
              (.cond (.s 124)
                (.seq (.reg false false [
                    ⟨some 126, .mov (.s 0), none⟩,
                    ⟨some 127, .fld 4 (.s 10), none⟩,
                    ⟨some 128, .load none (.s 127), none⟩,
                    ⟨some 129, .call 76 [(.s 126), (.s 128)], none⟩,
                    ⟨some 130, .len (.s 129), none⟩,
                    ⟨some 131, .mov (.c (.int .i64 0)), none⟩])
                 (.block 7 (.loop (.seq (.reg false false [
                      ⟨some 132, .bin .lss (.s 131) (.s 130), none⟩])
                   (.seq (.cond (.s 132)
                      (.skip)
                      (.exit 7))
                   (.seq (.block 8 (.seq (.reg false false [
                        ⟨some 133, .mov (.s 131), none⟩,
                        ⟨some 134, .idxS 1 (.s 129) (.s 131), none⟩,
                        ⟨some 135, .load none (.s 134), none⟩,
                        ⟨some 14, .mov (.s 133), none⟩,
                        ⟨some 15, .mov (.s 135), none⟩])
                     (.reg true true [
                       ⟨some 136, .mov (.s 7), none⟩,
                       ⟨some 137, .fld 4 (.s 10), none⟩,
                       ⟨some 138, .load none (.s 137), none⟩,
                       ⟨some 139, .mov (.s 14), none⟩,
                       ⟨some 140, .idxS 1 (.s 138) (.s 139), none⟩,
                       ⟨some 141, .load none (.s 140), none⟩,
                       ⟨some 142, .mov (.s 7), none⟩,
                       ⟨some 143, .fld 4 (.s 10), none⟩,
                       ⟨some 144, .load none (.s 143), none⟩,
                       ⟨some 145, .mov (.s 14), none⟩,
                       ⟨some 146, .idxS 1 (.s 144) (.s 145), none⟩,
                       ⟨some 147, .load none (.s 146), none⟩,
                       ⟨some 148, .idxS 1 (.s 142) (.s 147), none⟩,
                       ⟨some 149, .load none (.s 148), none⟩,
                       ⟨some 150, .mov (.s 9), none⟩,
                       ⟨some 151, .mov (.s 15), none⟩,
                       ⟨some 152, .call 77 [(.s 150), (.s 151)], none⟩,
                       ⟨some 153, .call 75 [(.s 149), (.s 152)], none⟩,
                       ⟨some 154, .idxS 1 (.s 136) (.s 141), none⟩,
                       ⟨none, .store 1 (.s 154) (.s 153), none⟩])))
                   (.reg false false [
                     ⟨some 155, .bin .add (.s 131) (.c (.int .i64 1)), none⟩,
                     ⟨some 131, .mov (.s 155), none⟩])))))))
                (.skip)))))))))))))
     (.reg false false [
       ⟨some 60, .mov (.s 8), none⟩,
       ⟨some 61, .bin .sub (.s 60) (.c (.int .i64 1)), none⟩,
       ⟨some 8, .mov (.s 61), none⟩]))))))
  (.seq (.reg false false [
     ⟨some 156, .mov (.s 3), none⟩,
     ⟨some 2, .mov (.s 156), none⟩])
  (.ret)))))))),
  [.tmp 2], false⟩
theorem fn55_ok : FnOk Try.prog 55 fn55 := by unfold FnOk; kernel_rfl
/-- haruspex/haruspexref02.Same -/
def fn58 : Mx.Fn := ⟨26,
  .seq (.reg false false [
     ⟨some 4, .mov (.c (.bool false)), none⟩])
  (.seq (.seq (.reg false false [
      ⟨some 6, .mov (.s 0), none⟩,
      ⟨some 7, .len (.s 6), none⟩,
      ⟨some 8, .mov (.s 1), none⟩,
      ⟨some 9, .len (.s 8), none⟩,
      ⟨some 10, .bin .neq (.s 7) (.s 9), none⟩])
   (.cond (.s 10)
     (.seq (.reg false false [
         ⟨some 4, .mov (.c (.bool false)), none⟩])
      (.ret))
     (.skip)))
  (.seq (.seq (.reg false false [
      ⟨some 5, .mov (.c (.int .i64 0)), none⟩])
   (.block 0 (.loop (.seq (.seq (.reg false false [
         ⟨some 11, .mov (.s 5), none⟩,
         ⟨some 12, .mov (.s 0), none⟩,
         ⟨some 13, .len (.s 12), none⟩,
         ⟨some 14, .bin .lss (.s 11) (.s 13), none⟩])
      (.cond (.s 14)
        (.skip)
        (.exit 0)))
     (.seq (.block 1 (.seq (.reg true false [
          ⟨some 17, .mov (.s 0), none⟩,
          ⟨some 18, .mov (.s 5), none⟩,
          ⟨some 19, .idxS 1 (.s 17) (.s 18), none⟩,
          ⟨some 20, .load none (.s 19), none⟩,
          ⟨some 21, .mov (.s 1), none⟩,
          ⟨some 22, .mov (.s 5), none⟩,
          ⟨some 23, .idxS 1 (.s 21) (.s 22), none⟩,
          ⟨some 24, .load none (.s 23), none⟩,
          ⟨some 25, .bin .neq (.s 20) (.s 24), none⟩])
       (.cond (.s 25)
         (.seq (.reg false false [
             ⟨some 4, .mov (.c (.bool false)), none⟩])
          (.ret))
         (.skip))))
     (.reg false false [
       ⟨some 15, .mov (.s 5), none⟩,
       ⟨some 16, .bin .add (.s 15) (.c (.int .i64 1)), none⟩,
       ⟨some 5, .mov (.s 16), none⟩]))))))
  (.seq (.reg false false [
     ⟨some 4, .mov (.c (.bool true)), none⟩])
  (.ret)))),
  [.tmp 4], true⟩
theorem fn58_ok : FnOk Try.prog 58 fn58 := by unfold FnOk; kernel_rfl
/-- math/bits.Mul -/
def fn59 : Mx.Fn := ⟨30,
  .seq (.reg false false [
     ⟨some 4, .mov (.c (.int .u64 0)), none⟩,
     ⟨some 5, .mov (.c (.int .u64 0)), none⟩])
  (.seq (.cond (.c (.bool false))
     (.seq (.reg false false [
         ⟨some 11, .mov (.s 0), none⟩,
         ⟨some 12, .conv .u32 (.s 11), none⟩,
         ⟨some 13, .mov (.s 1), none⟩,
         ⟨some 14, .conv .u32 (.s 13), none⟩,
         ⟨some 15, .call 78 [(.s 12), (.s 14)], none⟩,
         ⟨some 10, .mov (.s 15), none⟩,
         ⟨some 16, .ext (.s 10) 0, none⟩,
         ⟨some 17, .ext (.s 10) 1, none⟩,
         ⟨some 6, .mov (.s 16), none⟩,
         ⟨some 7, .mov (.s 17), none⟩])
      (.seq (.reg false false [
         ⟨some 18, .mov (.s 6), none⟩,
         ⟨some 19, .conv .u64 (.s 18), none⟩,
         ⟨some 20, .mov (.s 7), none⟩,
         ⟨some 21, .conv .u64 (.s 20), none⟩,
         ⟨some 4, .mov (.s 19), none⟩,
         ⟨some 5, .mov (.s 21), none⟩])
      (.ret)))
     (.skip))
  (.seq (.reg false false [
     ⟨some 23, .mov (.s 0), none⟩,
     ⟨some 24, .mov (.s 1), none⟩,
     ⟨some 25, .call 79 [(.s 23), (.s 24)], none⟩,
     ⟨some 22, .mov (.s 25), none⟩,
     ⟨some 26, .ext (.s 22) 0, none⟩,
     ⟨some 27, .ext (.s 22) 1, none⟩,
     ⟨some 8, .mov (.s 26), none⟩,
     ⟨some 9, .mov (.s 27), none⟩])
  (.seq (.reg false false [
     ⟨some 28, .mov (.s 8), none⟩,
     ⟨some 29, .mov (.s 9), none⟩,
     ⟨some 4, .mov (.s 28), none⟩,
     ⟨some 5, .mov (.s 29), none⟩])
  (.ret)))),
  [.tmp 4, .tmp 5], true⟩
theorem fn59_ok : FnOk Try.prog 59 fn59 := by unfold FnOk; kernel_rfl
/-- haruspex/circuit.literals -/
def fn67 : Mx.Fn := ⟨55,
  .seq (.reg false false [
     ⟨some 2, .mov (.c (.slice none 0 0)), none⟩])
  (.seq (.reg false false [
     ⟨some 10, .mov (.s 0), none⟩,
     ⟨some 11, .len (.s 10), none⟩,
     ⟨some 12, .mk 1 24 [(.slice none 0 0)] (.s 11) (.s 11), none⟩,
     ⟨some 3, .alloc [(.slice none 0 0)], none⟩,
     ⟨none, .store 1 (.s 3) (.s 12), none⟩])
  (.seq (.seq (.reg false false [
      ⟨some 13, .mov (.s 0), none⟩,
      ⟨some 14, .len (.s 13), none⟩,
      ⟨some 15, .mov (.c (.int .i64 0)), none⟩])
   (.block 0 (.loop (.seq (.reg false false [
        ⟨some 16, .bin .lss (.s 15) (.s 14), none⟩])
     (.seq (.cond (.s 16)
        (.skip)
        (.exit 0))
     (.seq (.block 1 (.seq (.reg false false [
          ⟨some 17, .mov (.s 15), none⟩,
          ⟨some 18, .idxS 1 (.s 13) (.s 15), none⟩,
          ⟨some 19, .load none (.s 18), none⟩,
          ⟨some 4, .mov (.s 17), none⟩,
          ⟨some 5, .mov (.s 19), none⟩])
       (.reg true false [
         ⟨some 20, .load none (.s 3), none⟩,
         ⟨some 21, .mov (.s 4), none⟩,
         ⟨some 22, .mov (.s 5), none⟩,
         ⟨some 23, .mk 16 128 [(.int .u64 0), (.int .u64 0), (.int .u64 0), (.int .u64 0), (.int .u64 0), (.int .u64 0), (.int .u64 0), (.int .u64 0), (.int .u64 0), (.int .u64 0), (.int .u64 0), (.int .u64 0), (.int .u64 0), (.int .u64 0), (.int .u64 0), (.int .u64 0)] (.s 22) (.s 22), none⟩,
         ⟨some 24, .idxS 1 (.s 20) (.s 21), none⟩,
         ⟨none, .store 1 (.s 24) (.s 23), none⟩])))
     (.reg false false [
       ⟨some 25, .bin .add (.s 15) (.c (.int .i64 1)), none⟩,
       ⟨some 15, .mov (.s 25), none⟩])))))))
  (.seq (.seq (.reg false false [
      ⟨some 26, .mov (.s 0), none⟩,
      ⟨some 27, .call 85 [(.s 26)], none⟩])
   (.block 2 (.rfunc (.s 27) [28, 29] (.seq (.reg false false [
        ⟨some 6, .mov (.s 28), none⟩])
     (.reg false false [
       ⟨some 7, .mov (.s 29), none⟩]))
     (.block 3 (.seq (.reg false false [
         ⟨some 30, .mov (.s 7), none⟩,
         ⟨some 31, .len (.s 30), none⟩,
         ⟨some 32, .mov (.c (.int .i64 0)), none⟩])
      (.block 4 (.loop (.seq (.reg false false [
           ⟨some 33, .bin .lss (.s 32) (.s 31), none⟩])
        (.seq (.cond (.s 33)
           (.skip)
           (.exit 4))
        (.seq (.block 5 (.seq (.reg false false [
             ⟨some 34, .mov (.s 32), none⟩,
             ⟨some 35, .idxS 1 (.s 30) (.s 32), none⟩,
             ⟨some 36, .load none (.s 35), none⟩,
             ⟨some 8, .mov (.s 34), none⟩,
             ⟨some 9, .mov (.s 36), none⟩])
          (.reg true false [
            ⟨some 37, .load none (.s 3), none⟩,
            ⟨some 38, .mov (.s 8), none⟩,
            ⟨some 39, .idxS 1 (.s 37) (.s 38), none⟩,
            ⟨some 40, .load none (.s 39), none⟩,
            ⟨some 41, .mov (.s 9), none⟩,
            ⟨some 42, .mov (.s 6), none⟩,
            ⟨some 43, .bin .quo (.s 42) (.c (.int .i64 64)), none⟩,
            ⟨some 44, .idxS 16 (.s 40) (.s 41), none⟩,
            ⟨some 45, .idxA 1 16 (.s 44) (.s 43), none⟩,
            ⟨some 46, .load none (.s 45), none⟩,
            ⟨some 47, .mov (.s 6), none⟩,
            ⟨some 48, .bin .rem (.s 47) (.c (.int .i64 64)), none⟩,
            ⟨some 49, .bin .shl (.c (.int .u64 1)) (.s 48), none⟩,
            ⟨some 50, .bin .or (.s 46) (.s 49), none⟩,
            ⟨some 51, .idxS 16 (.s 40) (.s 41), none⟩,
            ⟨some 52, .idxA 1 16 (.s 51) (.s 43), none⟩,
            ⟨none, .store 1 (.s 52) (.s 50), none⟩])))
        (.reg false false [
          ⟨some 53, .bin .add (.s 32) (.c (.int .i64 1)), none⟩,
          ⟨some 32, .mov (.s 53), none⟩])))))))))))
  (.seq (.reg false false [
     ⟨some 54, .load none (.s 3), none⟩,
     ⟨some 2, .mov (.s 54), none⟩])
  (.ret))))),
  [.tmp 2], false⟩
theorem fn67_ok : FnOk Try.prog 67 fn67 := by unfold FnOk; kernel_rfl
/-- haruspex/circuit.try$1 -/
def fn70 : Mx.Fn := ⟨3,
  .seq (.reg false false [
     ⟨some 1, .recover, none⟩,
     ⟨some 2, .eqi true (.s 1), none⟩])
  (.cond (.s 2)
    (.reg false false [
       ⟨none, .store 1 (.s 0) (.c (.int .i64 6)), none⟩])
    (.skip)),
  [], false⟩
theorem fn70_ok : FnOk Try.prog 70 fn70 := by unfold FnOk; kernel_rfl
/-- (*haruspex/circuit.run).number -/
def fn71 : Mx.Fn := ⟨7,
  .seq (.reg false false [
     ⟨some 3, .box (.s 1), none⟩,
     ⟨some 4, .mov (.c (.int .i64 0)), none⟩])
  (.seq (.reg false false [
     ⟨some 5, .fld 3 (.s 3), none⟩,
     ⟨some 6, .load none (.s 5), none⟩,
     ⟨some 4, .mov (.s 6), none⟩])
  (.ret)),
  [.tmp 4], false⟩
theorem fn71_ok : FnOk Try.prog 71 fn71 := by unfold FnOk; kernel_rfl
/-- (*haruspex/circuit.run).is -/
def fn72 : Mx.Fn := ⟨22,
  .seq (.reg false false [
     ⟨some 3, .box (.s 1), none⟩,
     ⟨some 4, .mov (.c (.int .i64 0)), none⟩])
  (.seq (.seq (.reg true false [
      ⟨some 6, .mov (.s 0), none⟩,
      ⟨some 7, .nilck (.s 6), none⟩,
      ⟨some 8, .fld 2 (.s 7), none⟩,
      ⟨some 9, .load none (.s 8), none⟩,
      ⟨some 10, .fld 1 (.s 3), none⟩,
      ⟨some 11, .load none (.s 10), none⟩,
      ⟨some 12, .idxS 1 (.s 9) (.s 11), none⟩,
      ⟨some 13, .load none (.s 12), none⟩,
      ⟨some 5, .mov (.s 13), none⟩])
   (.seq (.reg false false [
      ⟨some 14, .mov (.s 5), none⟩,
      ⟨some 15, .bin .geq (.s 14) (.c (.int .i64 0)), none⟩,
      ⟨some 16, .mov (.s 15), none⟩,
      ⟨some 17, .mov (.s 5), some (16, true)⟩,
      ⟨some 18, .fld 2 (.s 3), some (16, true)⟩,
      ⟨some 19, .load none (.s 18), some (16, true)⟩,
      ⟨some 20, .bin .neq (.s 17) (.s 19), some (16, true)⟩,
      ⟨some 21, .pick (.s 16) (.s 20) (.c (.bool false)), none⟩])
   (.cond (.s 21)
     (.seq (.reg false false [
         ⟨some 4, .mov (.c (.int .i64 0)), none⟩])
      (.ret))
     (.skip))))
  (.seq (.reg false false [
     ⟨some 4, .mov (.c (.int .i64 1)), none⟩])
  (.ret))),
  [.tmp 4], false⟩
theorem fn72_ok : FnOk Try.prog 72 fn72 := by unfold FnOk; kernel_rfl
/-- (*haruspex/circuit.run).sum -/
def fn73 : Mx.Fn := ⟨26,
  .seq (.reg false false [
     ⟨some 3, .box (.s 1), none⟩,
     ⟨some 4, .mov (.c (.int .i64 0)), none⟩])
  (.seq (.reg false false [
     ⟨some 5, .mov (.c (.int .i64 0)), none⟩])
  (.seq (.seq (.reg false false [
      ⟨some 8, .fld 4 (.s 3), none⟩,
      ⟨some 9, .load none (.s 8), none⟩,
      ⟨some 10, .len (.s 9), none⟩,
      ⟨some 11, .mov (.c (.int .i64 0)), none⟩])
   (.block 0 (.loop (.seq (.reg false false [
        ⟨some 12, .bin .lss (.s 11) (.s 10), none⟩])
     (.seq (.cond (.s 12)
        (.skip)
        (.exit 0))
     (.seq (.block 1 (.seq (.reg false false [
          ⟨some 13, .idxS 1 (.s 9) (.s 11), none⟩,
          ⟨some 14, .load none (.s 13), none⟩,
          ⟨some 7, .mov (.s 14), none⟩])
       (.reg false false [
         ⟨some 15, .mov (.s 5), none⟩,
         ⟨some 16, .mov (.s 0), none⟩,
         ⟨some 17, .nilck (.s 16), none⟩,
         ⟨some 18, .fld 3 (.s 17), none⟩,
         ⟨some 19, .load none (.s 18), none⟩,
         ⟨some 20, .mov (.s 7), none⟩,
         ⟨some 21, .idxS 1 (.s 19) (.s 20), none⟩,
         ⟨some 22, .load none (.s 21), none⟩,
         ⟨some 23, .call 75 [(.s 15), (.s 22)], none⟩,
         ⟨some 5, .mov (.s 23), none⟩])))
     (.reg false false [
       ⟨some 24, .bin .add (.s 11) (.c (.int .i64 1)), none⟩,
       ⟨some 11, .mov (.s 24), none⟩])))))))
  (.seq (.reg false false [
     ⟨some 25, .mov (.s 5), none⟩,
     ⟨some 4, .mov (.s 25), none⟩])
  (.ret)))),
  [.tmp 4], false⟩
theorem fn73_ok : FnOk Try.prog 73 fn73 := by unfold FnOk; kernel_rfl
/-- (*haruspex/circuit.run).product -/
def fn74 : Mx.Fn := ⟨26,
  .seq (.reg false false [
     ⟨some 3, .box (.s 1), none⟩,
     ⟨some 4, .mov (.c (.int .i64 0)), none⟩])
  (.seq (.reg false false [
     ⟨some 5, .mov (.c (.int .i64 1)), none⟩])
  (.seq (.seq (.reg false false [
      ⟨some 8, .fld 4 (.s 3), none⟩,
      ⟨some 9, .load none (.s 8), none⟩,
      ⟨some 10, .len (.s 9), none⟩,
      ⟨some 11, .mov (.c (.int .i64 0)), none⟩])
   (.block 0 (.loop (.seq (.reg false false [
        ⟨some 12, .bin .lss (.s 11) (.s 10), none⟩])
     (.seq (.cond (.s 12)
        (.skip)
        (.exit 0))
     (.seq (.block 1 (.seq (.reg false false [
          ⟨some 13, .idxS 1 (.s 9) (.s 11), none⟩,
          ⟨some 14, .load none (.s 13), none⟩,
          ⟨some 7, .mov (.s 14), none⟩])
       (.reg false false [
         ⟨some 15, .mov (.s 5), none⟩,
         ⟨some 16, .mov (.s 0), none⟩,
         ⟨some 17, .nilck (.s 16), none⟩,
         ⟨some 18, .fld 3 (.s 17), none⟩,
         ⟨some 19, .load none (.s 18), none⟩,
         ⟨some 20, .mov (.s 7), none⟩,
         ⟨some 21, .idxS 1 (.s 19) (.s 20), none⟩,
         ⟨some 22, .load none (.s 21), none⟩,
         ⟨some 23, .call 77 [(.s 15), (.s 22)], none⟩,
         ⟨some 5, .mov (.s 23), none⟩])))
     (.reg false false [
       ⟨some 24, .bin .add (.s 11) (.c (.int .i64 1)), none⟩,
       ⟨some 11, .mov (.s 24), none⟩])))))))
  (.seq (.reg false false [
     ⟨some 25, .mov (.s 5), none⟩,
     ⟨some 4, .mov (.s 25), none⟩])
  (.ret)))),
  [.tmp 4], false⟩
theorem fn74_ok : FnOk Try.prog 74 fn74 := by unfold FnOk; kernel_rfl
/-- haruspex/circuit.plus -/
def fn75 : Mx.Fn := ⟨11,
  .seq (.reg false false [
     ⟨some 4, .mov (.c (.int .i64 0)), none⟩])
  (.seq (.reg false false [
     ⟨some 5, .mov (.s 0), none⟩,
     ⟨some 6, .mov (.s 1), none⟩,
     ⟨some 7, .mov (.s 0), none⟩,
     ⟨some 8, .bin .sub (.c (.int .i64 4611686018427387904)) (.s 7), none⟩,
     ⟨some 9, .mm false [(.s 6), (.s 8)], none⟩,
     ⟨some 10, .bin .add (.s 5) (.s 9), none⟩,
     ⟨some 4, .mov (.s 10), none⟩])
  (.ret)),
  [.tmp 4], true⟩
theorem fn75_ok : FnOk Try.prog 75 fn75 := by unfold FnOk; kernel_rfl
/-- (*haruspex/circuit.run).others -/
def fn76 : Mx.Fn := ⟨64,
  .seq (.reg false false [
     ⟨some 4, .mov (.c (.slice none 0 0)), none⟩])
  (.seq (.reg false false [
     ⟨some 11, .mov (.s 1), none⟩,
     ⟨some 12, .len (.s 11), none⟩,
     ⟨some 13, .mk 1 8 [(.int .i64 0)] (.s 12) (.s 12), none⟩,
     ⟨some 5, .mov (.s 13), none⟩])
  (.seq (.reg false false [
     ⟨some 6, .mov (.c (.int .i64 1)), none⟩,
     ⟨some 7, .mov (.c (.int .i64 1)), none⟩])
  (.seq (.seq (.reg false false [
      ⟨some 14, .mov (.s 1), none⟩,
      ⟨some 15, .len (.s 14), none⟩,
      ⟨some 16, .mov (.c (.int .i64 0)), none⟩])
   (.block 0 (.loop (.seq (.reg false false [
        ⟨some 17, .bin .lss (.s 16) (.s 15), none⟩])
     (.seq (.cond (.s 17)
        (.skip)
        (.exit 0))
     (.seq (.block 1 (.seq (.reg false false [
          ⟨some 18, .mov (.s 16), none⟩,
          ⟨some 19, .idxS 1 (.s 14) (.s 16), none⟩,
          ⟨some 20, .load none (.s 19), none⟩,
          ⟨some 8, .mov (.s 18), none⟩,
          ⟨some 9, .mov (.s 20), none⟩])
       (.seq (.reg false false [
          ⟨some 21, .mov (.s 5), none⟩,
          ⟨some 22, .mov (.s 8), none⟩,
          ⟨some 23, .mov (.s 6), none⟩,
          ⟨some 24, .idxS 1 (.s 21) (.s 22), none⟩,
          ⟨none, .store 1 (.s 24) (.s 23), none⟩])
       (.reg false false [
         ⟨some 25, .mov (.s 6), none⟩,
         ⟨some 26, .mov (.s 0), none⟩,
         ⟨some 27, .nilck (.s 26), none⟩,
         ⟨some 28, .fld 3 (.s 27), none⟩,
         ⟨some 29, .load none (.s 28), none⟩,
         ⟨some 30, .mov (.s 9), none⟩,
         ⟨some 31, .idxS 1 (.s 29) (.s 30), none⟩,
         ⟨some 32, .load none (.s 31), none⟩,
         ⟨some 33, .call 77 [(.s 25), (.s 32)], none⟩,
         ⟨some 6, .mov (.s 33), none⟩]))))
     (.reg false false [
       ⟨some 34, .bin .add (.s 16) (.c (.int .i64 1)), none⟩,
       ⟨some 16, .mov (.s 34), none⟩])))))))
  (.seq (.seq (.reg false false [
      ⟨some 35, .mov (.s 1), none⟩,
      ⟨some 36, .len (.s 35), none⟩,
      ⟨some 37, .bin .sub (.s 36) (.c (.int .i64 1)), none⟩,
      ⟨some 10, .mov (.s 37), none⟩])
   (.block 2 (.loop (.seq (.seq (.reg false false [
         ⟨some 38, .mov (.s 10), none⟩,
         ⟨some 39, .bin .geq (.s 38) (.c (.int .i64 0)), none⟩])
      (.cond (.s 39)
        (.skip)
        (.exit 2)))
     (.seq (.block 3 (.seq (.reg false false [
          ⟨some 42, .mov (.s 5), none⟩,
          ⟨some 43, .mov (.s 10), none⟩,
          ⟨some 44, .mov (.s 5), none⟩,
          ⟨some 45, .mov (.s 10), none⟩,
          ⟨some 46, .idxS 1 (.s 44) (.s 45), none⟩,
          ⟨some 47, .load none (.s 46), none⟩,
          ⟨some 48, .mov (.s 7), none⟩,
          ⟨some 49, .call 77 [(.s 47), (.s 48)], none⟩,
          ⟨some 50, .idxS 1 (.s 42) (.s 43), none⟩,
          ⟨none, .store 1 (.s 50) (.s 49), none⟩])
       (.reg true false [
         ⟨some 51, .mov (.s 7), none⟩,
         ⟨some 52, .mov (.s 0), none⟩,
         ⟨some 53, .nilck (.s 52), none⟩,
         ⟨some 54, .fld 3 (.s 53), none⟩,
         ⟨some 55, .load none (.s 54), none⟩,
         ⟨some 56, .mov (.s 1), none⟩,
         ⟨some 57, .mov (.s 10), none⟩,
         ⟨some 58, .idxS 1 (.s 56) (.s 57), none⟩,
         ⟨some 59, .load none (.s 58), none⟩,
         ⟨some 60, .idxS 1 (.s 55) (.s 59), none⟩,
         ⟨some 61, .load none (.s 60), none⟩,
         ⟨some 62, .call 77 [(.s 51), (.s 61)], none⟩,
         ⟨some 7, .mov (.s 62), none⟩])))
     (.reg false false [
       ⟨some 40, .mov (.s 10), none⟩,
       ⟨some 41, .bin .sub (.s 40) (.c (.int .i64 1)), none⟩,
       ⟨some 10, .mov (.s 41), none⟩]))))))
  (.seq (.reg false false [
     ⟨some 63, .mov (.s 5), none⟩,
     ⟨some 4, .mov (.s 63), none⟩])
  (.ret)))))),
  [.tmp 4], false⟩
theorem fn76_ok : FnOk Try.prog 76 fn76 := by unfold FnOk; kernel_rfl
/-- haruspex/circuit.times -/
def fn77 : Mx.Fn := ⟨23,
  .seq (.reg false false [
     ⟨some 4, .mov (.c (.int .i64 0)), none⟩])
  (.seq (.reg false false [
     ⟨some 8, .mov (.s 0), none⟩,
     ⟨some 9, .conv .u64 (.s 8), none⟩,
     ⟨some 10, .mov (.s 1), none⟩,
     ⟨some 11, .conv .u64 (.s 10), none⟩,
     ⟨some 12, .call 79 [(.s 9), (.s 11)], none⟩,
     ⟨some 7, .mov (.s 12), none⟩,
     ⟨some 13, .ext (.s 7) 0, none⟩,
     ⟨some 14, .ext (.s 7) 1, none⟩,
     ⟨some 5, .mov (.s 13), none⟩,
     ⟨some 6, .mov (.s 14), none⟩])
  (.seq (.seq (.reg false false [
      ⟨some 15, .mov (.s 5), none⟩,
      ⟨some 16, .bin .gtr (.s 15) (.c (.int .u64 0)), none⟩,
      ⟨some 17, .mov (.s 16), none⟩,
      ⟨some 18, .mov (.s 6), some (17, false)⟩,
      ⟨some 19, .bin .gtr (.s 18) (.c (.int .u64 4611686018427387903)), some (17, false)⟩,
      ⟨some 20, .pick (.s 17) (.c (.bool true)) (.s 19), none⟩])
   (.cond (.s 20)
     (.seq (.reg false false [
         ⟨some 4, .mov (.c (.int .i64 4611686018427387904)), none⟩])
      (.ret))
     (.skip)))
  (.seq (.reg false false [
     ⟨some 21, .mov (.s 6), none⟩,
     ⟨some 22, .conv .i64 (.s 21), none⟩,
     ⟨some 4, .mov (.s 22), none⟩])
  (.ret)))),
  [.tmp 4], true⟩
theorem fn77_ok : FnOk Try.prog 77 fn77 := by unfold FnOk; kernel_rfl
/-- math/bits.Mul32 -/
def fn78 : Mx.Fn := ⟨17,
  .seq (.reg false false [
     ⟨some 4, .mov (.c (.int .u32 0)), none⟩,
     ⟨some 5, .mov (.c (.int .u32 0)), none⟩])
  (.seq (.reg false false [
     ⟨some 7, .mov (.s 0), none⟩,
     ⟨some 8, .conv .u64 (.s 7), none⟩,
     ⟨some 9, .mov (.s 1), none⟩,
     ⟨some 10, .conv .u64 (.s 9), none⟩,
     ⟨some 11, .bin .mul (.s 8) (.s 10), none⟩,
     ⟨some 6, .mov (.s 11), none⟩])
  (.seq (.reg false false [
     ⟨some 12, .mov (.s 6), none⟩,
     ⟨some 13, .bin .shr (.s 12) (.c (.int .u64 32)), none⟩,
     ⟨some 14, .conv .u32 (.s 13), none⟩,
     ⟨some 15, .mov (.s 6), none⟩,
     ⟨some 16, .conv .u32 (.s 15), none⟩,
     ⟨some 4, .mov (.s 14), none⟩,
     ⟨some 5, .mov (.s 16), none⟩])
  (.ret))),
  [.tmp 4, .tmp 5], true⟩
theorem fn78_ok : FnOk Try.prog 78 fn78 := by unfold FnOk; kernel_rfl
/-- math/bits.Mul64 -/
def fn79 : Mx.Fn := ⟨51,
  .seq (.reg false false [
     ⟨some 4, .mov (.c (.int .u64 0)), none⟩,
     ⟨some 5, .mov (.c (.int .u64 0)), none⟩])
  (.seq (.reg false false [
     ⟨some 14, .mov (.s 0), none⟩,
     ⟨some 15, .bin .and (.s 14) (.c (.int .u64 4294967295)), none⟩,
     ⟨some 6, .mov (.s 15), none⟩])
  (.seq (.reg false false [
     ⟨some 16, .mov (.s 0), none⟩,
     ⟨some 17, .bin .shr (.s 16) (.c (.int .u64 32)), none⟩,
     ⟨some 7, .mov (.s 17), none⟩])
  (.seq (.reg false false [
     ⟨some 18, .mov (.s 1), none⟩,
     ⟨some 19, .bin .and (.s 18) (.c (.int .u64 4294967295)), none⟩,
     ⟨some 8, .mov (.s 19), none⟩])
  (.seq (.reg false false [
     ⟨some 20, .mov (.s 1), none⟩,
     ⟨some 21, .bin .shr (.s 20) (.c (.int .u64 32)), none⟩,
     ⟨some 9, .mov (.s 21), none⟩])
  (.seq (.reg false false [
     ⟨some 22, .mov (.s 6), none⟩,
     ⟨some 23, .mov (.s 8), none⟩,
     ⟨some 24, .bin .mul (.s 22) (.s 23), none⟩,
     ⟨some 10, .mov (.s 24), none⟩])
  (.seq (.reg false false [
     ⟨some 25, .mov (.s 7), none⟩,
     ⟨some 26, .mov (.s 8), none⟩,
     ⟨some 27, .bin .mul (.s 25) (.s 26), none⟩,
     ⟨some 28, .mov (.s 10), none⟩,
     ⟨some 29, .bin .shr (.s 28) (.c (.int .u64 32)), none⟩,
     ⟨some 30, .bin .add (.s 27) (.s 29), none⟩,
     ⟨some 11, .mov (.s 30), none⟩])
  (.seq (.reg false false [
     ⟨some 31, .mov (.s 11), none⟩,
     ⟨some 32, .bin .and (.s 31) (.c (.int .u64 4294967295)), none⟩,
     ⟨some 12, .mov (.s 32), none⟩])
  (.seq (.reg false false [
     ⟨some 33, .mov (.s 11), none⟩,
     ⟨some 34, .bin .shr (.s 33) (.c (.int .u64 32)), none⟩,
     ⟨some 13, .mov (.s 34), none⟩])
  (.seq (.reg false false [
     ⟨some 35, .mov (.s 12), none⟩,
     ⟨some 36, .mov (.s 6), none⟩,
     ⟨some 37, .mov (.s 9), none⟩,
     ⟨some 38, .bin .mul (.s 36) (.s 37), none⟩,
     ⟨some 39, .bin .add (.s 35) (.s 38), none⟩,
     ⟨some 12, .mov (.s 39), none⟩])
  (.seq (.reg false false [
     ⟨some 40, .mov (.s 7), none⟩,
     ⟨some 41, .mov (.s 9), none⟩,
     ⟨some 42, .bin .mul (.s 40) (.s 41), none⟩,
     ⟨some 43, .mov (.s 13), none⟩,
     ⟨some 44, .bin .add (.s 42) (.s 43), none⟩,
     ⟨some 45, .mov (.s 12), none⟩,
     ⟨some 46, .bin .shr (.s 45) (.c (.int .u64 32)), none⟩,
     ⟨some 47, .bin .add (.s 44) (.s 46), none⟩,
     ⟨some 4, .mov (.s 47), none⟩])
  (.seq (.reg false false [
     ⟨some 48, .mov (.s 0), none⟩,
     ⟨some 49, .mov (.s 1), none⟩,
     ⟨some 50, .bin .mul (.s 48) (.s 49), none⟩,
     ⟨some 5, .mov (.s 50), none⟩])
  (.ret)))))))))))),
  [.tmp 4, .tmp 5], true⟩
theorem fn79_ok : FnOk Try.prog 79 fn79 := by unfold FnOk; kernel_rfl
/-- haruspex/weigh.Combinations -/
def fn85 : Mx.Fn := ⟨4,
  .seq (.reg false false [
     ⟨some 1, .box (.s 0), none⟩,
     ⟨some 2, .mov (.c .nilFunc), none⟩])
  (.seq (.reg false false [
     ⟨some 3, .clo 91 [] [(.s 1)], none⟩,
     ⟨some 2, .mov (.s 3), none⟩])
  (.ret)),
  [.tmp 2], false⟩
theorem fn85_ok : FnOk Try.prog 85 fn85 := by unfold FnOk; kernel_rfl
/-- haruspex/weigh.Combinations$1 -/
def fn91 : Mx.Fn := ⟨45,
  .seq (.reg false false [
     ⟨some 6, .load none (.s 1), none⟩,
     ⟨some 7, .len (.s 6), none⟩,
     ⟨some 8, .mk 1 8 [(.int .i64 0)] (.s 7) (.s 7), none⟩,
     ⟨some 3, .mov (.s 8), none⟩])
  (.seq (.reg false false [
     ⟨some 4, .mov (.c (.int .i64 0)), none⟩])
  (.block 0 (.loop (.seq (.seq (.reg false false [
        ⟨some 9, .mov (.s 0), none⟩,
        ⟨some 10, .mov (.s 4), none⟩,
        ⟨some 11, .mov (.s 3), none⟩,
        ⟨some 12, .callv (.s 9) [(.s 10), (.s 11)], none⟩])
     (.cond (.s 12)
       (.skip)
       (.exit 0)))
    (.seq (.block 1 (.seq (.reg false false [
         ⟨some 15, .load none (.s 1), none⟩,
         ⟨some 16, .len (.s 15), none⟩,
         ⟨some 17, .bin .sub (.s 16) (.c (.int .i64 1)), none⟩,
         ⟨some 5, .mov (.s 17), none⟩])
      (.seq (.block 2 (.loop (.seq (.seq (.reg true false [
             ⟨some 18, .mov (.s 5), none⟩,
             ⟨some 19, .bin .geq (.s 18) (.c (.int .i64 0)), none⟩,
             ⟨some 20, .mov (.s 19), none⟩,
             ⟨some 21, .mov (.s 3), some (20, true)⟩,
             ⟨some 22, .mov (.s 5), some (20, true)⟩,
             ⟨some 23, .idxS 1 (.s 21) (.s 22), some (20, true)⟩,
             ⟨some 24, .load none (.s 23), some (20, true)⟩,
             ⟨some 25, .load none (.s 1), some (20, true)⟩,
             ⟨some 26, .mov (.s 5), some (20, true)⟩,
             ⟨some 27, .idxS 1 (.s 25) (.s 26), some (20, true)⟩,
             ⟨some 28, .load none (.s 27), some (20, true)⟩,
             ⟨some 29, .bin .sub (.s 28) (.c (.int .i64 1)), some (20, true)⟩,
             ⟨some 30, .bin .eql (.s 24) (.s 29), some (20, true)⟩,
             ⟨some 31, .pick (.s 20) (.s 30) (.c (.bool false)), none⟩])
          (.cond (.s 31)
            (.skip)
            (.exit 2)))
         (.block 3 (.seq (.reg false false [
             ⟨some 32, .mov (.s 3), none⟩,
             ⟨some 33, .mov (.s 5), none⟩,
             ⟨some 34, .idxS 1 (.s 32) (.s 33), none⟩,
             ⟨none, .store 1 (.s 34) (.c (.int .i64 0)), none⟩])
          (.reg false false [
            ⟨some 35, .mov (.s 5), none⟩,
            ⟨some 36, .bin .sub (.s 35) (.c (.int .i64 1)), none⟩,
            ⟨some 5, .mov (.s 36), none⟩]))))))
      (.seq (.seq (.reg false false [
          ⟨some 37, .mov (.s 5), none⟩,
          ⟨some 38, .bin .lss (.s 37) (.c (.int .i64 0)), none⟩])
       (.cond (.s 38)
         (.ret)
         (.skip)))
      (.reg false false [
        ⟨some 39, .mov (.s 3), none⟩,
        ⟨some 40, .mov (.s 5), none⟩,
        ⟨some 41, .idxS 1 (.s 39) (.s 40), none⟩,
        ⟨some 42, .load none (.s 41), none⟩,
        ⟨some 43, .bin .add (.s 42) (.c (.int .i64 1)), none⟩,
        ⟨some 44, .idxS 1 (.s 39) (.s 40), none⟩,
        ⟨none, .store 1 (.s 44) (.s 43), none⟩])))))
    (.reg false false [
      ⟨some 13, .mov (.s 4), none⟩,
      ⟨some 14, .bin .add (.s 13) (.c (.int .i64 1)), none⟩,
      ⟨some 4, .mov (.s 14), none⟩])))))),
  [], false⟩
theorem fn91_ok : FnOk Try.prog 91 fn91 := by unfold FnOk; kernel_rfl
def tab : List (Nat × Mx.Fn) := [(8, fn8), (10, fn10), (13, fn13), (14, fn14), (15, fn15), (20, fn20), (22, fn22), (24, fn24), (28, fn28), (29, fn29), (30, fn30), (31, fn31), (32, fn32), (33, fn33), (34, fn34), (42, fn42), (43, fn43), (44, fn44), (45, fn45), (49, fn49), (50, fn50), (51, fn51), (54, fn54), (55, fn55), (58, fn58), (59, fn59), (67, fn67), (70, fn70), (71, fn71), (72, fn72), (73, fn73), (74, fn74), (75, fn75), (76, fn76), (77, fn77), (78, fn78), (79, fn79), (85, fn85), (91, fn91)]
theorem tab_ok : ∀ x ∈ tab, FnOk Try.prog x.1 x.2 := by
  intro x hx
  simp only [tab, List.mem_cons, List.not_mem_nil, or_false] at hx
  rcases hx with rfl | rfl | rfl | rfl | rfl | rfl | rfl | rfl | rfl | rfl | rfl | rfl | rfl | rfl | rfl | rfl | rfl | rfl | rfl | rfl | rfl | rfl | rfl | rfl | rfl | rfl | rfl | rfl | rfl | rfl | rfl | rfl | rfl | rfl | rfl | rfl | rfl | rfl | rfl
  · exact fn8_ok
  · exact fn10_ok
  · exact fn13_ok
  · exact fn14_ok
  · exact fn15_ok
  · exact fn20_ok
  · exact fn22_ok
  · exact fn24_ok
  · exact fn28_ok
  · exact fn29_ok
  · exact fn30_ok
  · exact fn31_ok
  · exact fn32_ok
  · exact fn33_ok
  · exact fn34_ok
  · exact fn42_ok
  · exact fn43_ok
  · exact fn44_ok
  · exact fn45_ok
  · exact fn49_ok
  · exact fn50_ok
  · exact fn51_ok
  · exact fn54_ok
  · exact fn55_ok
  · exact fn58_ok
  · exact fn59_ok
  · exact fn67_ok
  · exact fn70_ok
  · exact fn71_ok
  · exact fn72_ok
  · exact fn73_ok
  · exact fn74_ok
  · exact fn75_ok
  · exact fn76_ok
  · exact fn77_ok
  · exact fn78_ok
  · exact fn79_ok
  · exact fn85_ok
  · exact fn91_ok
end Go.Proofs.Ytbjfkbkmoeibdaa
