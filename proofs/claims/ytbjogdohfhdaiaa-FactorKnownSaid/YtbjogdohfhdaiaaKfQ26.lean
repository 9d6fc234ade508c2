/-
 What l03_works computes. Conditions: none.
-/
import Derived.Test.YtbjogdohfhdaiaaKfJ2
import Derived.Test.YtbjogdohfhdaiaaKfJ3
set_option linter.unusedSimpArgs false
set_option linter.unusedVariables false
set_option maxRecDepth 100000
set_option maxHeartbeats 4000000
namespace Go.Dc
open Go Go.Mx Go.Lx Go.Proofs
def zcK:Option Bool:=
(zav [1,4] [2,2] [1,2,3,4]).bind fun r1=>
(zav [4] [2] [2,0]).bind fun r3=>
(zav [1,4] [2,2] [2,0,6,0]).bind fun r5=>
(zcn r1).bind fun r7=>
(((zbR r5).bind fun r9=>
(zaD r1 r3).bind fun r11=>
(zaU r11.1 r11.2 r9).bind fun r13=>
bif r13 then(
(zbR r3).bind fun r16=>
(zca).bind fun r18=>
(zaD r3 r18).bind fun r20=>
(zaU r20.1 r20.2 r16).bind fun r22=>
bif r22 then(
(zav [4] [2] [4,6]).bind fun r25=>
(zbR r25).bind fun r27=>
(zcc r1 1).bind fun r29=>
(zaU r29.1 r29.2 r27).bind fun r31=>
bif r31 then(
(zav [1] [2] [2,4]).bind fun r34=>
(zbR r34).bind fun r36=>
(zcG r1 4).bind fun r38=>
(zaU r38.1 r38.2 r36).bind fun r40=>
bif r40 then(
(zav [4] [2] [3,4]).bind fun r43=>
(zbR r43).bind fun r45=>
(zbv r1 1 1).bind fun r47=>
(zaU r47.1 r47.2 r45).bind fun r49=>
some r49)
else(
some false))
else(
some false))
else(
some false))
else(
some false):Option Bool)).bind fun v6=>
((bif v6 then(
(zav [4] [2] [4,6]).bind fun r52=>
(zbR r52).bind fun r54=>
(zbt r1 [4]).bind fun r56=>
(zaU r56.1 r56.2 r54).bind fun r58=>
bif r58 then(
(zav [] [] [10]).bind fun r61=>
(zbR r61).bind fun r63=>
(zbt r1 []).bind fun r65=>
(zaU r65.1 r65.2 r63).bind fun r67=>
bif r67 then(
bif (r7.1 == 10)then(
bif (r7.2 == 0)then(
(zav [1,4] [2,2] [1,0,3,0]).bind fun r72=>
(zbR r72).bind fun r74=>
(zaY r5 r3).bind fun r76=>
(zaU r76.1 r76.2 r74).bind fun r78=>
bif r78 then(
(zaw 4).bind fun r81=>
(zaY r1 r3).bind fun r83=>
(zao r83.1 r83.2 r81).bind fun r85=>
bif r85 then(
(zaw 2).bind fun r88=>
(zaY r3 r1).bind fun r90=>
(zao r90.1 r90.2 r88).bind fun r92=>
some r92)
else(
some false))
else(
some false))
else(
some false))
else(
some false))
else(
some false))
else(
some false))
else(
some false):Option Bool)).bind fun v6'=>
((bif v6' then(
(zaw 4).bind fun r95=>
(zcc r1 2).bind fun r97=>
(zao r97.1 r97.2 r95).bind fun r99=>
bif r99 then(
(zaw 2).bind fun r102=>
(zbv r1 4 2).bind fun r104=>
(zao r104.1 r104.2 r102).bind fun r106=>
bif r106 then(
(zaw 2).bind fun r109=>
(zbt r1 [4,1]).bind fun r111=>
(zao r111.1 r111.2 r109).bind fun r113=>
bif r113 then(
(zaw 2).bind fun r116=>
(zav [4] [3] [1,1,1]).bind fun r118=>
(zaD r1 r118).bind fun r120=>
(zao r120.1 r120.2 r116).bind fun r122=>
some r122)
else(
some false))
else(
some false))
else(
some false))
else(
some false):Option Bool)).bind fun v6''=>
((bif v6'' then(
(zav [4,1] [2,2] [1,2,3,4]).bind fun r125=>
(zaq r125).bind fun r127=>
bif (r127 == 30)then(
(zav [1] [2] [1]).bind fun r130=>
(zaq r130).bind fun r132=>
bif (r132 == 30)then(
(zav [] [] [(-1)]).bind fun r135=>
(zaq r135).bind fun r137=>
some (r137 == 30))
else(
some false))
else(
some false))
else(
some false):Option Bool)).bind fun v0=>
some v0
def zg5:C:=
 .seq (rg [oJ 0 false])
 (.seq (rg [⟨some 7,.bsl 1 2 [(.int .i64 0)] [(0,(.c (.int .i64 1))),(1,(.c (.int .i64 4)))],none⟩,
 ⟨some 8,.bsl 1 2 [(.int .i64 0)] [(0,(.c (.int .i64 2))),(1,(.c (.int .i64 2)))],none⟩,
 ⟨some 9,.bsl 1 4 [(.int .i64 0)] [(0,(.c (.int .i64 1))),(1,(.c (.int .i64 2))),(2,(.c (.int .i64 3))),(3,(.c (.int .i64 4)))],none⟩,
 ⟨some 10,.call 27 [(.s 7),(.s 8),(.s 9)],none⟩,
 ⟨some 11,.bsl 1 1 [(.int .i64 0)] [(0,(.c (.int .i64 4)))],none⟩,
 ⟨some 12,.bsl 1 1 [(.int .i64 0)] [(0,(.c (.int .i64 2)))],none⟩,
 ⟨some 13,.bsl 1 2 [(.int .i64 0)] [(0,(.c (.int .i64 2))),(1,(.c (.int .i64 0)))],none⟩,
 ⟨some 14,.call 27 [(.s 11),(.s 12),(.s 13)],none⟩,
 ⟨some 1,.alloc [(.slice none 0 0),(.slice none 0 0),(.slice none 0 0)],none⟩,
 ⟨some 2,.alloc [(.slice none 0 0),(.slice none 0 0),(.slice none 0 0)],none⟩,
 oS 3 1 10,
 oS 3 2 14])
 (.seq (rg [⟨some 15,.bsl 1 2 [(.int .i64 0)] [(0,(.c (.int .i64 1))),(1,(.c (.int .i64 4)))],none⟩,
 ⟨some 16,.bsl 1 2 [(.int .i64 0)] [(0,(.c (.int .i64 2))),(1,(.c (.int .i64 2)))],none⟩,
 ⟨some 17,.bsl 1 4 [(.int .i64 0)] [(0,(.c (.int .i64 2))),(1,(.c (.int .i64 0))),(2,(.c (.int .i64 6))),(3,(.c (.int .i64 0)))],none⟩,
 ⟨some 18,.call 27 [(.s 15),(.s 16),(.s 17)],none⟩,
 ⟨some 3,.alloc [(.slice none 0 0),(.slice none 0 0),(.slice none 0 0)],none⟩,
 oS 3 3 18])
 (.seq (rg [oN 20 3 1,
 oU 21 28 20,
 oM 19 21,
 oX 22 19 0,
 oX 23 19 1,
 oM 4 22,
 oM 5 23])
 (.seq (.scope (.reg true true [oN 24 3 3,
 oN 26 3 1,
 oN 27 3 2,
 oU 25 32 24,
 oV 28 31 26 27,
 oX 29 28 0,
 oX 30 28 1,
 ⟨some 31,.za2 (.s 25) [(.s 29),(.s 30)],none⟩,
 oM 32 31,
 ⟨some 33,.load (some 3) (.s 2),some (32,true)⟩,
 ⟨some 35,.load (some 3) (.s 2),some (32,true)⟩,
 ⟨some 34,.call 32 [(.s 33)],some (32,true)⟩,
 ⟨some 36,.call 38 [],some (32,true)⟩,
 ⟨some 37,.call 31 [(.s 35),(.s 36)],some (32,true)⟩,
 ⟨some 38,.ext (.s 37) 0,some (32,true)⟩,
 ⟨some 39,.ext (.s 37) 1,some (32,true)⟩,
 ⟨some 40,.za2 (.s 34) [(.s 38),(.s 39)],some (32,true)⟩,
 ⟨some 41,.pick (.s 32) (.s 40) (.c (.bool false)),none⟩,
 oM 42 41,
 ⟨some 48,.load (some 3) (.s 1),some (42,true)⟩,
 ⟨some 43,.bsl 1 1 [(.int .i64 0)] [(0,(.c (.int .i64 4)))],some (42,true)⟩,
 ⟨some 44,.bsl 1 1 [(.int .i64 0)] [(0,(.c (.int .i64 2)))],some (42,true)⟩,
 ⟨some 45,.bsl 1 2 [(.int .i64 0)] [(0,(.c (.int .i64 4))),(1,(.c (.int .i64 6)))],some (42,true)⟩,
 ⟨some 46,.call 27 [(.s 43),(.s 44),(.s 45)],some (42,true)⟩,
 ⟨some 47,.call 32 [(.s 46)],some (42,true)⟩,
 ⟨some 49,.call 33 [(.s 48),(.c (.int .i64 1))],some (42,true)⟩,
 ⟨some 50,.ext (.s 49) 0,some (42,true)⟩,
 ⟨some 51,.ext (.s 49) 1,some (42,true)⟩,
 ⟨some 52,.za2 (.s 47) [(.s 50),(.s 51)],some (42,true)⟩,
 ⟨some 53,.pick (.s 42) (.s 52) (.c (.bool false)),none⟩,
 oM 54 53,
 ⟨some 60,.load (some 3) (.s 1),some (54,true)⟩,
 ⟨some 55,.bsl 1 1 [(.int .i64 0)] [(0,(.c (.int .i64 1)))],some (54,true)⟩,
 ⟨some 56,.bsl 1 1 [(.int .i64 0)] [(0,(.c (.int .i64 2)))],some (54,true)⟩,
 ⟨some 57,.bsl 1 2 [(.int .i64 0)] [(0,(.c (.int .i64 2))),(1,(.c (.int .i64 4)))],some (54,true)⟩,
 ⟨some 58,.call 27 [(.s 55),(.s 56),(.s 57)],some (54,true)⟩,
 ⟨some 59,.call 32 [(.s 58)],some (54,true)⟩,
 ⟨some 61,.call 34 [(.s 60),(.c (.int .i64 4))],some (54,true)⟩,
 ⟨some 62,.ext (.s 61) 0,some (54,true)⟩,
 ⟨some 63,.ext (.s 61) 1,some (54,true)⟩,
 ⟨some 64,.za2 (.s 59) [(.s 62),(.s 63)],some (54,true)⟩,
 ⟨some 65,.pick (.s 54) (.s 64) (.c (.bool false)),none⟩,
 oM 66 65,
 ⟨some 72,.load (some 3) (.s 1),some (66,true)⟩,
 ⟨some 67,.bsl 1 1 [(.int .i64 0)] [(0,(.c (.int .i64 4)))],some (66,true)⟩,
 ⟨some 68,.bsl 1 1 [(.int .i64 0)] [(0,(.c (.int .i64 2)))],some (66,true)⟩,
 ⟨some 69,.bsl 1 2 [(.int .i64 0)] [(0,(.c (.int .i64 3))),(1,(.c (.int .i64 4)))],some (66,true)⟩,
 ⟨some 70,.call 27 [(.s 67),(.s 68),(.s 69)],some (66,true)⟩,
 ⟨some 71,.call 32 [(.s 70)],some (66,true)⟩,
 ⟨some 73,.call 36 [(.s 72),(.c (.int .i64 1)),(.c (.int .i64 1))],some (66,true)⟩,
 ⟨some 74,.ext (.s 73) 0,some (66,true)⟩,
 ⟨some 75,.ext (.s 73) 1,some (66,true)⟩,
 ⟨some 76,.za2 (.s 71) [(.s 74),(.s 75)],some (66,true)⟩,
 ⟨some 77,.pick (.s 66) (.s 76) (.c (.bool false)),none⟩,
 oM 6 77]))
 (.seq (.scope (.reg true true [oM 78 6,
 oM 79 78,
 ⟨some 85,.load (some 3) (.s 1),some (79,true)⟩,
 ⟨some 80,.bsl 1 1 [(.int .i64 0)] [(0,(.c (.int .i64 4)))],some (79,true)⟩,
 ⟨some 81,.bsl 1 1 [(.int .i64 0)] [(0,(.c (.int .i64 2)))],some (79,true)⟩,
 ⟨some 82,.bsl 1 2 [(.int .i64 0)] [(0,(.c (.int .i64 4))),(1,(.c (.int .i64 6)))],some (79,true)⟩,
 ⟨some 83,.call 27 [(.s 80),(.s 81),(.s 82)],some (79,true)⟩,
 ⟨some 84,.call 32 [(.s 83)],some (79,true)⟩,
 ⟨some 86,.bsl 1 1 [(.int .i64 0)] [(0,(.c (.int .i64 4)))],some (79,true)⟩,
 ⟨some 87,.call 35 [(.s 85),(.s 86)],some (79,true)⟩,
 ⟨some 88,.ext (.s 87) 0,some (79,true)⟩,
 ⟨some 89,.ext (.s 87) 1,some (79,true)⟩,
 ⟨some 90,.za2 (.s 84) [(.s 88),(.s 89)],some (79,true)⟩,
 ⟨some 91,.pick (.s 79) (.s 90) (.c (.bool false)),none⟩,
 oM 92 91,
 ⟨some 96,.load (some 3) (.s 1),some (92,true)⟩,
 ⟨some 93,.bsl 1 1 [(.int .i64 0)] [(0,(.c (.int .i64 10)))],some (92,true)⟩,
 ⟨some 94,.call 27 [(.c (.slice none 0 0)),(.c (.slice none 0 0)),(.s 93)],some (92,true)⟩,
 ⟨some 95,.call 32 [(.s 94)],some (92,true)⟩,
 ⟨some 97,.call 35 [(.s 96),(.c (.slice none 0 0))],some (92,true)⟩,
 ⟨some 98,.ext (.s 97) 0,some (92,true)⟩,
 ⟨some 99,.ext (.s 97) 1,some (92,true)⟩,
 ⟨some 100,.za2 (.s 95) [(.s 98),(.s 99)],some (92,true)⟩,
 ⟨some 101,.pick (.s 92) (.s 100) (.c (.bool false)),none⟩,
 oM 102 101,
 oMg 103 4 102 true,
 oDg 104 .eql 103 10 102 true,
 ⟨some 105,.pick (.s 102) (.s 104) (.c (.bool false)),none⟩,
 oM 106 105,
 oMg 107 5 106 true,
 oDg 108 .eql 107 0 106 true,
 ⟨some 109,.pick (.s 106) (.s 108) (.c (.bool false)),none⟩,
 oM 110 109,
 ⟨some 116,.load (some 3) (.s 3),some (110,true)⟩,
 ⟨some 117,.load (some 3) (.s 2),some (110,true)⟩,
 ⟨some 111,.bsl 1 2 [(.int .i64 0)] [(0,(.c (.int .i64 1))),(1,(.c (.int .i64 4)))],some (110,true)⟩,
 ⟨some 112,.bsl 1 2 [(.int .i64 0)] [(0,(.c (.int .i64 2))),(1,(.c (.int .i64 2)))],some (110,true)⟩,
 ⟨some 113,.bsl 1 4 [(.int .i64 0)] [(0,(.c (.int .i64 1))),(1,(.c (.int .i64 0))),(2,(.c (.int .i64 3))),(3,(.c (.int .i64 0)))],some (110,true)⟩,
 ⟨some 114,.call 27 [(.s 111),(.s 112),(.s 113)],some (110,true)⟩,
 ⟨some 115,.call 32 [(.s 114)],some (110,true)⟩,
 ⟨some 118,.call 37 [(.s 116),(.s 117)],some (110,true)⟩,
 ⟨some 119,.ext (.s 118) 0,some (110,true)⟩,
 ⟨some 120,.ext (.s 118) 1,some (110,true)⟩,
 ⟨some 121,.za2 (.s 115) [(.s 119),(.s 120)],some (110,true)⟩,
 ⟨some 122,.pick (.s 110) (.s 121) (.c (.bool false)),none⟩,
 oM 123 122,
 ⟨some 125,.load (some 3) (.s 1),some (123,true)⟩,
 ⟨some 126,.load (some 3) (.s 2),some (123,true)⟩,
 ⟨some 124,.call 30 [(.c (.int .i64 4))],some (123,true)⟩,
 ⟨some 127,.call 37 [(.s 125),(.s 126)],some (123,true)⟩,
 ⟨some 128,.ext (.s 127) 0,some (123,true)⟩,
 ⟨some 129,.ext (.s 127) 1,some (123,true)⟩,
 ⟨some 130,.za2 (.s 124) [(.s 128),(.s 129)],some (123,true)⟩,
 ⟨some 131,.pick (.s 123) (.s 130) (.c (.bool false)),none⟩,
 oM 132 131,
 ⟨some 134,.load (some 3) (.s 2),some (132,true)⟩,
 ⟨some 135,.load (some 3) (.s 1),some (132,true)⟩,
 ⟨some 133,.call 30 [(.c (.int .i64 2))],some (132,true)⟩,
 ⟨some 136,.call 37 [(.s 134),(.s 135)],some (132,true)⟩,
 ⟨some 137,.ext (.s 136) 0,some (132,true)⟩,
 ⟨some 138,.ext (.s 136) 1,some (132,true)⟩,
 ⟨some 139,.za2 (.s 133) [(.s 137),(.s 138)],some (132,true)⟩,
 ⟨some 140,.pick (.s 132) (.s 139) (.c (.bool false)),none⟩,
 oM 6 140]))
 (.seq (.scope (.reg true true [oM 141 6,
 oM 142 141,
 ⟨some 144,.load (some 3) (.s 1),some (142,true)⟩,
 ⟨some 143,.call 30 [(.c (.int .i64 4))],some (142,true)⟩,
 ⟨some 145,.call 33 [(.s 144),(.c (.int .i64 2))],some (142,true)⟩,
 ⟨some 146,.ext (.s 145) 0,some (142,true)⟩,
 ⟨some 147,.ext (.s 145) 1,some (142,true)⟩,
 ⟨some 148,.za2 (.s 143) [(.s 146),(.s 147)],some (142,true)⟩,
 ⟨some 149,.pick (.s 142) (.s 148) (.c (.bool false)),none⟩,
 oM 150 149,
 ⟨some 152,.load (some 3) (.s 1),some (150,true)⟩,
 ⟨some 151,.call 30 [(.c (.int .i64 2))],some (150,true)⟩,
 ⟨some 153,.call 36 [(.s 152),(.c (.int .i64 4)),(.c (.int .i64 2))],some (150,true)⟩,
 ⟨some 154,.ext (.s 153) 0,some (150,true)⟩,
 ⟨some 155,.ext (.s 153) 1,some (150,true)⟩,
 ⟨some 156,.za2 (.s 151) [(.s 154),(.s 155)],some (150,true)⟩,
 ⟨some 157,.pick (.s 150) (.s 156) (.c (.bool false)),none⟩,
 oM 158 157,
 ⟨some 160,.load (some 3) (.s 1),some (158,true)⟩,
 ⟨some 159,.call 30 [(.c (.int .i64 2))],some (158,true)⟩,
 ⟨some 161,.bsl 1 2 [(.int .i64 0)] [(0,(.c (.int .i64 4))),(1,(.c (.int .i64 1)))],some (158,true)⟩,
 ⟨some 162,.call 35 [(.s 160),(.s 161)],some (158,true)⟩,
 ⟨some 163,.ext (.s 162) 0,some (158,true)⟩,
 ⟨some 164,.ext (.s 162) 1,some (158,true)⟩,
 ⟨some 165,.za2 (.s 159) [(.s 163),(.s 164)],some (158,true)⟩,
 ⟨some 166,.pick (.s 158) (.s 165) (.c (.bool false)),none⟩,
 oM 167 166,
 ⟨some 169,.load (some 3) (.s 1),some (167,true)⟩,
 ⟨some 168,.call 30 [(.c (.int .i64 2))],some (167,true)⟩,
 ⟨some 170,.bsl 1 1 [(.int .i64 0)] [(0,(.c (.int .i64 4)))],some (167,true)⟩,
 ⟨some 171,.bsl 1 1 [(.int .i64 0)] [(0,(.c (.int .i64 3)))],some (167,true)⟩,
 ⟨some 172,.bsl 1 3 [(.int .i64 0)] [(0,(.c (.int .i64 1))),(1,(.c (.int .i64 1))),(2,(.c (.int .i64 1)))],some (167,true)⟩,
 ⟨some 173,.call 27 [(.s 170),(.s 171),(.s 172)],some (167,true)⟩,
 ⟨some 174,.call 31 [(.s 169),(.s 173)],some (167,true)⟩,
 ⟨some 175,.ext (.s 174) 0,some (167,true)⟩,
 ⟨some 176,.ext (.s 174) 1,some (167,true)⟩,
 ⟨some 177,.za2 (.s 168) [(.s 175),(.s 176)],some (167,true)⟩,
 ⟨some 178,.pick (.s 167) (.s 177) (.c (.bool false)),none⟩,
 oM 6 178]))
 (.seq (.scope (rg [oM 179 6,
 oM 180 179,
 ⟨some 181,.bsl 1 2 [(.int .i64 0)] [(0,(.c (.int .i64 4))),(1,(.c (.int .i64 1)))],some (180,true)⟩,
 ⟨some 182,.bsl 1 2 [(.int .i64 0)] [(0,(.c (.int .i64 2))),(1,(.c (.int .i64 2)))],some (180,true)⟩,
 ⟨some 183,.bsl 1 4 [(.int .i64 0)] [(0,(.c (.int .i64 1))),(1,(.c (.int .i64 2))),(2,(.c (.int .i64 3))),(3,(.c (.int .i64 4)))],some (180,true)⟩,
 ⟨some 184,.call 27 [(.s 181),(.s 182),(.s 183)],some (180,true)⟩,
 ⟨some 185,.call 29 [(.s 184)],some (180,true)⟩,
 oDg 186 .eql 185 30 180 true,
 ⟨some 187,.pick (.s 180) (.s 186) (.c (.bool false)),none⟩,
 oM 188 187,
 ⟨some 189,.bsl 1 1 [(.int .i64 0)] [(0,(.c (.int .i64 1)))],some (188,true)⟩,
 ⟨some 190,.bsl 1 1 [(.int .i64 0)] [(0,(.c (.int .i64 2)))],some (188,true)⟩,
 ⟨some 191,.bsl 1 1 [(.int .i64 0)] [(0,(.c (.int .i64 1)))],some (188,true)⟩,
 ⟨some 192,.call 27 [(.s 189),(.s 190),(.s 191)],some (188,true)⟩,
 ⟨some 193,.call 29 [(.s 192)],some (188,true)⟩,
 oDg 194 .eql 193 30 188 true,
 ⟨some 195,.pick (.s 188) (.s 194) (.c (.bool false)),none⟩,
 oM 196 195,
 ⟨some 197,.bsl 1 1 [(.int .i64 0)] [(0,(.c (.int .i64 (-1))))],some (196,true)⟩,
 ⟨some 198,.call 27 [(.c (.slice none 0 0)),(.c (.slice none 0 0)),(.s 197)],some (196,true)⟩,
 ⟨some 199,.call 29 [(.s 198)],some (196,true)⟩,
 oDg 200 .eql 199 30 196 true,
 ⟨some 201,.pick (.s 196) (.s 200) (.c (.bool false)),none⟩,
 oM 0 201]))
 (.ret))))))))
theorem zh2:zgs mC 26=some (202,zg5,[.tmp 0],false):=zbj (by kernel_rfl)
theorem zfW{r:Bool}(h:zcK=some r):Lx.Fn mC 26 [] (dB r):=by
 refine Fn.of zh2 (zbc rfl) (qac rfl) ?_;unfold zcK at h;simp only[zg5,zkx];refine zac ?_;try simp only[rnA,Nat.reduceLT,Nat.reduceAdd]
 refine EvL.zcY (S':=⟨202,[(7,(fzE true (eI .i64) [1,4])),(8,(fzE true (eI .i64) [2,2])),(9,(fzE true (eI .i64) [1,2,3,4]))],[]⟩) (zbl.m0 [.f,.f,.f] rfl (mf rfl (zal (e:=(eI .i64)) (t:=true) rfl rfl (.inl rfl) rfl rfl (fun k h=>by cases h; exact qaf _) (fun h=>by cases h<;>rfl)) (mf rfl (zal (e:=(eI .i64)) (t:=true) rfl rfl (.inl rfl) rfl rfl (fun k h=>by cases h; exact qaf _) (fun h=>by cases h<;>rfl)) (mf rfl (zal (e:=(eI .i64)) (t:=true) rfl rfl (.inl rfl) rfl rfl (fun k h=>by cases h; exact qaf _) (fun h=>by cases h<;>rfl)) trivial))) trivial) (zac ?_);obtain⟨r1,g2,h⟩:=bind_some h;try simp only[rnA]
 refine EvL.fnS (zas g2) rfl rfl (.cons (zad _ _ (fun h=>by cases h<;>contradiction)) (.cons (zad _ _ (fun h=>by cases h<;>contradiction)) (.cons (zad _ _ (fun h=>by cases h<;>contradiction)) .nil))) ⟨(zab _ _),(zab _ _),(zab _ _),qcb⟩ ⟨(zab _ _),(zab _ _),(zab _ _),qcb⟩ ?_;try simp only[rnA,Nat.reduceLT,Nat.reduceAdd]
 refine EvL.zcY (S':=⟨202,[(10,(.agg [(fzE false (eI .i64) r1.vars),(fzE false (eI .i64) r1.cards),(fzE false (eI .i64) r1.w)])),(11,(fzE true (eI .i64) [4])),(12,(fzE true (eI .i64) [2])),(13,(fzE true (eI .i64) [2,0]))],[]⟩) (zbl.m0 [.f,.f,.f] rfl (ms rfl ⟨qcb,qcb,qcb,qcb⟩ (mf rfl (zal (e:=(eI .i64)) (t:=true) rfl rfl (.inl rfl) rfl rfl (fun k h=>by cases h; exact qaf _) (fun h=>by cases h<;>rfl)) (mf rfl (zal (e:=(eI .i64)) (t:=true) rfl rfl (.inl rfl) rfl rfl (fun k h=>by cases h; exact qaf _) (fun h=>by cases h<;>rfl)) (mf rfl (zal (e:=(eI .i64)) (t:=true) rfl rfl (.inl rfl) rfl rfl (fun k h=>by cases h; exact qaf _) (fun h=>by cases h<;>rfl)) trivial)))) trivial) (zac ?_);obtain⟨r3,g4,h⟩:=bind_some h;try simp only[rnA]
 refine EvL.fnS (zas g4) rfl rfl (.cons (zad _ _ (fun h=>by cases h<;>contradiction)) (.cons (zad _ _ (fun h=>by cases h<;>contradiction)) (.cons (zad _ _ (fun h=>by cases h<;>contradiction)) .nil))) ⟨(zab _ _),(zab _ _),(zab _ _),qcb⟩ ⟨(zab _ _),(zab _ _),(zab _ _),qcb⟩ ?_;try simp only[rnA,Nat.reduceEqDiff,Nat.reduceLT,Nat.reduceAdd,Nat.reduceLeDiff]
 refine EvL.zcY (S':=⟨202,[(1,(.ptr 0 0)),(2,(.ptr 1 0)),(15,(fzE true (eI .i64) [1,4])),(16,(fzE true (eI .i64) [2,2])),(17,(fzE true (eI .i64) [2,0,6,0]))],[.cells [(fzE false (eI .i64) r1.vars),(fzE false (eI .i64) r1.cards),(fzE false (eI .i64) r1.w)],.cells [(fzE false (eI .i64) r3.vars),(fzE false (eI .i64) r3.cards),(fzE false (eI .i64) r3.w)]]⟩) (zbl.m0 [.k,.k,.f,.f,.f] rfl (msq (msq (mf rfl (zal (e:=(eI .i64)) (t:=true) rfl rfl (.inl rfl) rfl rfl (fun k h=>by cases h; exact qaf _) (fun h=>by cases h<;>rfl)) (mf rfl (zal (e:=(eI .i64)) (t:=true) rfl rfl (.inl rfl) rfl rfl (fun k h=>by cases h; exact qaf _) (fun h=>by cases h<;>rfl)) (mf rfl (zal (e:=(eI .i64)) (t:=true) rfl rfl (.inl rfl) rfl rfl (fun k h=>by cases h; exact qaf _) (fun h=>by cases h<;>rfl)) trivial))))) ⟨MB.cs ⟨qcb,qcb,qcb,qcb⟩,⟨MB.cs ⟨qcb,qcb,qcb,qcb⟩,qcb⟩⟩) (zac ?_);obtain⟨r5,g6,h⟩:=bind_some h;try simp only[rnA]
 refine EvL.fnS (zas g6) rfl rfl (.cons (zad _ _ (fun h=>by cases h<;>contradiction)) (.cons (zad _ _ (fun h=>by cases h<;>contradiction)) (.cons (zad _ _ (fun h=>by cases h<;>contradiction)) .nil))) ⟨(zab _ _),(zab _ _),(zab _ _),qcb⟩ ⟨(zab _ _),(zab _ _),(zab _ _),qcb⟩ ?_;obtain⟨r7,g8,h⟩:=bind_some h;try simp only[rnA,Nat.reduceEqDiff,Nat.reduceLT,Nat.reduceAdd,Nat.reduceLeDiff]
 refine EvL.fn (zdq g8) rfl rfl (.cons (.zaG (.cons (zaa _ _ (fun h=>nomatch h)) (.cons (zaa _ _ (fun h=>nomatch h)) (.cons (zaa _ _ (fun h=>nomatch h)) .nil)))) .nil) ?_;try simp only[rnA,Nat.reduceEqDiff,Nat.reduceLT]
 obtain⟨o1,j1,h⟩:=bind_some h;obtain⟨T1,hT1⟩:=mkT fun a:Bool=>⟨202,[(1,(.ptr 0 0)),(2,(.ptr 1 0)),(3,(.ptr 2 0)),(4,(dI r7.1)),(5,(dI r7.2)),(6,(dB a))],[.cells [(fzE false (eI .i64) r1.vars),(fzE false (eI .i64) r1.cards),(fzE false (eI .i64) r1.w)],.cells [(fzE false (eI .i64) r3.vars),(fzE false (eI .i64) r3.cards),(fzE false (eI .i64) r3.w)],.cells [(fzE false (eI .i64) r5.vars),(fzE false (eI .i64) r5.cards),(fzE false (eI .i64) r5.w)]]⟩
 refine EvL.jn T1 (fun a=>a=o1) ?_ ?_
 ·refine zac ?_;obtain⟨r9,g10,j1⟩:=bind_some j1;try simp only[rnA,Nat.reduceEqDiff,Nat.reduceLT,Nat.reduceAdd,Nat.reduceLeDiff]
  refine EvL.fnS (zbF g10) rfl rfl (.cons (Mzs.agg (.cons (zad _ _ (fun h=>by cases h<;>contradiction)) (.cons (zad _ _ (fun h=>by cases h<;>contradiction)) (.cons (zad _ _ (fun h=>by cases h<;>contradiction)) .nil)))) .nil) ⟨⟨(zab _ _),(zab _ _),(zab _ _),qcb⟩,qcb⟩ ⟨qcb,⟨⟨rfl,zah.fr _⟩,qcb⟩⟩ ?_;obtain⟨r11,g12,j1⟩:=bind_some j1;try simp only[rnA,Nat.reduceLT,zae]
  refine EvL.fn (zbu g12) rfl rfl (.cons (.zaG (.cons (zaa _ _ (fun h=>nomatch h)) (.cons (zaa _ _ (fun h=>nomatch h)) (.cons (zaa _ _ (fun h=>nomatch h)) .nil)))) (.cons (.zaG (.cons (zaa _ _ (fun h=>nomatch h)) (.cons (zaa _ _ (fun h=>nomatch h)) (.cons (zaa _ _ (fun h=>nomatch h)) .nil)))) .nil)) ?_;obtain⟨r13,g14,j1⟩:=bind_some j1;try simp only[rnA,Nat.reduceEqDiff,Nat.reduceLT]
  refine EvL.fnv rfl rfl (za5 g14) rfl (.cons (.zaG (.cons (zaa _ _ (fun h=>nomatch h)) (.cons (zaa _ _ (fun h=>nomatch h)) (.cons (zaa _ _ (fun h=>nomatch h)) .nil)))) (.cons (.lit _) (.cons (.fptr (fun h=>nomatch h) rfl (zah.snp (t:=false) (t':=false) r9 (fun h=>nomatch h)).get) .nil))) ?_;try simp only[rnA,Nat.reduceEqDiff,Nat.reduceLT]
  cases c15:r13
  ·rw[c15,cond_false]at j1;try simp only[rnA,Nat.reduceEqDiff,Nat.reduceLT]
   refine EvL.dead 44 6 [32] ⟨rfl,qcb⟩ rfl ?_;try simp only[rnA]
   replace j1:=qab j1; subst j1;exact lfj hT1 rfl (wm0 [.k,.k,.k] ⟨MB.cs ⟨qcb,qcb,qcb,qcb⟩,⟨MB.cs ⟨qcb,qcb,qcb,qcb⟩,⟨MB.cs ⟨qcb,qcb,qcb,qcb⟩,qcb⟩⟩⟩)
  rw[c15,cond_true]at j1;obtain⟨r16,g17,j1⟩:=bind_some j1;try simp only[rnA,Nat.reduceEqDiff,Nat.reduceLT,Nat.reduceAdd,Nat.reduceLeDiff]
  refine EvL.fnS (zbF g17) rfl rfl (.cons (Mzs.agg (.cons (zad _ _ (fun h=>by cases h<;>contradiction)) (.cons (zad _ _ (fun h=>by cases h<;>contradiction)) (.cons (zad _ _ (fun h=>by cases h<;>contradiction)) .nil)))) .nil) ⟨⟨(zab _ _),(zab _ _),(zab _ _),qcb⟩,qcb⟩ ⟨qcb,⟨⟨rfl,zah.fr _⟩,qcb⟩⟩ ?_;obtain⟨r18,g19,j1⟩:=bind_some j1;try simp only[rnA,Nat.reduceLT,zae]
  refine EvL.fn (zcB g19) rfl rfl .nil ?_;obtain⟨r20,g21,j1⟩:=bind_some j1;try simp only[rnA,Nat.reduceLT]
  refine EvL.fn (zbu g21) rfl rfl (.cons (.zaG (.cons (zaa _ _ (fun h=>nomatch h)) (.cons (zaa _ _ (fun h=>nomatch h)) (.cons (zaa _ _ (fun h=>nomatch h)) .nil)))) (.cons (.zaG (.cons (zaa _ _ (fun h=>nomatch h)) (.cons (zaa _ _ (fun h=>nomatch h)) (.cons (zaa _ _ (fun h=>nomatch h)) .nil)))) .nil)) ?_;obtain⟨r22,g23,j1⟩:=bind_some j1;try simp only[rnA,Nat.reduceEqDiff,Nat.reduceLT]
  refine EvL.fnv rfl rfl (za5 g23) rfl (.cons (.zaG (.cons (zaa _ _ (fun h=>nomatch h)) (.cons (zaa _ _ (fun h=>nomatch h)) (.cons (zaa _ _ (fun h=>nomatch h)) .nil)))) (.cons (.lit _) (.cons (.fptr (fun h=>nomatch h) rfl (zah.snp (t:=false) (t':=false) r16 (fun h=>nomatch h)).get) .nil))) ?_;try simp only[rnA,Nat.reduceEqDiff,Nat.reduceLT]
  cases c24:r22
  ·rw[c24,cond_false]at j1;try simp only[rnA,Nat.reduceEqDiff,Nat.reduceLT]
   refine EvL.dead 32 6 [42] ⟨rfl,qcb⟩ rfl ?_;try simp only[rnA]
   replace j1:=qab j1; subst j1;exact lfj hT1 rfl (wm0 [.k,.k,.k] ⟨MB.cs ⟨qcb,qcb,qcb,qcb⟩,⟨MB.cs ⟨qcb,qcb,qcb,qcb⟩,⟨MB.cs ⟨qcb,qcb,qcb,qcb⟩,qcb⟩⟩⟩)
  rw[c24,cond_true]at j1;try simp only[rnA,Nat.reduceEqDiff,Nat.reduceLT,Nat.reduceAdd,Nat.reduceLeDiff]
  refine EvL.zcY (S':=⟨202,[(1,(.ptr 0 0)),(2,(.ptr 1 0)),(3,(.ptr 2 0)),(4,(dI r7.1)),(5,(dI r7.2)),(42,(dB true)),(43,(fzE true (eI .i64) [4])),(44,(fzE true (eI .i64) [2])),(45,(fzE true (eI .i64) [4,6])),(48,(.agg [(fzE false (eI .i64) r1.vars),(fzE false (eI .i64) r1.cards),(fzE false (eI .i64) r1.w)]))],[.cells [(fzE false (eI .i64) r1.vars),(fzE false (eI .i64) r1.cards),(fzE false (eI .i64) r1.w)],.cells [(fzE false (eI .i64) r3.vars),(fzE false (eI .i64) r3.cards),(fzE false (eI .i64) r3.w)],.cells [(fzE false (eI .i64) r5.vars),(fzE false (eI .i64) r5.cards),(fzE false (eI .i64) r5.w)]]⟩) (zbl.m0 [.k,.k,.k,.f,.f,.f] rfl (msq (msq (msq (msq (msq (msq (mf rfl (zal (e:=(eI .i64)) (t:=true) rfl rfl (.inl rfl) rfl rfl (fun k h=>by cases h; exact qaf _) (fun h=>by cases h<;>rfl)) (mf rfl (zal (e:=(eI .i64)) (t:=true) rfl rfl (.inl rfl) rfl rfl (fun k h=>by cases h; exact qaf _) (fun h=>by cases h<;>rfl)) (mf rfl (zal (e:=(eI .i64)) (t:=true) rfl rfl (.inl rfl) rfl rfl (fun k h=>by cases h; exact qaf _) (fun h=>by cases h<;>rfl)) (ms rfl ⟨qcb,qcb,qcb,qcb⟩ trivial)))))))))) ⟨MB.cs ⟨qcb,qcb,qcb,qcb⟩,⟨MB.cs ⟨qcb,qcb,qcb,qcb⟩,⟨MB.cs ⟨qcb,qcb,qcb,qcb⟩,qcb⟩⟩⟩) (zac ?_);obtain⟨r25,g26,j1⟩:=bind_some j1;try simp only[rnA]
  refine EvL.fnS (zas g26) rfl rfl (.cons (zad _ _ (fun h=>by cases h<;>contradiction)) (.cons (zad _ _ (fun h=>by cases h<;>contradiction)) (.cons (zad _ _ (fun h=>by cases h<;>contradiction)) .nil))) ⟨(zab _ _),(zab _ _),(zab _ _),qcb⟩ ⟨(zab _ _),(zab _ _),(zab _ _),qcb⟩ ?_;obtain⟨r27,g28,j1⟩:=bind_some j1;try simp only[rnA,Nat.reduceLT]
  refine EvL.fnS (zbF g28) rfl rfl (.cons (Mzs.agg (.cons (zad _ _ (fun h=>by cases h<;>contradiction)) (.cons (zad _ _ (fun h=>by cases h<;>contradiction)) (.cons (zad _ _ (fun h=>by cases h<;>contradiction)) .nil)))) .nil) ⟨⟨(zab _ _),(zab _ _),(zab _ _),qcb⟩,qcb⟩ ⟨qcb,⟨⟨rfl,zah.fr _⟩,qcb⟩⟩ ?_;obtain⟨r29,g30,j1⟩:=bind_some j1;try simp only[rnA,Nat.reduceLT,zae]
  refine EvL.fnS (zc9 g30) rfl rfl (.cons (Mzs.agg (.cons (zad _ _ (fun h=>by cases h<;>contradiction)) (.cons (zad _ _ (fun h=>by cases h<;>contradiction)) (.cons (zad _ _ (fun h=>by cases h<;>contradiction)) .nil)))) (.cons (.lit _) .nil)) ⟨⟨(zab _ _),(zab _ _),(zab _ _),qcb⟩,qcb,qcb⟩ ⟨⟨(zab _ _),(zab _ _),(zab _ _),qcb⟩,qcb,qcb⟩ ?_;obtain⟨r31,g32,j1⟩:=bind_some j1;try simp only[rnA,Nat.reduceEqDiff,Nat.reduceLT]
  refine EvL.fnv rfl rfl (za5 g32) rfl (.cons (.zaG (.cons (zaa _ _ (fun h=>nomatch h)) (.cons (zaa _ _ (fun h=>nomatch h)) (.cons (zaa _ _ (fun h=>nomatch h)) .nil)))) (.cons (.lit _) (.cons (.fptr (fun h=>nomatch h) rfl (zah.snp (t:=false) (t':=false) r27 (fun h=>nomatch h)).get) .nil))) ?_;try simp only[rnA,Nat.reduceEqDiff,Nat.reduceLT]
  cases c33:r31
  ·rw[c33,cond_false]at j1;try simp only[rnA,Nat.reduceEqDiff,Nat.reduceLT]
   refine EvL.dead 20 6 [54] ⟨rfl,qcb⟩ rfl ?_;try simp only[rnA]
   replace j1:=qab j1; subst j1;exact lfj hT1 rfl (wm0 [.k,.k,.k] ⟨MB.cs ⟨qcb,qcb,qcb,qcb⟩,⟨MB.cs ⟨qcb,qcb,qcb,qcb⟩,⟨MB.cs ⟨qcb,qcb,qcb,qcb⟩,qcb⟩⟩⟩)
  rw[c33,cond_true]at j1;try simp only[rnA,Nat.reduceEqDiff,Nat.reduceLT,Nat.reduceAdd,Nat.reduceLeDiff]
  refine EvL.zcY (S':=⟨202,[(1,(.ptr 0 0)),(2,(.ptr 1 0)),(3,(.ptr 2 0)),(4,(dI r7.1)),(5,(dI r7.2)),(54,(dB true)),(55,(fzE true (eI .i64) [1])),(56,(fzE true (eI .i64) [2])),(57,(fzE true (eI .i64) [2,4])),(60,(.agg [(fzE false (eI .i64) r1.vars),(fzE false (eI .i64) r1.cards),(fzE false (eI .i64) r1.w)]))],[.cells [(fzE false (eI .i64) r1.vars),(fzE false (eI .i64) r1.cards),(fzE false (eI .i64) r1.w)],.cells [(fzE false (eI .i64) r3.vars),(fzE false (eI .i64) r3.cards),(fzE false (eI .i64) r3.w)],.cells [(fzE false (eI .i64) r5.vars),(fzE false (eI .i64) r5.cards),(fzE false (eI .i64) r5.w)]]⟩) (zbl.m0 [.k,.k,.k,.f,.f,.f] rfl (msq (msq (msq (msq (msq (msq (mf rfl (zal (e:=(eI .i64)) (t:=true) rfl rfl (.inl rfl) rfl rfl (fun k h=>by cases h; exact qaf _) (fun h=>by cases h<;>rfl)) (mf rfl (zal (e:=(eI .i64)) (t:=true) rfl rfl (.inl rfl) rfl rfl (fun k h=>by cases h; exact qaf _) (fun h=>by cases h<;>rfl)) (mf rfl (zal (e:=(eI .i64)) (t:=true) rfl rfl (.inl rfl) rfl rfl (fun k h=>by cases h; exact qaf _) (fun h=>by cases h<;>rfl)) (ms rfl ⟨qcb,qcb,qcb,qcb⟩ trivial)))))))))) ⟨MB.cs ⟨qcb,qcb,qcb,qcb⟩,⟨MB.cs ⟨qcb,qcb,qcb,qcb⟩,⟨MB.cs ⟨qcb,qcb,qcb,qcb⟩,qcb⟩⟩⟩) (zac ?_);obtain⟨r34,g35,j1⟩:=bind_some j1;try simp only[rnA]
  refine EvL.fnS (zas g35) rfl rfl (.cons (zad _ _ (fun h=>by cases h<;>contradiction)) (.cons (zad _ _ (fun h=>by cases h<;>contradiction)) (.cons (zad _ _ (fun h=>by cases h<;>contradiction)) .nil))) ⟨(zab _ _),(zab _ _),(zab _ _),qcb⟩ ⟨(zab _ _),(zab _ _),(zab _ _),qcb⟩ ?_;obtain⟨r36,g37,j1⟩:=bind_some j1;try simp only[rnA,Nat.reduceLT]
  refine EvL.fnS (zbF g37) rfl rfl (.cons (Mzs.agg (.cons (zad _ _ (fun h=>by cases h<;>contradiction)) (.cons (zad _ _ (fun h=>by cases h<;>contradiction)) (.cons (zad _ _ (fun h=>by cases h<;>contradiction)) .nil)))) .nil) ⟨⟨(zab _ _),(zab _ _),(zab _ _),qcb⟩,qcb⟩ ⟨qcb,⟨⟨rfl,zah.fr _⟩,qcb⟩⟩ ?_;obtain⟨r38,g39,j1⟩:=bind_some j1;try simp only[rnA,Nat.reduceLT,zae]
  refine EvL.fnS (zd3 g39) rfl rfl (.cons (Mzs.agg (.cons (zad _ _ (fun h=>by cases h<;>contradiction)) (.cons (zad _ _ (fun h=>by cases h<;>contradiction)) (.cons (zad _ _ (fun h=>by cases h<;>contradiction)) .nil)))) (.cons (.lit _) .nil)) ⟨⟨(zab _ _),(zab _ _),(zab _ _),qcb⟩,qcb,qcb⟩ ⟨⟨(zab _ _),(zab _ _),(zab _ _),qcb⟩,qcb,qcb⟩ ?_;obtain⟨r40,g41,j1⟩:=bind_some j1;try simp only[rnA,Nat.reduceEqDiff,Nat.reduceLT]
  refine EvL.fnv rfl rfl (za5 g41) rfl (.cons (.zaG (.cons (zaa _ _ (fun h=>nomatch h)) (.cons (zaa _ _ (fun h=>nomatch h)) (.cons (zaa _ _ (fun h=>nomatch h)) .nil)))) (.cons (.lit _) (.cons (.fptr (fun h=>nomatch h) rfl (zah.snp (t:=false) (t':=false) r36 (fun h=>nomatch h)).get) .nil))) ?_;try simp only[rnA,Nat.reduceEqDiff,Nat.reduceLT]
  cases c42:r40
  ·rw[c42,cond_false]at j1;try simp only[rnA,Nat.reduceEqDiff,Nat.reduceLT]
   refine EvL.dead 8 6 [66] ⟨rfl,qcb⟩ rfl ?_;try simp only[rnA]
   replace j1:=qab j1; subst j1;exact lfj hT1 rfl (wm0 [.k,.k,.k] ⟨MB.cs ⟨qcb,qcb,qcb,qcb⟩,⟨MB.cs ⟨qcb,qcb,qcb,qcb⟩,⟨MB.cs ⟨qcb,qcb,qcb,qcb⟩,qcb⟩⟩⟩)
  rw[c42,cond_true]at j1;try simp only[rnA,Nat.reduceEqDiff,Nat.reduceLT,Nat.reduceAdd,Nat.reduceLeDiff]
  refine EvL.zcY (S':=⟨202,[(1,(.ptr 0 0)),(2,(.ptr 1 0)),(3,(.ptr 2 0)),(4,(dI r7.1)),(5,(dI r7.2)),(66,(dB true)),(67,(fzE true (eI .i64) [4])),(68,(fzE true (eI .i64) [2])),(69,(fzE true (eI .i64) [3,4])),(72,(.agg [(fzE false (eI .i64) r1.vars),(fzE false (eI .i64) r1.cards),(fzE false (eI .i64) r1.w)]))],[.cells [(fzE false (eI .i64) r1.vars),(fzE false (eI .i64) r1.cards),(fzE false (eI .i64) r1.w)],.cells [(fzE false (eI .i64) r3.vars),(fzE false (eI .i64) r3.cards),(fzE false (eI .i64) r3.w)],.cells [(fzE false (eI .i64) r5.vars),(fzE false (eI .i64) r5.cards),(fzE false (eI .i64) r5.w)]]⟩) (zbl.m0 [.k,.k,.k,.f,.f,.f] rfl (msq (msq (msq (msq (msq (msq (mf rfl (zal (e:=(eI .i64)) (t:=true) rfl rfl (.inl rfl) rfl rfl (fun k h=>by cases h; exact qaf _) (fun h=>by cases h<;>rfl)) (mf rfl (zal (e:=(eI .i64)) (t:=true) rfl rfl (.inl rfl) rfl rfl (fun k h=>by cases h; exact qaf _) (fun h=>by cases h<;>rfl)) (mf rfl (zal (e:=(eI .i64)) (t:=true) rfl rfl (.inl rfl) rfl rfl (fun k h=>by cases h; exact qaf _) (fun h=>by cases h<;>rfl)) (ms rfl ⟨qcb,qcb,qcb,qcb⟩ trivial)))))))))) ⟨MB.cs ⟨qcb,qcb,qcb,qcb⟩,⟨MB.cs ⟨qcb,qcb,qcb,qcb⟩,⟨MB.cs ⟨qcb,qcb,qcb,qcb⟩,qcb⟩⟩⟩) (zac ?_);obtain⟨r43,g44,j1⟩:=bind_some j1;try simp only[rnA]
  refine EvL.fnS (zas g44) rfl rfl (.cons (zad _ _ (fun h=>by cases h<;>contradiction)) (.cons (zad _ _ (fun h=>by cases h<;>contradiction)) (.cons (zad _ _ (fun h=>by cases h<;>contradiction)) .nil))) ⟨(zab _ _),(zab _ _),(zab _ _),qcb⟩ ⟨(zab _ _),(zab _ _),(zab _ _),qcb⟩ ?_;obtain⟨r45,g46,j1⟩:=bind_some j1;try simp only[rnA,Nat.reduceLT]
  refine EvL.fnS (zbF g46) rfl rfl (.cons (Mzs.agg (.cons (zad _ _ (fun h=>by cases h<;>contradiction)) (.cons (zad _ _ (fun h=>by cases h<;>contradiction)) (.cons (zad _ _ (fun h=>by cases h<;>contradiction)) .nil)))) .nil) ⟨⟨(zab _ _),(zab _ _),(zab _ _),qcb⟩,qcb⟩ ⟨qcb,⟨⟨rfl,zah.fr _⟩,qcb⟩⟩ ?_;obtain⟨r47,g48,j1⟩:=bind_some j1;try simp only[rnA,Nat.reduceLT,zae]
  refine EvL.fn (zbU g48) rfl rfl (.cons (.zaG (.cons (zaa _ _ (fun h=>nomatch h)) (.cons (zaa _ _ (fun h=>nomatch h)) (.cons (zaa _ _ (fun h=>nomatch h)) .nil)))) (.cons (.lit _) (.cons (.lit _) .nil))) ?_;obtain⟨r49,g50,j1⟩:=bind_some j1;try simp only[rnA,Nat.reduceEqDiff,Nat.reduceLT]
  refine EvL.fnv rfl rfl (za5 g50) rfl (.cons (.zaG (.cons (zaa _ _ (fun h=>nomatch h)) (.cons (zaa _ _ (fun h=>nomatch h)) (.cons (zaa _ _ (fun h=>nomatch h)) .nil)))) (.cons (.lit _) (.cons (.fptr (fun h=>nomatch h) rfl (zah.snp (t:=false) (t':=false) r45 (fun h=>nomatch h)).get) .nil))) ?_;try simp only[rnA,Nat.reduceEqDiff,Nat.reduceLT]
  replace j1:=qab j1; subst j1;exact lfj hT1 rfl (wm0 [.k,.k,.k] ⟨MB.cs ⟨qcb,qcb,qcb,qcb⟩,⟨MB.cs ⟨qcb,qcb,qcb,qcb⟩,⟨MB.cs ⟨qcb,qcb,qcb,qcb⟩,qcb⟩⟩⟩)
 rintro v6 rfl;rw[congrFun hT1 v6];refine zac ?_;try simp only[rnA]
 obtain⟨o2,j2,h⟩:=bind_some h;obtain⟨T2,hT2⟩:=mkT fun a:Bool=>⟨202,[(1,(.ptr 0 0)),(6,(dB a))],[.cells [(fzE false (eI .i64) r1.vars),(fzE false (eI .i64) r1.cards),(fzE false (eI .i64) r1.w)]]⟩
 refine EvL.jn T2 (fun a=>a=o2) ?_ ?_
 ·refine zac ?_;try simp only[rnA,Nat.reduceEqDiff,Nat.reduceLT]
  cases c51:v6
  ·rw[c51,cond_false]at j2;try simp only[rnA,Nat.reduceEqDiff,Nat.reduceLT]
   refine EvL.dead 57 140 [79] ⟨rfl,qcb⟩ rfl ?_;try simp only[rnA,Nat.reduceEqDiff,Nat.reduceLT]
   replace j2:=qab j2; subst j2;exact lfj hT2 rfl (wm0 [.k] ⟨MB.cs ⟨qcb,qcb,qcb,qcb⟩,qcb⟩)
  rw[c51,cond_true]at j2;try simp only[rnA,Nat.reduceEqDiff,Nat.reduceLT,Nat.reduceAdd,Nat.reduceLeDiff]
  refine EvL.zcY (S':=⟨202,[(1,(.ptr 0 0)),(2,(.ptr 1 0)),(3,(.ptr 2 0)),(4,(dI r7.1)),(5,(dI r7.2)),(79,(dB true)),(80,(fzE true (eI .i64) [4])),(81,(fzE true (eI .i64) [2])),(82,(fzE true (eI .i64) [4,6])),(85,(.agg [(fzE false (eI .i64) r1.vars),(fzE false (eI .i64) r1.cards),(fzE false (eI .i64) r1.w)]))],[.cells [(fzE false (eI .i64) r1.vars),(fzE false (eI .i64) r1.cards),(fzE false (eI .i64) r1.w)],.cells [(fzE false (eI .i64) r3.vars),(fzE false (eI .i64) r3.cards),(fzE false (eI .i64) r3.w)],.cells [(fzE false (eI .i64) r5.vars),(fzE false (eI .i64) r5.cards),(fzE false (eI .i64) r5.w)]]⟩) (zbl.m0 [.k,.k,.k,.f,.f,.f] rfl (msq (msq (msq (msq (msq (msq (mf rfl (zal (e:=(eI .i64)) (t:=true) rfl rfl (.inl rfl) rfl rfl (fun k h=>by cases h; exact qaf _) (fun h=>by cases h<;>rfl)) (mf rfl (zal (e:=(eI .i64)) (t:=true) rfl rfl (.inl rfl) rfl rfl (fun k h=>by cases h; exact qaf _) (fun h=>by cases h<;>rfl)) (mf rfl (zal (e:=(eI .i64)) (t:=true) rfl rfl (.inl rfl) rfl rfl (fun k h=>by cases h; exact qaf _) (fun h=>by cases h<;>rfl)) (ms rfl ⟨qcb,qcb,qcb,qcb⟩ trivial)))))))))) ⟨MB.cs ⟨qcb,qcb,qcb,qcb⟩,⟨MB.cs ⟨qcb,qcb,qcb,qcb⟩,⟨MB.cs ⟨qcb,qcb,qcb,qcb⟩,qcb⟩⟩⟩) (zac ?_);obtain⟨r52,g53,j2⟩:=bind_some j2;try simp only[rnA]
  refine EvL.fnS (zas g53) rfl rfl (.cons (zad _ _ (fun h=>by cases h<;>contradiction)) (.cons (zad _ _ (fun h=>by cases h<;>contradiction)) (.cons (zad _ _ (fun h=>by cases h<;>contradiction)) .nil))) ⟨(zab _ _),(zab _ _),(zab _ _),qcb⟩ ⟨(zab _ _),(zab _ _),(zab _ _),qcb⟩ ?_;obtain⟨r54,g55,j2⟩:=bind_some j2;try simp only[rnA,Nat.reduceLT]
  refine EvL.fnS (zbF g55) rfl rfl (.cons (Mzs.agg (.cons (zad _ _ (fun h=>by cases h<;>contradiction)) (.cons (zad _ _ (fun h=>by cases h<;>contradiction)) (.cons (zad _ _ (fun h=>by cases h<;>contradiction)) .nil)))) .nil) ⟨⟨(zab _ _),(zab _ _),(zab _ _),qcb⟩,qcb⟩ ⟨qcb,⟨⟨rfl,zah.fr _⟩,qcb⟩⟩ ?_;try simp only[rnA,Nat.reduceEqDiff,Nat.reduceLT,Nat.reduceAdd,zae]
  refine EvL.zcY (S':=⟨202,[(1,(.ptr 0 0)),(2,(.ptr 1 0)),(3,(.ptr 2 0)),(4,(dI r7.1)),(5,(dI r7.2)),(79,(dB true)),(84,(.clo 87 [] [(.fptr false (zah.c false r54))])),(85,(.agg [(fzE false (eI .i64) r1.vars),(fzE false (eI .i64) r1.cards),(fzE false (eI .i64) r1.w)])),(86,(fzE true (eI .i64) [4]))],[.cells [(fzE false (eI .i64) r1.vars),(fzE false (eI .i64) r1.cards),(fzE false (eI .i64) r1.w)],.cells [(fzE false (eI .i64) r3.vars),(fzE false (eI .i64) r3.cards),(fzE false (eI .i64) r3.w)],.cells [(fzE false (eI .i64) r5.vars),(fzE false (eI .i64) r5.cards),(fzE false (eI .i64) r5.w)]]⟩) (zbl.m0 [.k,.k,.k,.f] rfl (msq (msq (msq (msq (msq (msq (ms rfl ⟨qcb,⟨qcb,qcb⟩⟩ (ms rfl ⟨qcb,qcb,qcb,qcb⟩ (mf rfl (zal (e:=(eI .i64)) (t:=true) rfl rfl (.inl rfl) rfl rfl (fun k h=>by cases h; exact qaf _) (fun h=>by cases h<;>rfl)) trivial))))))))) ⟨MB.cs ⟨qcb,qcb,qcb,qcb⟩,⟨MB.cs ⟨qcb,qcb,qcb,qcb⟩,⟨MB.cs ⟨qcb,qcb,qcb,qcb⟩,qcb⟩⟩⟩) (zac ?_);obtain⟨r56,g57,j2⟩:=bind_some j2;try simp only[rnA,zae]
  refine EvL.fnS (zbZ g57) rfl rfl (.cons (Mzs.agg (.cons (zad _ _ (fun h=>by cases h<;>contradiction)) (.cons (zad _ _ (fun h=>by cases h<;>contradiction)) (.cons (zad _ _ (fun h=>by cases h<;>contradiction)) .nil)))) (.cons (zad _ _ (fun h=>by cases h<;>contradiction)) .nil)) ⟨⟨(zab _ _),(zab _ _),(zab _ _),qcb⟩,(zab _ _),qcb⟩ ⟨⟨(zab _ _),(zab _ _),(zab _ _),qcb⟩,qcb,qcb⟩ ?_;obtain⟨r58,g59,j2⟩:=bind_some j2;try simp only[rnA,Nat.reduceEqDiff,Nat.reduceLT]
  refine EvL.fnv rfl rfl (za5 g59) rfl (.cons (.zaG (.cons (zaa _ _ (fun h=>nomatch h)) (.cons (zaa _ _ (fun h=>nomatch h)) (.cons (zaa _ _ (fun h=>nomatch h)) .nil)))) (.cons (.lit _) (.cons (.fptr (fun h=>nomatch h) rfl (zah.snp (t:=false) (t':=false) r54 (fun h=>nomatch h)).get) .nil))) ?_;try simp only[rnA,Nat.reduceEqDiff,Nat.reduceLT]
  cases c60:r58
  ·rw[c60,cond_false]at j2;try simp only[rnA,Nat.reduceEqDiff,Nat.reduceLT]
   refine EvL.dead 47 6 [92] ⟨rfl,qcb⟩ rfl ?_;try simp only[rnA]
   replace j2:=qab j2; subst j2;exact lfj hT2 rfl (wm0 [.k] ⟨MB.cs ⟨qcb,qcb,qcb,qcb⟩,qcb⟩)
  rw[c60,cond_true]at j2;try simp only[rnA,Nat.reduceEqDiff,Nat.reduceLT,Nat.reduceAdd,Nat.reduceLeDiff]
  refine EvL.zcY (S':=⟨202,[(1,(.ptr 0 0)),(2,(.ptr 1 0)),(3,(.ptr 2 0)),(4,(dI r7.1)),(5,(dI r7.2)),(92,(dB true)),(93,(fzE true (eI .i64) [10])),(96,(.agg [(fzE false (eI .i64) r1.vars),(fzE false (eI .i64) r1.cards),(fzE false (eI .i64) r1.w)]))],[.cells [(fzE false (eI .i64) r1.vars),(fzE false (eI .i64) r1.cards),(fzE false (eI .i64) r1.w)],.cells [(fzE false (eI .i64) r3.vars),(fzE false (eI .i64) r3.cards),(fzE false (eI .i64) r3.w)],.cells [(fzE false (eI .i64) r5.vars),(fzE false (eI .i64) r5.cards),(fzE false (eI .i64) r5.w)]]⟩) (zbl.m0 [.k,.k,.k,.f] rfl (msq (msq (msq (msq (msq (msq (mf rfl (zal (e:=(eI .i64)) (t:=true) rfl rfl (.inl rfl) rfl rfl (fun k h=>by cases h; exact qaf _) (fun h=>by cases h<;>rfl)) (ms rfl ⟨qcb,qcb,qcb,qcb⟩ trivial)))))))) ⟨MB.cs ⟨qcb,qcb,qcb,qcb⟩,⟨MB.cs ⟨qcb,qcb,qcb,qcb⟩,⟨MB.cs ⟨qcb,qcb,qcb,qcb⟩,qcb⟩⟩⟩) (zac ?_);obtain⟨r61,g62,j2⟩:=bind_some j2;try simp only[rnA]
  refine EvL.fnS (zas g62) rfl rfl (.cons (zbx (eI .i64)) (.cons (zbx (eI .i64)) (.cons (zad _ _ (fun h=>by cases h<;>contradiction)) .nil))) ⟨(zab _ _),(zab _ _),(zab _ _),qcb⟩ ⟨(zab _ _),(zab _ _),(zab _ _),qcb⟩ ?_;obtain⟨r63,g64,j2⟩:=bind_some j2;try simp only[rnA,Nat.reduceLT]
  refine EvL.fnS (zbF g64) rfl rfl (.cons (Mzs.agg (.cons (zad _ _ (fun h=>by cases h<;>contradiction)) (.cons (zad _ _ (fun h=>by cases h<;>contradiction)) (.cons (zad _ _ (fun h=>by cases h<;>contradiction)) .nil)))) .nil) ⟨⟨(zab _ _),(zab _ _),(zab _ _),qcb⟩,qcb⟩ ⟨qcb,⟨⟨rfl,zah.fr _⟩,qcb⟩⟩ ?_;obtain⟨r65,g66,j2⟩:=bind_some j2;try simp only[rnA,Nat.reduceLT,zae]
  refine EvL.fnS (zbZ g66) rfl rfl (.cons (Mzs.agg (.cons (zad _ _ (fun h=>by cases h<;>contradiction)) (.cons (zad _ _ (fun h=>by cases h<;>contradiction)) (.cons (zad _ _ (fun h=>by cases h<;>contradiction)) .nil)))) (.cons (zbx (eI .i64)) .nil)) ⟨⟨(zab _ _),(zab _ _),(zab _ _),qcb⟩,(zab _ _),qcb⟩ ⟨⟨(zab _ _),(zab _ _),(zab _ _),qcb⟩,qcb,qcb⟩ ?_;obtain⟨r67,g68,j2⟩:=bind_some j2;try simp only[rnA,Nat.reduceEqDiff,Nat.reduceLT]
  refine EvL.fnv rfl rfl (za5 g68) rfl (.cons (.zaG (.cons (zaa _ _ (fun h=>nomatch h)) (.cons (zaa _ _ (fun h=>nomatch h)) (.cons (zaa _ _ (fun h=>nomatch h)) .nil)))) (.cons (.lit _) (.cons (.fptr (fun h=>nomatch h) rfl (zah.snp (t:=false) (t':=false) r63 (fun h=>nomatch h)).get) .nil))) ?_;try simp only[rnA,Nat.reduceEqDiff,Nat.reduceLT]
  cases c69:r67
  ·rw[c69,cond_false]at j2;try simp only[rnA,Nat.reduceEqDiff,Nat.reduceLT]
   refine EvL.dead 26 6 [110] ⟨rfl,qcb⟩ rfl ?_;try simp only[rnA]
   replace j2:=qab j2; subst j2;exact lfj hT2 rfl (wm0 [.k] ⟨MB.cs ⟨qcb,qcb,qcb,qcb⟩,qcb⟩)
  rw[c69,cond_true]at j2;try simp only[rnA,Nat.reduceEqDiff,Nat.reduceLT]
  cases c70:(r7.1 == 10)
  ·rw[c70,cond_false]at j2;try simp only[rnA,Nat.reduceEqDiff,Nat.reduceLT]
   refine EvL.dead 26 6 [110] ⟨rfl,qcb⟩ rfl ?_;try simp only[rnA]
   replace j2:=qab j2; subst j2;exact lfj hT2 rfl (wm0 [.k] ⟨MB.cs ⟨qcb,qcb,qcb,qcb⟩,qcb⟩)
  rw[c70,cond_true]at j2;try simp only[rnA,Nat.reduceEqDiff,Nat.reduceLT]
  cases c71:(r7.2 == 0)
  ·rw[c71,cond_false]at j2;try simp only[rnA,Nat.reduceEqDiff,Nat.reduceLT]
   refine EvL.dead 26 6 [110] ⟨rfl,qcb⟩ rfl ?_;try simp only[rnA]
   replace j2:=qab j2; subst j2;exact lfj hT2 rfl (wm0 [.k] ⟨MB.cs ⟨qcb,qcb,qcb,qcb⟩,qcb⟩)
  rw[c71,cond_true]at j2;try simp only[rnA,Nat.reduceEqDiff,Nat.reduceLT,Nat.reduceAdd,Nat.reduceLeDiff]
  refine EvL.zcY (S':=⟨202,[(1,(.ptr 0 0)),(2,(.ptr 1 0)),(110,(dB true)),(111,(fzE true (eI .i64) [1,4])),(112,(fzE true (eI .i64) [2,2])),(113,(fzE true (eI .i64) [1,0,3,0])),(116,(.agg [(fzE false (eI .i64) r5.vars),(fzE false (eI .i64) r5.cards),(fzE false (eI .i64) r5.w)])),(117,(.agg [(fzE false (eI .i64) r3.vars),(fzE false (eI .i64) r3.cards),(fzE false (eI .i64) r3.w)]))],[.cells [(fzE false (eI .i64) r1.vars),(fzE false (eI .i64) r1.cards),(fzE false (eI .i64) r1.w)],.cells [(fzE false (eI .i64) r3.vars),(fzE false (eI .i64) r3.cards),(fzE false (eI .i64) r3.w)]]⟩) (zbl.m0 [.k,.k,.d,.f,.f,.f] rfl (msq (msq (msq (mf rfl (zal (e:=(eI .i64)) (t:=true) rfl rfl (.inl rfl) rfl rfl (fun k h=>by cases h; exact qaf _) (fun h=>by cases h<;>rfl)) (mf rfl (zal (e:=(eI .i64)) (t:=true) rfl rfl (.inl rfl) rfl rfl (fun k h=>by cases h; exact qaf _) (fun h=>by cases h<;>rfl)) (mf rfl (zal (e:=(eI .i64)) (t:=true) rfl rfl (.inl rfl) rfl rfl (fun k h=>by cases h; exact qaf _) (fun h=>by cases h<;>rfl)) (ms rfl ⟨qcb,qcb,qcb,qcb⟩ (ms rfl ⟨qcb,qcb,qcb,qcb⟩ trivial)))))))) ⟨MB.cs ⟨qcb,qcb,qcb,qcb⟩,⟨MB.cs ⟨qcb,qcb,qcb,qcb⟩,qcb⟩⟩) (zac ?_);obtain⟨r72,g73,j2⟩:=bind_some j2;try simp only[rnA]
  refine EvL.fnS (zas g73) rfl rfl (.cons (zad _ _ (fun h=>by cases h<;>contradiction)) (.cons (zad _ _ (fun h=>by cases h<;>contradiction)) (.cons (zad _ _ (fun h=>by cases h<;>contradiction)) .nil))) ⟨(zab _ _),(zab _ _),(zab _ _),qcb⟩ ⟨(zab _ _),(zab _ _),(zab _ _),qcb⟩ ?_;obtain⟨r74,g75,j2⟩:=bind_some j2;try simp only[rnA,Nat.reduceLT]
  refine EvL.fnS (zbF g75) rfl rfl (.cons (Mzs.agg (.cons (zad _ _ (fun h=>by cases h<;>contradiction)) (.cons (zad _ _ (fun h=>by cases h<;>contradiction)) (.cons (zad _ _ (fun h=>by cases h<;>contradiction)) .nil)))) .nil) ⟨⟨(zab _ _),(zab _ _),(zab _ _),qcb⟩,qcb⟩ ⟨qcb,⟨⟨rfl,zah.fr _⟩,qcb⟩⟩ ?_;obtain⟨r76,g77,j2⟩:=bind_some j2;try simp only[rnA,Nat.reduceLT,zae]
  refine EvL.fn (zbi g77) rfl rfl (.cons (.zaG (.cons (zaa _ _ (fun h=>nomatch h)) (.cons (zaa _ _ (fun h=>nomatch h)) (.cons (zaa _ _ (fun h=>nomatch h)) .nil)))) (.cons (.zaG (.cons (zaa _ _ (fun h=>nomatch h)) (.cons (zaa _ _ (fun h=>nomatch h)) (.cons (zaa _ _ (fun h=>nomatch h)) .nil)))) .nil)) ?_;obtain⟨r78,g79,j2⟩:=bind_some j2;try simp only[rnA,Nat.reduceEqDiff,Nat.reduceLT]
  refine EvL.fnv rfl rfl (za5 g79) rfl (.cons (.zaG (.cons (zaa _ _ (fun h=>nomatch h)) (.cons (zaa _ _ (fun h=>nomatch h)) (.cons (zaa _ _ (fun h=>nomatch h)) .nil)))) (.cons (.lit _) (.cons (.fptr (fun h=>nomatch h) rfl (zah.snp (t:=false) (t':=false) r74 (fun h=>nomatch h)).get) .nil))) ?_;try simp only[rnA,Nat.reduceEqDiff,Nat.reduceLT]
  cases c80:r78
  ·rw[c80,cond_false]at j2;try simp only[rnA,Nat.reduceEqDiff,Nat.reduceLT]
   refine EvL.dead 16 6 [123] ⟨rfl,qcb⟩ rfl ?_;try simp only[rnA]
   replace j2:=qab j2; subst j2;exact lfj hT2 rfl (wm0 [.k] ⟨MB.cs ⟨qcb,qcb,qcb,qcb⟩,qcb⟩)
  rw[c80,cond_true]at j2;obtain⟨r81,g82,j2⟩:=bind_some j2;try simp only[rnA,Nat.reduceEqDiff,Nat.reduceLT,Nat.reduceAdd,Nat.reduceLeDiff]
  refine EvL.fnS (zat g82) rfl rfl (.cons (.lit _) .nil) ⟨qcb,qcb⟩ ⟨qcb,⟨⟨rfl,(eI .i64).fr _⟩,qcb⟩⟩ ?_;obtain⟨r83,g84,j2⟩:=bind_some j2;try simp only[rnA,Nat.reduceLT]
  refine EvL.fn (zbi g84) rfl rfl (.cons (.zaG (.cons (zaa _ _ (fun h=>nomatch h)) (.cons (zaa _ _ (fun h=>nomatch h)) (.cons (zaa _ _ (fun h=>nomatch h)) .nil)))) (.cons (.zaG (.cons (zaa _ _ (fun h=>nomatch h)) (.cons (zaa _ _ (fun h=>nomatch h)) (.cons (zaa _ _ (fun h=>nomatch h)) .nil)))) .nil)) ?_;obtain⟨r85,g86,j2⟩:=bind_some j2;try simp only[rnA,Nat.reduceEqDiff,Nat.reduceLT]
  refine EvL.fnv rfl rfl (zan g86) rfl (.cons (.zaG (.cons (zaa _ _ (fun h=>nomatch h)) (.cons (zaa _ _ (fun h=>nomatch h)) (.cons (zaa _ _ (fun h=>nomatch h)) .nil)))) (.cons (.lit _) (.cons (.fptr (fun h=>nomatch h) rfl ((eI .i64).snp (t:=false) (t':=false) r81 (fun h=>nomatch h)).get) .nil))) ?_;try simp only[rnA,Nat.reduceEqDiff,Nat.reduceLT]
  cases c87:r85
  ·rw[c87,cond_false]at j2;try simp only[rnA,Nat.reduceEqDiff,Nat.reduceLT]
   refine EvL.dead 7 6 [132] ⟨rfl,qcb⟩ rfl ?_;try simp only[rnA]
   replace j2:=qab j2; subst j2;exact lfj hT2 rfl (wm0 [.k] ⟨MB.cs ⟨qcb,qcb,qcb,qcb⟩,qcb⟩)
  rw[c87,cond_true]at j2;obtain⟨r88,g89,j2⟩:=bind_some j2;try simp only[rnA,Nat.reduceEqDiff,Nat.reduceLT,Nat.reduceAdd,Nat.reduceLeDiff]
  refine EvL.fnS (zat g89) rfl rfl (.cons (.lit _) .nil) ⟨qcb,qcb⟩ ⟨qcb,⟨⟨rfl,(eI .i64).fr _⟩,qcb⟩⟩ ?_;obtain⟨r90,g91,j2⟩:=bind_some j2;try simp only[rnA,Nat.reduceLT]
  refine EvL.fn (zbi g91) rfl rfl (.cons (.zaG (.cons (zaa _ _ (fun h=>nomatch h)) (.cons (zaa _ _ (fun h=>nomatch h)) (.cons (zaa _ _ (fun h=>nomatch h)) .nil)))) (.cons (.zaG (.cons (zaa _ _ (fun h=>nomatch h)) (.cons (zaa _ _ (fun h=>nomatch h)) (.cons (zaa _ _ (fun h=>nomatch h)) .nil)))) .nil)) ?_;obtain⟨r92,g93,j2⟩:=bind_some j2;try simp only[rnA,Nat.reduceEqDiff,Nat.reduceLT]
  refine EvL.fnv rfl rfl (zan g93) rfl (.cons (.zaG (.cons (zaa _ _ (fun h=>nomatch h)) (.cons (zaa _ _ (fun h=>nomatch h)) (.cons (zaa _ _ (fun h=>nomatch h)) .nil)))) (.cons (.lit _) (.cons (.fptr (fun h=>nomatch h) rfl ((eI .i64).snp (t:=false) (t':=false) r88 (fun h=>nomatch h)).get) .nil))) ?_;try simp only[rnA,Nat.reduceEqDiff,Nat.reduceLT]
  replace j2:=qab j2; subst j2;exact lfj hT2 rfl (wm0 [.k] ⟨MB.cs ⟨qcb,qcb,qcb,qcb⟩,qcb⟩)
 rintro v6' rfl;rw[congrFun hT2 v6'];refine zac ?_;try simp only[rnA]
 obtain⟨o3,j3,h⟩:=bind_some h;obtain⟨T3,hT3⟩:=mkT fun a:Bool=>⟨202,[(6,(dB a))],[]⟩
 refine EvL.jn T3 (fun a=>a=o3) ?_ ?_
 ·refine zac ?_;try simp only[rnA,Nat.reduceEqDiff,Nat.reduceLT]
  cases c94:v6'
  ·rw[c94,cond_false]at j3;try simp only[rnA,Nat.reduceLT]
   refine EvL.dead 35 178 [142] ⟨rfl,qcb⟩ rfl ?_;try simp only[rnA,Nat.reduceEqDiff,Nat.reduceLT]
   replace j3:=qab j3; subst j3;exact lfj hT3 rfl (wm0 [] (by exact trivial))
  rw[c94,cond_true]at j3;obtain⟨r95,g96,j3⟩:=bind_some j3;try simp only[rnA,Nat.reduceEqDiff,Nat.reduceLT,Nat.reduceAdd,Nat.reduceLeDiff]
  refine EvL.fnS (zat g96) rfl rfl (.cons (.lit _) .nil) ⟨qcb,qcb⟩ ⟨qcb,⟨⟨rfl,(eI .i64).fr _⟩,qcb⟩⟩ ?_;obtain⟨r97,g98,j3⟩:=bind_some j3;try simp only[rnA,Nat.reduceLT]
  refine EvL.fnS (zc9 g98) rfl rfl (.cons (Mzs.agg (.cons (zad _ _ (fun h=>by cases h<;>contradiction)) (.cons (zad _ _ (fun h=>by cases h<;>contradiction)) (.cons (zad _ _ (fun h=>by cases h<;>contradiction)) .nil)))) (.cons (.lit _) .nil)) ⟨⟨(zab _ _),(zab _ _),(zab _ _),qcb⟩,qcb,qcb⟩ ⟨⟨(zab _ _),(zab _ _),(zab _ _),qcb⟩,qcb,qcb⟩ ?_;obtain⟨r99,g100,j3⟩:=bind_some j3;try simp only[rnA,Nat.reduceEqDiff,Nat.reduceLT]
  refine EvL.fnv rfl rfl (zan g100) rfl (.cons (.zaG (.cons (zaa _ _ (fun h=>nomatch h)) (.cons (zaa _ _ (fun h=>nomatch h)) (.cons (zaa _ _ (fun h=>nomatch h)) .nil)))) (.cons (.lit _) (.cons (.fptr (fun h=>nomatch h) rfl ((eI .i64).snp (t:=false) (t':=false) r95 (fun h=>nomatch h)).get) .nil))) ?_;try simp only[rnA,Nat.reduceEqDiff,Nat.reduceLT]
  cases c101:r99
  ·rw[c101,cond_false]at j3;try simp only[rnA,Nat.reduceLT]
   refine EvL.dead 27 178 [150] ⟨rfl,qcb⟩ rfl ?_;try simp only[rnA,Nat.reduceEqDiff,Nat.reduceLT]
   replace j3:=qab j3; subst j3;exact lfj hT3 rfl (wm0 [] (by exact trivial))
  rw[c101,cond_true]at j3;obtain⟨r102,g103,j3⟩:=bind_some j3;try simp only[rnA,Nat.reduceEqDiff,Nat.reduceLT,Nat.reduceAdd,Nat.reduceLeDiff]
  refine EvL.fnS (zat g103) rfl rfl (.cons (.lit _) .nil) ⟨qcb,qcb⟩ ⟨qcb,⟨⟨rfl,(eI .i64).fr _⟩,qcb⟩⟩ ?_;obtain⟨r104,g105,j3⟩:=bind_some j3;try simp only[rnA,Nat.reduceLT]
  refine EvL.fn (zbU g105) rfl rfl (.cons (.zaG (.cons (zaa _ _ (fun h=>nomatch h)) (.cons (zaa _ _ (fun h=>nomatch h)) (.cons (zaa _ _ (fun h=>nomatch h)) .nil)))) (.cons (.lit _) (.cons (.lit _) .nil))) ?_;obtain⟨r106,g107,j3⟩:=bind_some j3;try simp only[rnA,Nat.reduceEqDiff,Nat.reduceLT]
  refine EvL.fnv rfl rfl (zan g107) rfl (.cons (.zaG (.cons (zaa _ _ (fun h=>nomatch h)) (.cons (zaa _ _ (fun h=>nomatch h)) (.cons (zaa _ _ (fun h=>nomatch h)) .nil)))) (.cons (.lit _) (.cons (.fptr (fun h=>nomatch h) rfl ((eI .i64).snp (t:=false) (t':=false) r102 (fun h=>nomatch h)).get) .nil))) ?_;try simp only[rnA,Nat.reduceEqDiff,Nat.reduceLT]
  cases c108:r106
  ·rw[c108,cond_false]at j3;try simp only[rnA,Nat.reduceLT]
   refine EvL.dead 19 178 [158] ⟨rfl,qcb⟩ rfl ?_;try simp only[rnA,Nat.reduceEqDiff,Nat.reduceLT]
   replace j3:=qab j3; subst j3;exact lfj hT3 rfl (wm0 [] (by exact trivial))
  rw[c108,cond_true]at j3;obtain⟨r109,g110,j3⟩:=bind_some j3;try simp only[rnA,Nat.reduceEqDiff,Nat.reduceLT,Nat.reduceAdd,Nat.reduceLeDiff]
  refine EvL.fnS (zat g110) rfl rfl (.cons (.lit _) .nil) ⟨qcb,qcb⟩ ⟨qcb,⟨⟨rfl,(eI .i64).fr _⟩,qcb⟩⟩ ?_;try simp only[rnA,Nat.reduceEqDiff,Nat.reduceLT,Nat.reduceAdd]
  refine EvL.zcY (S':=⟨202,[(1,(.ptr 0 0)),(158,(dB true)),(159,(.clo 80 [] [(.fptr false ((eI .i64).c false r109))])),(160,(.agg [(fzE false (eI .i64) r1.vars),(fzE false (eI .i64) r1.cards),(fzE false (eI .i64) r1.w)])),(161,(fzE true (eI .i64) [4,1]))],[.cells [(fzE false (eI .i64) r1.vars),(fzE false (eI .i64) r1.cards),(fzE false (eI .i64) r1.w)]]⟩) (zbl.m0 [.k,.f] rfl (msq (msq (ms rfl ⟨qcb,⟨qcb,qcb⟩⟩ (ms rfl ⟨qcb,qcb,qcb,qcb⟩ (mf rfl (zal (e:=(eI .i64)) (t:=true) rfl rfl (.inl rfl) rfl rfl (fun k h=>by cases h; exact qaf _) (fun h=>by cases h<;>rfl)) trivial))))) ⟨MB.cs ⟨qcb,qcb,qcb,qcb⟩,qcb⟩) (zac ?_);obtain⟨r111,g112,j3⟩:=bind_some j3;try simp only[rnA]
  refine EvL.fnS (zbZ g112) rfl rfl (.cons (Mzs.agg (.cons (zad _ _ (fun h=>by cases h<;>contradiction)) (.cons (zad _ _ (fun h=>by cases h<;>contradiction)) (.cons (zad _ _ (fun h=>by cases h<;>contradiction)) .nil)))) (.cons (zad _ _ (fun h=>by cases h<;>contradiction)) .nil)) ⟨⟨(zab _ _),(zab _ _),(zab _ _),qcb⟩,(zab _ _),qcb⟩ ⟨⟨(zab _ _),(zab _ _),(zab _ _),qcb⟩,qcb,qcb⟩ ?_;obtain⟨r113,g114,j3⟩:=bind_some j3;try simp only[rnA,Nat.reduceEqDiff,Nat.reduceLT]
  refine EvL.fnv rfl rfl (zan g114) rfl (.cons (.zaG (.cons (zaa _ _ (fun h=>nomatch h)) (.cons (zaa _ _ (fun h=>nomatch h)) (.cons (zaa _ _ (fun h=>nomatch h)) .nil)))) (.cons (.lit _) (.cons (.fptr (fun h=>nomatch h) rfl ((eI .i64).snp (t:=false) (t':=false) r109 (fun h=>nomatch h)).get) .nil))) ?_;try simp only[rnA,Nat.reduceEqDiff,Nat.reduceLT]
  cases c115:r113
  ·rw[c115,cond_false]at j3;try simp only[rnA,Nat.reduceLT]
   refine EvL.dead 11 6 [167] ⟨rfl,qcb⟩ rfl ?_;try simp only[rnA]
   replace j3:=qab j3; subst j3;exact lfj hT3 rfl (wm0 [] (by exact trivial))
  rw[c115,cond_true]at j3;obtain⟨r116,g117,j3⟩:=bind_some j3;try simp only[rnA,Nat.reduceEqDiff,Nat.reduceLT,Nat.reduceAdd,Nat.reduceLeDiff]
  refine EvL.fnS (zat g117) rfl rfl (.cons (.lit _) .nil) ⟨qcb,qcb⟩ ⟨qcb,⟨⟨rfl,(eI .i64).fr _⟩,qcb⟩⟩ ?_;try simp only[rnA,Nat.reduceEqDiff,Nat.reduceLT,Nat.reduceAdd]
  refine EvL.zcY (S':=⟨202,[(167,(dB true)),(168,(.clo 80 [] [(.fptr false ((eI .i64).c false r116))])),(169,(.agg [(fzE false (eI .i64) r1.vars),(fzE false (eI .i64) r1.cards),(fzE false (eI .i64) r1.w)])),(170,(fzE true (eI .i64) [4])),(171,(fzE true (eI .i64) [3])),(172,(fzE true (eI .i64) [1,1,1]))],[]⟩) (zbl.m0 [.d,.f,.f,.f] rfl (msq (ms rfl ⟨qcb,⟨qcb,qcb⟩⟩ (ms rfl ⟨qcb,qcb,qcb,qcb⟩ (mf rfl (zal (e:=(eI .i64)) (t:=true) rfl rfl (.inl rfl) rfl rfl (fun k h=>by cases h; exact qaf _) (fun h=>by cases h<;>rfl)) (mf rfl (zal (e:=(eI .i64)) (t:=true) rfl rfl (.inl rfl) rfl rfl (fun k h=>by cases h; exact qaf _) (fun h=>by cases h<;>rfl)) (mf rfl (zal (e:=(eI .i64)) (t:=true) rfl rfl (.inl rfl) rfl rfl (fun k h=>by cases h; exact qaf _) (fun h=>by cases h<;>rfl)) trivial)))))) trivial) (zac ?_);obtain⟨r118,g119,j3⟩:=bind_some j3;try simp only[rnA]
  refine EvL.fnS (zas g119) rfl rfl (.cons (zad _ _ (fun h=>by cases h<;>contradiction)) (.cons (zad _ _ (fun h=>by cases h<;>contradiction)) (.cons (zad _ _ (fun h=>by cases h<;>contradiction)) .nil))) ⟨(zab _ _),(zab _ _),(zab _ _),qcb⟩ ⟨(zab _ _),(zab _ _),(zab _ _),qcb⟩ ?_;obtain⟨r120,g121,j3⟩:=bind_some j3;try simp only[rnA,Nat.reduceLT]
  refine EvL.fn (zbu g121) rfl rfl (.cons (.zaG (.cons (zaa _ _ (fun h=>nomatch h)) (.cons (zaa _ _ (fun h=>nomatch h)) (.cons (zaa _ _ (fun h=>nomatch h)) .nil)))) (.cons (.zaG (.cons (zaa _ _ (fun h=>nomatch h)) (.cons (zaa _ _ (fun h=>nomatch h)) (.cons (zaa _ _ (fun h=>nomatch h)) .nil)))) .nil)) ?_;obtain⟨r122,g123,j3⟩:=bind_some j3;try simp only[rnA,Nat.reduceEqDiff,Nat.reduceLT]
  refine EvL.fnv rfl rfl (zan g123) rfl (.cons (.zaG (.cons (zaa _ _ (fun h=>nomatch h)) (.cons (zaa _ _ (fun h=>nomatch h)) (.cons (zaa _ _ (fun h=>nomatch h)) .nil)))) (.cons (.lit _) (.cons (.fptr (fun h=>nomatch h) rfl ((eI .i64).snp (t:=false) (t':=false) r116 (fun h=>nomatch h)).get) .nil))) ?_;try simp only[rnA,Nat.reduceEqDiff,Nat.reduceLT]
  replace j3:=qab j3; subst j3;exact lfj hT3 rfl (wm0 [] (by exact trivial))
 rintro v6'' rfl;rw[congrFun hT3 v6''];refine zac ?_;try simp only[rnA]
 obtain⟨o4,j4,h⟩:=bind_some h;obtain⟨T4,hT4⟩:=mkT fun a:Bool=>⟨202,[(0,(dB a))],[]⟩
 refine EvL.jn T4 (fun a=>a=o4) ?_ ?_
 ·refine zac ?_;try simp only[rnA,Nat.reduceEqDiff,Nat.reduceLT]
  cases c124:v6''
  ·rw[c124,cond_false]at j4;try simp only[rnA,Nat.reduceEqDiff,Nat.reduceLT]
   refine EvL.dead 19 0 [180] ⟨rfl,qcb⟩ rfl ?_;try simp only[rnA]
   replace j4:=qab j4; subst j4;exact lfj hT4 rfl (wm0 [] (by exact trivial))
  rw[c124,cond_true]at j4;try simp only[rnA,Nat.reduceEqDiff,Nat.reduceLT,Nat.reduceAdd]
  refine EvL.zcY (S':=⟨202,[(180,(dB true)),(181,(fzE true (eI .i64) [4,1])),(182,(fzE true (eI .i64) [2,2])),(183,(fzE true (eI .i64) [1,2,3,4]))],[]⟩) (zbl.m0 [.f,.f,.f] rfl (msq (mf rfl (zal (e:=(eI .i64)) (t:=true) rfl rfl (.inl rfl) rfl rfl (fun k h=>by cases h; exact qaf _) (fun h=>by cases h<;>rfl)) (mf rfl (zal (e:=(eI .i64)) (t:=true) rfl rfl (.inl rfl) rfl rfl (fun k h=>by cases h; exact qaf _) (fun h=>by cases h<;>rfl)) (mf rfl (zal (e:=(eI .i64)) (t:=true) rfl rfl (.inl rfl) rfl rfl (fun k h=>by cases h; exact qaf _) (fun h=>by cases h<;>rfl)) trivial)))) trivial) (zac ?_);obtain⟨r125,g126,j4⟩:=bind_some j4;try simp only[rnA]
  refine EvL.fnS (zas g126) rfl rfl (.cons (zad _ _ (fun h=>by cases h<;>contradiction)) (.cons (zad _ _ (fun h=>by cases h<;>contradiction)) (.cons (zad _ _ (fun h=>by cases h<;>contradiction)) .nil))) ⟨(zab _ _),(zab _ _),(zab _ _),qcb⟩ ⟨(zab _ _),(zab _ _),(zab _ _),qcb⟩ ?_;obtain⟨r127,g128,j4⟩:=bind_some j4;try simp only[rnA,Nat.reduceLT]
  refine EvL.fn (zaz g128) rfl rfl (.cons (.zaG (.cons (zaa _ _ (fun h=>nomatch h)) (.cons (zaa _ _ (fun h=>nomatch h)) (.cons (zaa _ _ (fun h=>nomatch h)) .nil)))) .nil) ?_;try simp only[rnA,Nat.reduceEqDiff,Nat.reduceLT]
  cases c129:(r127 == 30)
  ·rw[c129,cond_false]at j4;try simp only[rnA,Nat.reduceEqDiff,Nat.reduceLT]
   refine EvL.dead 11 0 [188] ⟨rfl,qcb⟩ rfl ?_;try simp only[rnA]
   replace j4:=qab j4; subst j4;exact lfj hT4 rfl (wm0 [] (by exact trivial))
  rw[c129,cond_true]at j4;try simp only[rnA,Nat.reduceEqDiff,Nat.reduceLT,Nat.reduceAdd]
  refine EvL.zcY (S':=⟨202,[(188,(dB true)),(189,(fzE true (eI .i64) [1])),(190,(fzE true (eI .i64) [2])),(191,(fzE true (eI .i64) [1]))],[]⟩) (zbl.m0 [.f,.f,.f] rfl (msq (mf rfl (zal (e:=(eI .i64)) (t:=true) rfl rfl (.inl rfl) rfl rfl (fun k h=>by cases h; exact qaf _) (fun h=>by cases h<;>rfl)) (mf rfl (zal (e:=(eI .i64)) (t:=true) rfl rfl (.inl rfl) rfl rfl (fun k h=>by cases h; exact qaf _) (fun h=>by cases h<;>rfl)) (mf rfl (zal (e:=(eI .i64)) (t:=true) rfl rfl (.inl rfl) rfl rfl (fun k h=>by cases h; exact qaf _) (fun h=>by cases h<;>rfl)) trivial)))) trivial) (zac ?_);obtain⟨r130,g131,j4⟩:=bind_some j4;try simp only[rnA]
  refine EvL.fnS (zas g131) rfl rfl (.cons (zad _ _ (fun h=>by cases h<;>contradiction)) (.cons (zad _ _ (fun h=>by cases h<;>contradiction)) (.cons (zad _ _ (fun h=>by cases h<;>contradiction)) .nil))) ⟨(zab _ _),(zab _ _),(zab _ _),qcb⟩ ⟨(zab _ _),(zab _ _),(zab _ _),qcb⟩ ?_;obtain⟨r132,g133,j4⟩:=bind_some j4;try simp only[rnA,Nat.reduceLT]
  refine EvL.fn (zaz g133) rfl rfl (.cons (.zaG (.cons (zaa _ _ (fun h=>nomatch h)) (.cons (zaa _ _ (fun h=>nomatch h)) (.cons (zaa _ _ (fun h=>nomatch h)) .nil)))) .nil) ?_;try simp only[rnA,Nat.reduceEqDiff,Nat.reduceLT]
  cases c134:(r132 == 30)
  ·rw[c134,cond_false]at j4;try simp only[rnA,Nat.reduceLT]
   refine EvL.dead 5 0 [196] ⟨rfl,qcb⟩ rfl ?_;try simp only[rnA]
   replace j4:=qab j4; subst j4;exact lfj hT4 rfl (wm0 [] (by exact trivial))
  rw[c134,cond_true]at j4;try simp only[rnA,Nat.reduceLT]
  refine EvL.zcY (S':=⟨202,[(196,(dB true)),(197,(fzE true (eI .i64) [(-1)]))],[]⟩) (zbl.m0 [.f] rfl (msq (mf rfl (zal (e:=(eI .i64)) (t:=true) rfl rfl (.inl rfl) rfl rfl (fun k h=>by cases h; exact qaf _) (fun h=>by cases h<;>rfl)) trivial)) trivial) (zac ?_);obtain⟨r135,g136,j4⟩:=bind_some j4;try simp only[rnA]
  refine EvL.fnS (zas g136) rfl rfl (.cons (zbx (eI .i64)) (.cons (zbx (eI .i64)) (.cons (zad _ _ (fun h=>by cases h<;>contradiction)) .nil))) ⟨(zab _ _),(zab _ _),(zab _ _),qcb⟩ ⟨(zab _ _),(zab _ _),(zab _ _),qcb⟩ ?_;obtain⟨r137,g138,j4⟩:=bind_some j4;try simp only[rnA,Nat.reduceLT]
  refine EvL.fn (zaz g138) rfl rfl (.cons (.zaG (.cons (zaa _ _ (fun h=>nomatch h)) (.cons (zaa _ _ (fun h=>nomatch h)) (.cons (zaa _ _ (fun h=>nomatch h)) .nil)))) .nil) ?_;try simp only[rnA,Nat.reduceEqDiff,Nat.reduceLT]
  replace j4:=qab j4; subst j4;exact lfj hT4 rfl (wm0 [] (by exact trivial))
 rintro v0 rfl;rw[congrFun hT4 v0];refine zac ?_;try simp only[rnA]
 replace h:=qab h; subst h;exact zcV.ret rfl (.lit _)
end Go.Dc
