/-
 What l03_FactorKnown computes. Conditions: none.
-/
import Derived.Test.YtbjogdohfhdaiaaKfQ26
set_option linter.unusedSimpArgs false
set_option linter.unusedVariables false
set_option maxRecDepth 100000
set_option maxHeartbeats 40000000
namespace Go.Dc
open Go Go.Mx Go.Lx Go.Proofs
def zch:Option Bool:=
(zcK).bind fun r1=>
bif r1 then(
(zdD 8 4096 0).bind fun y4=>
(zav [63] [1] [4611686018427387903]).bind fun r6=>
(zav [62] [2] [4611686018427387903,1]).bind fun r8=>
(zav [64] [1] [1]).bind fun r10=>
(zcn r8).bind fun r12=>
(zcn r10).bind fun r14=>
(((zaq (S_api_Factor.mk [0,1,2,3] [8,8,8,8] y4)).bind fun r16=>
bif (r16 == 0)then(
(zaq (S_api_Factor.mk [0,1,2,3,4,5,6,7,8,9,10,11] [2,2,2,2,2,2,2,2,2,2,2,2] y4)).bind fun r19=>
bif (r19 == 0)then(
(zaq r6).bind fun r22=>
bif (r22 == 0)then(
(zaq r10).bind fun r25=>
bif (r25 == 30)then(
(zav [] [] [4611686018427387904]).bind fun r28=>
(zaq r28).bind fun r30=>
bif (r30 == 30)then(
(zav [1] [] [1]).bind fun r33=>
(zaq r33).bind fun r35=>
bif (r35 == 30)then(
(zaq (S_api_Factor.mk [] [] [])).bind fun r38=>
bif (r38 == 30)then(
(zav [(-1)] [1] [1]).bind fun r41=>
(zaq r41).bind fun r43=>
bif (r43 == 30)then(
(zav [1,1] [1,1] [1]).bind fun r46=>
(zaq r46).bind fun r48=>
bif (r48 == 30)then(
(zav [1] [0] []).bind fun r51=>
(zaq r51).bind fun r53=>
some (r53 == 30))
else(
some false))
else(
some false))
else(
some false))
else(
some false))
else(
some false))
else(
some false))
else(
some false))
else(
some false))
else(
some false):Option Bool)).bind fun v12=>
((bif v12 then(
(zaw 3).bind fun r56=>
(zav [4] [2] [1,1]).bind fun r58=>
(zaD (S_api_Factor.mk [0,1,2,3] [8,8,8,8] y4) r58).bind fun r60=>
(zao r60.1 r60.2 r56).bind fun r62=>
bif r62 then(
(zbR (S_api_Factor.mk [0,1,2,3] [8,8,8,8] y4)).bind fun r65=>
(zav [] [] [4611686018427387903]).bind fun r67=>
(zaD (S_api_Factor.mk [0,1,2,3] [8,8,8,8] y4) r67).bind fun r69=>
(zaU r69.1 r69.2 r65).bind fun r71=>
bif r71 then(
(zaw 3).bind fun r74=>
(zav [12] [1] [1]).bind fun r76=>
(zaD (S_api_Factor.mk [0,1,2,3,4,5,6,7,8,9,10,11] [2,2,2,2,2,2,2,2,2,2,2,2] y4) r76).bind fun r78=>
(zao r78.1 r78.2 r74).bind fun r80=>
bif r80 then(
(zaw 6).bind fun r83=>
(zaD r6 r8).bind fun r85=>
(zao r85.1 r85.2 r83).bind fun r87=>
bif r87 then(
(zaw 6).bind fun r90=>
(zav [] [] [2]).bind fun r92=>
(zaD r8 r92).bind fun r94=>
(zao r94.1 r94.2 r90).bind fun r96=>
bif r96 then(
bif (r12.2 == 6)then(
bif (r14.2 == 30)then(
(zaw 6).bind fun r101=>
(zcc r8 62).bind fun r103=>
(zao r103.1 r103.2 r101).bind fun r105=>
bif r105 then(
(zav [] [] [4611686018427387903]).bind fun r108=>
(zbR r108).bind fun r110=>
(zcG r8 62).bind fun r112=>
(zaU r112.1 r112.2 r110).bind fun r114=>
bif r114 then(
(zaw 6).bind fun r117=>
(zbt r8 []).bind fun r119=>
(zao r119.1 r119.2 r117).bind fun r121=>
some r121)
else(
some false))
else(
some false))
else(
some false))
else(
some false))
else(
some false))
else(
some false))
else(
some false))
else(
some false))
else(
some false))
else(
some false):Option Bool)).bind fun v12'=>
((bif v12' then(
(zaw 30).bind fun r124=>
(zbv r10 5 9).bind fun r126=>
(zao r126.1 r126.2 r124).bind fun r128=>
bif r128 then(
(zaw 4).bind fun r131=>
(zbv r6 5 9).bind fun r133=>
(zao r133.1 r133.2 r131).bind fun r135=>
bif r135 then(
(zaw 2).bind fun r138=>
(zbv r6 63 1).bind fun r140=>
(zao r140.1 r140.2 r138).bind fun r142=>
bif r142 then(
(zaw 2).bind fun r145=>
(zbv r6 63 (-1)).bind fun r147=>
(zao r147.1 r147.2 r145).bind fun r149=>
bif r149 then(
(zav [] [] [4611686018427387903]).bind fun r152=>
(zbR r152).bind fun r154=>
(zbv r6 63 0).bind fun r156=>
(zaU r156.1 r156.2 r154).bind fun r158=>
bif r158 then(
(zaw 2).bind fun r161=>
(zbt r6 [63,63]).bind fun r163=>
(zao r163.1 r163.2 r161).bind fun r165=>
bif r165 then(
(zaw 4).bind fun r168=>
(zbt r6 [(-1)]).bind fun r170=>
(zao r170.1 r170.2 r168).bind fun r172=>
bif r172 then(
(zaw 4).bind fun r175=>
(zav [] [] [0]).bind fun r177=>
(zaY r6 r177).bind fun r179=>
(zao r179.1 r179.2 r175).bind fun r181=>
bif r181 then(
(zav [] [] [0]).bind fun r184=>
(zbR r184).bind fun r186=>
(zav [] [] [0]).bind fun r188=>
(zav [] [] [0]).bind fun r190=>
(zaY r188 r190).bind fun r192=>
(zaU r192.1 r192.2 r186).bind fun r194=>
bif r194 then(
(zca).bind fun r197=>
(zbR r197).bind fun r199=>
(zca).bind fun r201=>
(zca).bind fun r203=>
(zaY r201 r203).bind fun r205=>
(zaU r205.1 r205.2 r199).bind fun r207=>
bif r207 then(
(zaw 2).bind fun r210=>
(zav [62] [1] [1]).bind fun r212=>
(zaY r8 r212).bind fun r214=>
(zao r214.1 r214.2 r210).bind fun r216=>
some r216)
else(
some false))
else(
some false))
else(
some false))
else(
some false))
else(
some false))
else(
some false))
else(
some false))
else(
some false))
else(
some false))
else(
some false))
else(
some false):Option Bool)).bind fun v12''=>
(((zcK).bind fun r218=>
bif r218 then(
bif v12'' then(
(zca).bind fun r222=>
(zav [] [] [1]).bind fun r224=>
(zb3 r222 r224).bind fun r226=>
some r226)
else(
some false))
else(
some false):Option Bool)).bind fun v0=>
some v0)
else(
some false)
def zdG:C:=
 .seq (rg [oJ 0 false])
 (.seq (.seq (rg [⟨some 13,.call 26 [],none⟩,
 ⟨some 14,.un .not (.s 13),none⟩])
 (.cond (.s 14) (.seq (rg [oJ 0 false])
 (.ret))
 (.skip)))
 (.seq (rg [⟨some 15,.bsl 1 4 [(.int .i64 0)] [(0,(.c (.int .i64 8))),(1,(.c (.int .i64 8))),(2,(.c (.int .i64 8))),(3,(.c (.int .i64 8)))],none⟩,
 ⟨some 16,.bsl 1 12 [(.int .i64 0)] [(0,(.c (.int .i64 2))),(1,(.c (.int .i64 2))),(2,(.c (.int .i64 2))),(3,(.c (.int .i64 2))),(4,(.c (.int .i64 2))),(5,(.c (.int .i64 2))),(6,(.c (.int .i64 2))),(7,(.c (.int .i64 2))),(8,(.c (.int .i64 2))),(9,(.c (.int .i64 2))),(10,(.c (.int .i64 2))),(11,(.c (.int .i64 2)))],none⟩,
 oM 1 15,
 oM 2 16])
 (.seq (rg [⟨some 17,.bsl 1 4 [(.int .i64 0)] [(0,(.c (.int .i64 0))),(1,(.c (.int .i64 1))),(2,(.c (.int .i64 2))),(3,(.c (.int .i64 3)))],none⟩,
 oM 18 1,
 ⟨some 19,.mk 1 8 [(.int .i64 0)] (.c (.int .i64 4096)) (.c (.int .i64 4096)),none⟩,
 ⟨some 20,.build [(.slice none 0 0),(.slice none 0 0),(.slice none 0 0)] [(0,1,(.s 17)),(1,1,(.s 18)),(2,1,(.s 19))],none⟩,
 ⟨some 3,.alloc [(.slice none 0 0),(.slice none 0 0),(.slice none 0 0)],none⟩,
 oS 3 3 20])
 (.seq (rg [⟨some 21,.bsl 1 12 [(.int .i64 0)] [(0,(.c (.int .i64 0))),(1,(.c (.int .i64 1))),(2,(.c (.int .i64 2))),(3,(.c (.int .i64 3))),(4,(.c (.int .i64 4))),(5,(.c (.int .i64 5))),(6,(.c (.int .i64 6))),(7,(.c (.int .i64 7))),(8,(.c (.int .i64 8))),(9,(.c (.int .i64 9))),(10,(.c (.int .i64 10))),(11,(.c (.int .i64 11)))],none⟩,
 oM 22 2,
 ⟨some 23,.mk 1 8 [(.int .i64 0)] (.c (.int .i64 4096)) (.c (.int .i64 4096)),none⟩,
 ⟨some 24,.build [(.slice none 0 0),(.slice none 0 0),(.slice none 0 0)] [(0,1,(.s 21)),(1,1,(.s 22)),(2,1,(.s 23))],none⟩,
 ⟨some 4,.alloc [(.slice none 0 0),(.slice none 0 0),(.slice none 0 0)],none⟩,
 oS 3 4 24])
 (.seq (rg [⟨some 25,.bsl 1 1 [(.int .i64 0)] [(0,(.c (.int .i64 63)))],none⟩,
 ⟨some 26,.bsl 1 1 [(.int .i64 0)] [(0,(.c (.int .i64 1)))],none⟩,
 ⟨some 27,.bsl 1 1 [(.int .i64 0)] [(0,(.c (.int .i64 4611686018427387903)))],none⟩,
 ⟨some 28,.call 27 [(.s 25),(.s 26),(.s 27)],none⟩,
 ⟨some 29,.bsl 1 1 [(.int .i64 0)] [(0,(.c (.int .i64 62)))],none⟩,
 ⟨some 30,.bsl 1 1 [(.int .i64 0)] [(0,(.c (.int .i64 2)))],none⟩,
 ⟨some 31,.bsl 1 2 [(.int .i64 0)] [(0,(.c (.int .i64 4611686018427387903))),(1,(.c (.int .i64 1)))],none⟩,
 ⟨some 32,.call 27 [(.s 29),(.s 30),(.s 31)],none⟩,
 ⟨some 5,.alloc [(.slice none 0 0),(.slice none 0 0),(.slice none 0 0)],none⟩,
 ⟨some 6,.alloc [(.slice none 0 0),(.slice none 0 0),(.slice none 0 0)],none⟩,
 oS 3 5 28,
 oS 3 6 32])
 (.seq (rg [⟨some 33,.bsl 1 1 [(.int .i64 0)] [(0,(.c (.int .i64 64)))],none⟩,
 ⟨some 34,.bsl 1 1 [(.int .i64 0)] [(0,(.c (.int .i64 1)))],none⟩,
 ⟨some 35,.bsl 1 1 [(.int .i64 0)] [(0,(.c (.int .i64 1)))],none⟩,
 ⟨some 36,.call 27 [(.s 33),(.s 34),(.s 35)],none⟩,
 ⟨some 7,.alloc [(.slice none 0 0),(.slice none 0 0),(.slice none 0 0)],none⟩,
 oS 3 7 36])
 (.seq (rg [oN 38 3 6,
 oU 39 28 38,
 oM 37 39,
 oX 40 37 0,
 oX 41 37 1,
 oM 8 40,
 oM 9 41])
 (.seq (rg [oN 43 3 7,
 oU 44 28 43,
 oM 42 44,
 oX 45 42 0,
 oX 46 42 1,
 oM 10 45,
 oM 11 46])
 (.seq (.scope (rg [oN 47 3 3,
 oU 48 29 47,
 oD 49 .eql 48 0,
 oM 50 49,
 ⟨some 51,.load (some 3) (.s 4),some (50,true)⟩,
 ⟨some 52,.call 29 [(.s 51)],some (50,true)⟩,
 oDg 53 .eql 52 0 50 true,
 ⟨some 54,.pick (.s 50) (.s 53) (.c (.bool false)),none⟩,
 oM 55 54,
 ⟨some 56,.load (some 3) (.s 5),some (55,true)⟩,
 ⟨some 57,.call 29 [(.s 56)],some (55,true)⟩,
 oDg 58 .eql 57 0 55 true,
 ⟨some 59,.pick (.s 55) (.s 58) (.c (.bool false)),none⟩,
 oM 60 59,
 ⟨some 61,.load (some 3) (.s 7),some (60,true)⟩,
 ⟨some 62,.call 29 [(.s 61)],some (60,true)⟩,
 oDg 63 .eql 62 30 60 true,
 ⟨some 64,.pick (.s 60) (.s 63) (.c (.bool false)),none⟩,
 oM 65 64,
 ⟨some 66,.bsl 1 1 [(.int .i64 0)] [(0,(.c (.int .i64 4611686018427387904)))],some (65,true)⟩,
 ⟨some 67,.call 27 [(.c (.slice none 0 0)),(.c (.slice none 0 0)),(.s 66)],some (65,true)⟩,
 ⟨some 68,.call 29 [(.s 67)],some (65,true)⟩,
 oDg 69 .eql 68 30 65 true,
 ⟨some 70,.pick (.s 65) (.s 69) (.c (.bool false)),none⟩,
 oM 71 70,
 ⟨some 72,.bsl 1 1 [(.int .i64 0)] [(0,(.c (.int .i64 1)))],some (71,true)⟩,
 ⟨some 73,.bsl 1 1 [(.int .i64 0)] [(0,(.c (.int .i64 1)))],some (71,true)⟩,
 ⟨some 74,.call 27 [(.s 72),(.c (.slice none 0 0)),(.s 73)],some (71,true)⟩,
 ⟨some 75,.call 29 [(.s 74)],some (71,true)⟩,
 oDg 76 .eql 75 30 71 true,
 ⟨some 77,.pick (.s 71) (.s 76) (.c (.bool false)),none⟩,
 oM 78 77,
 ⟨some 79,.build [(.slice none 0 0),(.slice none 0 0),(.slice none 0 0)] [],some (78,true)⟩,
 ⟨some 80,.call 29 [(.s 79)],some (78,true)⟩,
 oDg 81 .eql 80 30 78 true,
 ⟨some 82,.pick (.s 78) (.s 81) (.c (.bool false)),none⟩,
 oM 83 82,
 ⟨some 84,.bsl 1 1 [(.int .i64 0)] [(0,(.c (.int .i64 (-1))))],some (83,true)⟩,
 ⟨some 85,.bsl 1 1 [(.int .i64 0)] [(0,(.c (.int .i64 1)))],some (83,true)⟩,
 ⟨some 86,.bsl 1 1 [(.int .i64 0)] [(0,(.c (.int .i64 1)))],some (83,true)⟩,
 ⟨some 87,.call 27 [(.s 84),(.s 85),(.s 86)],some (83,true)⟩,
 ⟨some 88,.call 29 [(.s 87)],some (83,true)⟩,
 oDg 89 .eql 88 30 83 true,
 ⟨some 90,.pick (.s 83) (.s 89) (.c (.bool false)),none⟩,
 oM 91 90,
 ⟨some 92,.bsl 1 2 [(.int .i64 0)] [(0,(.c (.int .i64 1))),(1,(.c (.int .i64 1)))],some (91,true)⟩,
 ⟨some 93,.bsl 1 2 [(.int .i64 0)] [(0,(.c (.int .i64 1))),(1,(.c (.int .i64 1)))],some (91,true)⟩,
 ⟨some 94,.bsl 1 1 [(.int .i64 0)] [(0,(.c (.int .i64 1)))],some (91,true)⟩,
 ⟨some 95,.call 27 [(.s 92),(.s 93),(.s 94)],some (91,true)⟩,
 ⟨some 96,.call 29 [(.s 95)],some (91,true)⟩,
 oDg 97 .eql 96 30 91 true,
 ⟨some 98,.pick (.s 91) (.s 97) (.c (.bool false)),none⟩,
 oM 99 98,
 ⟨some 100,.bsl 1 1 [(.int .i64 0)] [(0,(.c (.int .i64 1)))],some (99,true)⟩,
 ⟨some 101,.bsl 1 1 [(.int .i64 0)] [(0,(.c (.int .i64 0)))],some (99,true)⟩,
 ⟨some 102,.call 27 [(.s 100),(.s 101),(.c (.slice none 0 0))],some (99,true)⟩,
 ⟨some 103,.call 29 [(.s 102)],some (99,true)⟩,
 oDg 104 .eql 103 30 99 true,
 ⟨some 105,.pick (.s 99) (.s 104) (.c (.bool false)),none⟩,
 oM 12 105]))
 (.seq (.scope (.reg true true [oM 106 12,
 oM 107 106,
 ⟨some 109,.load (some 3) (.s 3),some (107,true)⟩,
 ⟨some 108,.call 30 [(.c (.int .i64 3))],some (107,true)⟩,
 ⟨some 110,.bsl 1 1 [(.int .i64 0)] [(0,(.c (.int .i64 4)))],some (107,true)⟩,
 ⟨some 111,.bsl 1 1 [(.int .i64 0)] [(0,(.c (.int .i64 2)))],some (107,true)⟩,
 ⟨some 112,.bsl 1 2 [(.int .i64 0)] [(0,(.c (.int .i64 1))),(1,(.c (.int .i64 1)))],some (107,true)⟩,
 ⟨some 113,.call 27 [(.s 110),(.s 111),(.s 112)],some (107,true)⟩,
 ⟨some 114,.call 31 [(.s 109),(.s 113)],some (107,true)⟩,
 ⟨some 115,.ext (.s 114) 0,some (107,true)⟩,
 ⟨some 116,.ext (.s 114) 1,some (107,true)⟩,
 ⟨some 117,.za2 (.s 108) [(.s 115),(.s 116)],some (107,true)⟩,
 ⟨some 118,.pick (.s 107) (.s 117) (.c (.bool false)),none⟩,
 oM 119 118,
 ⟨some 120,.load (some 3) (.s 3),some (119,true)⟩,
 ⟨some 122,.load (some 3) (.s 3),some (119,true)⟩,
 ⟨some 121,.call 32 [(.s 120)],some (119,true)⟩,
 ⟨some 123,.bsl 1 1 [(.int .i64 0)] [(0,(.c (.int .i64 4611686018427387903)))],some (119,true)⟩,
 ⟨some 124,.call 27 [(.c (.slice none 0 0)),(.c (.slice none 0 0)),(.s 123)],some (119,true)⟩,
 ⟨some 125,.call 31 [(.s 122),(.s 124)],some (119,true)⟩,
 ⟨some 126,.ext (.s 125) 0,some (119,true)⟩,
 ⟨some 127,.ext (.s 125) 1,some (119,true)⟩,
 ⟨some 128,.za2 (.s 121) [(.s 126),(.s 127)],some (119,true)⟩,
 ⟨some 129,.pick (.s 119) (.s 128) (.c (.bool false)),none⟩,
 oM 130 129,
 ⟨some 132,.load (some 3) (.s 4),some (130,true)⟩,
 ⟨some 131,.call 30 [(.c (.int .i64 3))],some (130,true)⟩,
 ⟨some 133,.bsl 1 1 [(.int .i64 0)] [(0,(.c (.int .i64 12)))],some (130,true)⟩,
 ⟨some 134,.bsl 1 1 [(.int .i64 0)] [(0,(.c (.int .i64 1)))],some (130,true)⟩,
 ⟨some 135,.bsl 1 1 [(.int .i64 0)] [(0,(.c (.int .i64 1)))],some (130,true)⟩,
 ⟨some 136,.call 27 [(.s 133),(.s 134),(.s 135)],some (130,true)⟩,
 ⟨some 137,.call 31 [(.s 132),(.s 136)],some (130,true)⟩,
 ⟨some 138,.ext (.s 137) 0,some (130,true)⟩,
 ⟨some 139,.ext (.s 137) 1,some (130,true)⟩,
 ⟨some 140,.za2 (.s 131) [(.s 138),(.s 139)],some (130,true)⟩,
 ⟨some 141,.pick (.s 130) (.s 140) (.c (.bool false)),none⟩,
 oM 142 141,
 ⟨some 144,.load (some 3) (.s 5),some (142,true)⟩,
 ⟨some 145,.load (some 3) (.s 6),some (142,true)⟩,
 ⟨some 143,.call 30 [(.c (.int .i64 6))],some (142,true)⟩,
 ⟨some 146,.call 31 [(.s 144),(.s 145)],some (142,true)⟩,
 ⟨some 147,.ext (.s 146) 0,some (142,true)⟩,
 ⟨some 148,.ext (.s 146) 1,some (142,true)⟩,
 ⟨some 149,.za2 (.s 143) [(.s 147),(.s 148)],some (142,true)⟩,
 ⟨some 150,.pick (.s 142) (.s 149) (.c (.bool false)),none⟩,
 oM 151 150,
 ⟨some 153,.load (some 3) (.s 6),some (151,true)⟩,
 ⟨some 152,.call 30 [(.c (.int .i64 6))],some (151,true)⟩,
 ⟨some 154,.bsl 1 1 [(.int .i64 0)] [(0,(.c (.int .i64 2)))],some (151,true)⟩,
 ⟨some 155,.call 27 [(.c (.slice none 0 0)),(.c (.slice none 0 0)),(.s 154)],some (151,true)⟩,
 ⟨some 156,.call 31 [(.s 153),(.s 155)],some (151,true)⟩,
 ⟨some 157,.ext (.s 156) 0,some (151,true)⟩,
 ⟨some 158,.ext (.s 156) 1,some (151,true)⟩,
 ⟨some 159,.za2 (.s 152) [(.s 157),(.s 158)],some (151,true)⟩,
 ⟨some 160,.pick (.s 151) (.s 159) (.c (.bool false)),none⟩,
 oM 161 160,
 oMg 162 9 161 true,
 oDg 163 .eql 162 6 161 true,
 ⟨some 164,.pick (.s 161) (.s 163) (.c (.bool false)),none⟩,
 oM 165 164,
 oMg 166 11 165 true,
 oDg 167 .eql 166 30 165 true,
 ⟨some 168,.pick (.s 165) (.s 167) (.c (.bool false)),none⟩,
 oM 169 168,
 ⟨some 171,.load (some 3) (.s 6),some (169,true)⟩,
 ⟨some 170,.call 30 [(.c (.int .i64 6))],some (169,true)⟩,
 ⟨some 172,.call 33 [(.s 171),(.c (.int .i64 62))],some (169,true)⟩,
 ⟨some 173,.ext (.s 172) 0,some (169,true)⟩,
 ⟨some 174,.ext (.s 172) 1,some (169,true)⟩,
 ⟨some 175,.za2 (.s 170) [(.s 173),(.s 174)],some (169,true)⟩,
 ⟨some 176,.pick (.s 169) (.s 175) (.c (.bool false)),none⟩,
 oM 177 176,
 ⟨some 181,.load (some 3) (.s 6),some (177,true)⟩,
 ⟨some 178,.bsl 1 1 [(.int .i64 0)] [(0,(.c (.int .i64 4611686018427387903)))],some (177,true)⟩,
 ⟨some 179,.call 27 [(.c (.slice none 0 0)),(.c (.slice none 0 0)),(.s 178)],some (177,true)⟩,
 ⟨some 180,.call 32 [(.s 179)],some (177,true)⟩,
 ⟨some 182,.call 34 [(.s 181),(.c (.int .i64 62))],some (177,true)⟩,
 ⟨some 183,.ext (.s 182) 0,some (177,true)⟩,
 ⟨some 184,.ext (.s 182) 1,some (177,true)⟩,
 ⟨some 185,.za2 (.s 180) [(.s 183),(.s 184)],some (177,true)⟩,
 ⟨some 186,.pick (.s 177) (.s 185) (.c (.bool false)),none⟩,
 oM 187 186,
 ⟨some 189,.load (some 3) (.s 6),some (187,true)⟩,
 ⟨some 188,.call 30 [(.c (.int .i64 6))],some (187,true)⟩,
 ⟨some 190,.call 35 [(.s 189),(.c (.slice none 0 0))],some (187,true)⟩,
 ⟨some 191,.ext (.s 190) 0,some (187,true)⟩,
 ⟨some 192,.ext (.s 190) 1,some (187,true)⟩,
 ⟨some 193,.za2 (.s 188) [(.s 191),(.s 192)],some (187,true)⟩,
 ⟨some 194,.pick (.s 187) (.s 193) (.c (.bool false)),none⟩,
 oM 12 194]))
 (.seq (.scope (.reg true true [oM 195 12,
 oM 196 195,
 ⟨some 198,.load (some 3) (.s 7),some (196,true)⟩,
 ⟨some 197,.call 30 [(.c (.int .i64 30))],some (196,true)⟩,
 ⟨some 199,.call 36 [(.s 198),(.c (.int .i64 5)),(.c (.int .i64 9))],some (196,true)⟩,
 ⟨some 200,.ext (.s 199) 0,some (196,true)⟩,
 ⟨some 201,.ext (.s 199) 1,some (196,true)⟩,
 ⟨some 202,.za2 (.s 197) [(.s 200),(.s 201)],some (196,true)⟩,
 ⟨some 203,.pick (.s 196) (.s 202) (.c (.bool false)),none⟩,
 oM 204 203,
 ⟨some 206,.load (some 3) (.s 5),some (204,true)⟩,
 ⟨some 205,.call 30 [(.c (.int .i64 4))],some (204,true)⟩,
 ⟨some 207,.call 36 [(.s 206),(.c (.int .i64 5)),(.c (.int .i64 9))],some (204,true)⟩,
 ⟨some 208,.ext (.s 207) 0,some (204,true)⟩,
 ⟨some 209,.ext (.s 207) 1,some (204,true)⟩,
 ⟨some 210,.za2 (.s 205) [(.s 208),(.s 209)],some (204,true)⟩,
 ⟨some 211,.pick (.s 204) (.s 210) (.c (.bool false)),none⟩,
 oM 212 211,
 ⟨some 214,.load (some 3) (.s 5),some (212,true)⟩,
 ⟨some 213,.call 30 [(.c (.int .i64 2))],some (212,true)⟩,
 ⟨some 215,.call 36 [(.s 214),(.c (.int .i64 63)),(.c (.int .i64 1))],some (212,true)⟩,
 ⟨some 216,.ext (.s 215) 0,some (212,true)⟩,
 ⟨some 217,.ext (.s 215) 1,some (212,true)⟩,
 ⟨some 218,.za2 (.s 213) [(.s 216),(.s 217)],some (212,true)⟩,
 ⟨some 219,.pick (.s 212) (.s 218) (.c (.bool false)),none⟩,
 oM 220 219,
 ⟨some 222,.load (some 3) (.s 5),some (220,true)⟩,
 ⟨some 221,.call 30 [(.c (.int .i64 2))],some (220,true)⟩,
 ⟨some 223,.call 36 [(.s 222),(.c (.int .i64 63)),(.c (.int .i64 (-1)))],some (220,true)⟩,
 ⟨some 224,.ext (.s 223) 0,some (220,true)⟩,
 ⟨some 225,.ext (.s 223) 1,some (220,true)⟩,
 ⟨some 226,.za2 (.s 221) [(.s 224),(.s 225)],some (220,true)⟩,
 ⟨some 227,.pick (.s 220) (.s 226) (.c (.bool false)),none⟩,
 oM 228 227,
 ⟨some 232,.load (some 3) (.s 5),some (228,true)⟩,
 ⟨some 229,.bsl 1 1 [(.int .i64 0)] [(0,(.c (.int .i64 4611686018427387903)))],some (228,true)⟩,
 ⟨some 230,.call 27 [(.c (.slice none 0 0)),(.c (.slice none 0 0)),(.s 229)],some (228,true)⟩,
 ⟨some 231,.call 32 [(.s 230)],some (228,true)⟩,
 ⟨some 233,.call 36 [(.s 232),(.c (.int .i64 63)),(.c (.int .i64 0))],some (228,true)⟩,
 ⟨some 234,.ext (.s 233) 0,some (228,true)⟩,
 ⟨some 235,.ext (.s 233) 1,some (228,true)⟩,
 ⟨some 236,.za2 (.s 231) [(.s 234),(.s 235)],some (228,true)⟩,
 ⟨some 237,.pick (.s 228) (.s 236) (.c (.bool false)),none⟩,
 oM 238 237,
 ⟨some 240,.load (some 3) (.s 5),some (238,true)⟩,
 ⟨some 239,.call 30 [(.c (.int .i64 2))],some (238,true)⟩,
 ⟨some 241,.bsl 1 2 [(.int .i64 0)] [(0,(.c (.int .i64 63))),(1,(.c (.int .i64 63)))],some (238,true)⟩,
 ⟨some 242,.call 35 [(.s 240),(.s 241)],some (238,true)⟩,
 ⟨some 243,.ext (.s 242) 0,some (238,true)⟩,
 ⟨some 244,.ext (.s 242) 1,some (238,true)⟩,
 ⟨some 245,.za2 (.s 239) [(.s 243),(.s 244)],some (238,true)⟩,
 ⟨some 246,.pick (.s 238) (.s 245) (.c (.bool false)),none⟩,
 oM 247 246,
 ⟨some 249,.load (some 3) (.s 5),some (247,true)⟩,
 ⟨some 248,.call 30 [(.c (.int .i64 4))],some (247,true)⟩,
 ⟨some 250,.bsl 1 1 [(.int .i64 0)] [(0,(.c (.int .i64 (-1))))],some (247,true)⟩,
 ⟨some 251,.call 35 [(.s 249),(.s 250)],some (247,true)⟩,
 ⟨some 252,.ext (.s 251) 0,some (247,true)⟩,
 ⟨some 253,.ext (.s 251) 1,some (247,true)⟩,
 ⟨some 254,.za2 (.s 248) [(.s 252),(.s 253)],some (247,true)⟩,
 ⟨some 255,.pick (.s 247) (.s 254) (.c (.bool false)),none⟩,
 oM 256 255,
 ⟨some 258,.load (some 3) (.s 5),some (256,true)⟩,
 ⟨some 257,.call 30 [(.c (.int .i64 4))],some (256,true)⟩,
 ⟨some 259,.bsl 1 1 [(.int .i64 0)] [(0,(.c (.int .i64 0)))],some (256,true)⟩,
 ⟨some 260,.call 27 [(.c (.slice none 0 0)),(.c (.slice none 0 0)),(.s 259)],some (256,true)⟩,
 ⟨some 261,.call 37 [(.s 258),(.s 260)],some (256,true)⟩,
 ⟨some 262,.ext (.s 261) 0,some (256,true)⟩,
 ⟨some 263,.ext (.s 261) 1,some (256,true)⟩,
 ⟨some 264,.za2 (.s 257) [(.s 262),(.s 263)],some (256,true)⟩,
 ⟨some 265,.pick (.s 256) (.s 264) (.c (.bool false)),none⟩,
 oM 266 265,
 ⟨some 267,.bsl 1 1 [(.int .i64 0)] [(0,(.c (.int .i64 0)))],some (266,true)⟩,
 ⟨some 268,.call 27 [(.c (.slice none 0 0)),(.c (.slice none 0 0)),(.s 267)],some (266,true)⟩,
 ⟨some 269,.call 32 [(.s 268)],some (266,true)⟩,
 ⟨some 270,.bsl 1 1 [(.int .i64 0)] [(0,(.c (.int .i64 0)))],some (266,true)⟩,
 ⟨some 271,.call 27 [(.c (.slice none 0 0)),(.c (.slice none 0 0)),(.s 270)],some (266,true)⟩,
 ⟨some 272,.bsl 1 1 [(.int .i64 0)] [(0,(.c (.int .i64 0)))],some (266,true)⟩,
 ⟨some 273,.call 27 [(.c (.slice none 0 0)),(.c (.slice none 0 0)),(.s 272)],some (266,true)⟩,
 ⟨some 274,.call 37 [(.s 271),(.s 273)],some (266,true)⟩,
 ⟨some 275,.ext (.s 274) 0,some (266,true)⟩,
 ⟨some 276,.ext (.s 274) 1,some (266,true)⟩,
 ⟨some 277,.za2 (.s 269) [(.s 275),(.s 276)],some (266,true)⟩,
 ⟨some 278,.pick (.s 266) (.s 277) (.c (.bool false)),none⟩,
 oM 279 278,
 ⟨some 280,.call 38 [],some (279,true)⟩,
 ⟨some 281,.call 32 [(.s 280)],some (279,true)⟩,
 ⟨some 282,.call 38 [],some (279,true)⟩,
 ⟨some 283,.call 38 [],some (279,true)⟩,
 ⟨some 284,.call 37 [(.s 282),(.s 283)],some (279,true)⟩,
 ⟨some 285,.ext (.s 284) 0,some (279,true)⟩,
 ⟨some 286,.ext (.s 284) 1,some (279,true)⟩,
 ⟨some 287,.za2 (.s 281) [(.s 285),(.s 286)],some (279,true)⟩,
 ⟨some 288,.pick (.s 279) (.s 287) (.c (.bool false)),none⟩,
 oM 289 288,
 ⟨some 291,.load (some 3) (.s 6),some (289,true)⟩,
 ⟨some 290,.call 30 [(.c (.int .i64 2))],some (289,true)⟩,
 ⟨some 292,.bsl 1 1 [(.int .i64 0)] [(0,(.c (.int .i64 62)))],some (289,true)⟩,
 ⟨some 293,.bsl 1 1 [(.int .i64 0)] [(0,(.c (.int .i64 1)))],some (289,true)⟩,
 ⟨some 294,.bsl 1 1 [(.int .i64 0)] [(0,(.c (.int .i64 1)))],some (289,true)⟩,
 ⟨some 295,.call 27 [(.s 292),(.s 293),(.s 294)],some (289,true)⟩,
 ⟨some 296,.call 37 [(.s 291),(.s 295)],some (289,true)⟩,
 ⟨some 297,.ext (.s 296) 0,some (289,true)⟩,
 ⟨some 298,.ext (.s 296) 1,some (289,true)⟩,
 ⟨some 299,.za2 (.s 290) [(.s 297),(.s 298)],some (289,true)⟩,
 ⟨some 300,.pick (.s 289) (.s 299) (.c (.bool false)),none⟩,
 oM 12 300]))
 (.seq (.scope (rg [oJ 301 true,
 ⟨some 302,.call 26 [],some (301,true)⟩,
 ⟨some 303,.pick (.s 301) (.s 302) (.c (.bool false)),none⟩,
 oM 304 303,
 oMg 305 12 304 true,
 ⟨some 306,.pick (.s 304) (.s 305) (.c (.bool false)),none⟩,
 oM 307 306,
 ⟨some 308,.call 38 [],some (307,true)⟩,
 ⟨some 309,.bsl 1 1 [(.int .i64 0)] [(0,(.c (.int .i64 1)))],some (307,true)⟩,
 ⟨some 310,.call 27 [(.c (.slice none 0 0)),(.c (.slice none 0 0)),(.s 309)],some (307,true)⟩,
 ⟨some 311,.call 39 [(.s 308),(.s 310)],some (307,true)⟩,
 ⟨some 312,.pick (.s 307) (.s 311) (.c (.bool false)),none⟩,
 oM 0 312]))
 (.ret)))))))))))))
theorem zeP:zgs mC 6=some (313,zdG,[.tmp 0],false):=zbj (by kernel_rfl)
theorem zfD{r:Bool}(h:zch=some r):Lx.Fn mC 6 [] (dB r):=by
 refine Fn.of zeP (zbc rfl) (qac rfl) ?_;unfold zch at h;simp only[zdG,zkx];refine zac ?_;obtain⟨r1,g2,h⟩:=bind_some h;try simp only[rnA,Nat.reduceLT]
 refine EvL.fn (zfW g2) rfl rfl .nil ?_;try simp only[rnA,Nat.reduceEqDiff,Nat.reduceLT,reduceCtorEq]
 cases c3:r1
 ·rw[c3,cond_false]at h;try simp only[rnA,Nat.reduceLT]
  replace h:=qab h; subst h;exact zcV.ret rfl (.lit _)
 rw[c3,cond_true]at h;obtain⟨y4,g5,h⟩:=bind_some h;try simp only[rnA,Nat.reduceEqDiff,Nat.reduceLT,Nat.reduceAdd,Nat.reduceLeDiff,reduceCtorEq,(zau g5).1.1,(zau g5).1.2,qbn,(show List.replicate (Int.toNat 4096) [(dI 0)]=y4.map ((eI .i64).c true)from zbw g5 ((eI .i64).c true))]
 refine EvL.zcY (S':=⟨313,[(3,(.ptr 4 0)),(4,(.ptr 7 0)),(25,(fzE true (eI .i64) [63])),(26,(fzE true (eI .i64) [1])),(27,(fzE true (eI .i64) [4611686018427387903]))],[.els 1 ([8,8,8,8].map ((eI .i64).c true)),.els 1 ([2,2,2,2,2,2,2,2,2,2,2,2].map ((eI .i64).c true)),.els 1 ([0,1,2,3].map ((eI .i64).c true)),.els 1 (y4.map ((eI .i64).c true)),.cells [(.sl 2 0 1 4 (some 4) 4),(.sl 0 0 1 4 (some 4) 4),(.sl 3 0 1 (Int.toNat 4096) (some (Int.toNat 4096)) (Int.toNat 4096))],.els 1 ([0,1,2,3,4,5,6,7,8,9,10,11].map ((eI .i64).c true)),.els 1 (y4.map ((eI .i64).c true)),.cells [(.sl 5 0 1 12 (some 12) 12),(.sl 1 0 1 12 (some 12) 12),(.sl 6 0 1 (Int.toNat 4096) (some (Int.toNat 4096)) (Int.toNat 4096))]]⟩) (zbl.m0 [.k,.k,.k,.k,.k,.k,.k,.k,.f,.f,.f] rfl (msq (msq (mf rfl (zal (e:=(eI .i64)) (t:=true) rfl rfl (.inl rfl) rfl rfl (fun k h=>by cases h; exact qaf _) (fun h=>by cases h<;>rfl)) (mf rfl (zal (e:=(eI .i64)) (t:=true) rfl rfl (.inl rfl) rfl rfl (fun k h=>by cases h; exact qaf _) (fun h=>by cases h<;>rfl)) (mf rfl (zal (e:=(eI .i64)) (t:=true) rfl rfl (.inl rfl) rfl rfl (fun k h=>by cases h; exact qaf _) (fun h=>by cases h<;>rfl)) trivial))))) ⟨MB.es (eI .i64) true [8,8,8,8],⟨MB.es (eI .i64) true [2,2,2,2,2,2,2,2,2,2,2,2],⟨MB.es (eI .i64) true [0,1,2,3],⟨MB.es (eI .i64) true y4,⟨MB.cs ⟨rfl,rfl,rfl,qcb⟩,⟨MB.es (eI .i64) true [0,1,2,3,4,5,6,7,8,9,10,11],⟨MB.es (eI .i64) true y4,⟨MB.cs ⟨rfl,rfl,rfl,qcb⟩,qcb⟩⟩⟩⟩⟩⟩⟩⟩) (zac ?_);obtain⟨r6,g7,h⟩:=bind_some h;try simp only[rnA]
 refine EvL.fnS (zas g7) rfl rfl (.cons (zad _ _ (fun h=>h.elim (fun h=>nomatch h) (fun h=>nomatch h))) (.cons (zad _ _ (fun h=>h.elim (fun h=>nomatch h) (fun h=>nomatch h))) (.cons (zad _ _ (fun h=>h.elim (fun h=>nomatch h) (fun h=>nomatch h))) .nil))) ⟨(zab _ _),(zab _ _),(zab _ _),qcb⟩ ⟨(zab _ _),(zab _ _),(zab _ _),qcb⟩ ?_;try simp only[rnA,Nat.reduceLT,Nat.reduceAdd]
 refine EvL.zcY (S':=⟨313,[(3,(.ptr 4 0)),(4,(.ptr 7 0)),(28,(.agg [(fzE false (eI .i64) r6.vars),(fzE false (eI .i64) r6.cards),(fzE false (eI .i64) r6.w)])),(29,(fzE true (eI .i64) [62])),(30,(fzE true (eI .i64) [2])),(31,(fzE true (eI .i64) [4611686018427387903,1]))],[.els 1 ([8,8,8,8].map ((eI .i64).c true)),.els 1 ([2,2,2,2,2,2,2,2,2,2,2,2].map ((eI .i64).c true)),.els 1 ([0,1,2,3].map ((eI .i64).c true)),.els 1 (y4.map ((eI .i64).c true)),.cells [(.sl 2 0 1 4 (some 4) 4),(.sl 0 0 1 4 (some 4) 4),(.sl 3 0 1 (Int.toNat 4096) (some (Int.toNat 4096)) (Int.toNat 4096))],.els 1 ([0,1,2,3,4,5,6,7,8,9,10,11].map ((eI .i64).c true)),.els 1 (y4.map ((eI .i64).c true)),.cells [(.sl 5 0 1 12 (some 12) 12),(.sl 1 0 1 12 (some 12) 12),(.sl 6 0 1 (Int.toNat 4096) (some (Int.toNat 4096)) (Int.toNat 4096))]]⟩) (zbl.m0 [.k,.k,.k,.k,.k,.k,.k,.k,.f,.f,.f] rfl (msq (msq (ms rfl ⟨qcb,qcb,qcb,qcb⟩ (mf rfl (zal (e:=(eI .i64)) (t:=true) rfl rfl (.inl rfl) rfl rfl (fun k h=>by cases h; exact qaf _) (fun h=>by cases h<;>rfl)) (mf rfl (zal (e:=(eI .i64)) (t:=true) rfl rfl (.inl rfl) rfl rfl (fun k h=>by cases h; exact qaf _) (fun h=>by cases h<;>rfl)) (mf rfl (zal (e:=(eI .i64)) (t:=true) rfl rfl (.inl rfl) rfl rfl (fun k h=>by cases h; exact qaf _) (fun h=>by cases h<;>rfl)) trivial)))))) ⟨MB.es (eI .i64) true [8,8,8,8],⟨MB.es (eI .i64) true [2,2,2,2,2,2,2,2,2,2,2,2],⟨MB.es (eI .i64) true [0,1,2,3],⟨MB.es (eI .i64) true y4,⟨MB.cs ⟨rfl,rfl,rfl,qcb⟩,⟨MB.es (eI .i64) true [0,1,2,3,4,5,6,7,8,9,10,11],⟨MB.es (eI .i64) true y4,⟨MB.cs ⟨rfl,rfl,rfl,qcb⟩,qcb⟩⟩⟩⟩⟩⟩⟩⟩) (zac ?_);obtain⟨r8,g9,h⟩:=bind_some h;try simp only[rnA]
 refine EvL.fnS (zas g9) rfl rfl (.cons (zad _ _ (fun h=>h.elim (fun h=>nomatch h) (fun h=>nomatch h))) (.cons (zad _ _ (fun h=>h.elim (fun h=>nomatch h) (fun h=>nomatch h))) (.cons (zad _ _ (fun h=>h.elim (fun h=>nomatch h) (fun h=>nomatch h))) .nil))) ⟨(zab _ _),(zab _ _),(zab _ _),qcb⟩ ⟨(zab _ _),(zab _ _),(zab _ _),qcb⟩ ?_;try simp only[rnA,Nat.reduceEqDiff,Nat.reduceLT,Nat.reduceAdd,Nat.reduceLeDiff]
 refine EvL.zcY (S':=⟨313,[(3,(.ptr 4 0)),(4,(.ptr 7 0)),(5,(.ptr 8 0)),(6,(.ptr 9 0)),(33,(fzE true (eI .i64) [64])),(34,(fzE true (eI .i64) [1])),(35,(fzE true (eI .i64) [1]))],[.els 1 ([8,8,8,8].map ((eI .i64).c true)),.els 1 ([2,2,2,2,2,2,2,2,2,2,2,2].map ((eI .i64).c true)),.els 1 ([0,1,2,3].map ((eI .i64).c true)),.els 1 (y4.map ((eI .i64).c true)),.cells [(.sl 2 0 1 4 (some 4) 4),(.sl 0 0 1 4 (some 4) 4),(.sl 3 0 1 (Int.toNat 4096) (some (Int.toNat 4096)) (Int.toNat 4096))],.els 1 ([0,1,2,3,4,5,6,7,8,9,10,11].map ((eI .i64).c true)),.els 1 (y4.map ((eI .i64).c true)),.cells [(.sl 5 0 1 12 (some 12) 12),(.sl 1 0 1 12 (some 12) 12),(.sl 6 0 1 (Int.toNat 4096) (some (Int.toNat 4096)) (Int.toNat 4096))],.cells [(fzE false (eI .i64) r6.vars),(fzE false (eI .i64) r6.cards),(fzE false (eI .i64) r6.w)],.cells [(fzE false (eI .i64) r8.vars),(fzE false (eI .i64) r8.cards),(fzE false (eI .i64) r8.w)]]⟩) (zbl.m0 [.k,.k,.k,.k,.k,.k,.k,.k,.k,.k,.f,.f,.f] rfl (msq (msq (msq (msq (mf rfl (zal (e:=(eI .i64)) (t:=true) rfl rfl (.inl rfl) rfl rfl (fun k h=>by cases h; exact qaf _) (fun h=>by cases h<;>rfl)) (mf rfl (zal (e:=(eI .i64)) (t:=true) rfl rfl (.inl rfl) rfl rfl (fun k h=>by cases h; exact qaf _) (fun h=>by cases h<;>rfl)) (mf rfl (zal (e:=(eI .i64)) (t:=true) rfl rfl (.inl rfl) rfl rfl (fun k h=>by cases h; exact qaf _) (fun h=>by cases h<;>rfl)) trivial))))))) ⟨MB.es (eI .i64) true [8,8,8,8],⟨MB.es (eI .i64) true [2,2,2,2,2,2,2,2,2,2,2,2],⟨MB.es (eI .i64) true [0,1,2,3],⟨MB.es (eI .i64) true y4,⟨MB.cs ⟨rfl,rfl,rfl,qcb⟩,⟨MB.es (eI .i64) true [0,1,2,3,4,5,6,7,8,9,10,11],⟨MB.es (eI .i64) true y4,⟨MB.cs ⟨rfl,rfl,rfl,qcb⟩,⟨MB.cs ⟨qcb,qcb,qcb,qcb⟩,⟨MB.cs ⟨qcb,qcb,qcb,qcb⟩,qcb⟩⟩⟩⟩⟩⟩⟩⟩⟩⟩) (zac ?_);obtain⟨r10,g11,h⟩:=bind_some h;try simp only[rnA]
 refine EvL.fnS (zas g11) rfl rfl (.cons (zad _ _ (fun h=>h.elim (fun h=>nomatch h) (fun h=>nomatch h))) (.cons (zad _ _ (fun h=>h.elim (fun h=>nomatch h) (fun h=>nomatch h))) (.cons (zad _ _ (fun h=>h.elim (fun h=>nomatch h) (fun h=>nomatch h))) .nil))) ⟨(zab _ _),(zab _ _),(zab _ _),qcb⟩ ⟨(zab _ _),(zab _ _),(zab _ _),qcb⟩ ?_;obtain⟨r12,g13,h⟩:=bind_some h;try simp only[rnA,Nat.reduceEqDiff,Nat.reduceLT,Nat.reduceAdd,Nat.reduceLeDiff]
 refine EvL.fn (zdq g13) rfl rfl (.cons (.zaG (.cons (zaa _ _ (fun h=>nomatch h)) (.cons (zaa _ _ (fun h=>nomatch h)) (.cons (zaa _ _ (fun h=>nomatch h)) .nil)))) .nil) ?_;obtain⟨r14,g15,h⟩:=bind_some h;try simp only[rnA,Nat.reduceEqDiff,Nat.reduceLT,Nat.reduceAdd,Nat.reduceLeDiff]
 refine EvL.fn (zdq g15) rfl rfl (.cons (.zaG (.cons (zaa _ _ (fun h=>nomatch h)) (.cons (zaa _ _ (fun h=>nomatch h)) (.cons (zaa _ _ (fun h=>nomatch h)) .nil)))) .nil) ?_;try simp only[rnA,Nat.reduceEqDiff,Nat.reduceLT]
 obtain⟨o1,j1,h⟩:=bind_some h;obtain⟨T1,hT1⟩:=mkT fun a:Bool=>⟨313,[(3,(.ptr 4 0)),(4,(.ptr 7 0)),(5,(.ptr 8 0)),(6,(.ptr 9 0)),(7,(.ptr 10 0)),(9,(dI r12.2)),(11,(dI r14.2)),(12,(dB a))],[.els 1 ([8,8,8,8].map ((eI .i64).c true)),.els 1 ([2,2,2,2,2,2,2,2,2,2,2,2].map ((eI .i64).c true)),.els 1 ([0,1,2,3].map ((eI .i64).c true)),.els 1 (y4.map ((eI .i64).c true)),.cells [(.sl 2 0 1 4 (some 4) 4),(.sl 0 0 1 4 (some 4) 4),(.sl 3 0 1 (Int.toNat 4096) (some (Int.toNat 4096)) (Int.toNat 4096))],.els 1 ([0,1,2,3,4,5,6,7,8,9,10,11].map ((eI .i64).c true)),.els 1 (y4.map ((eI .i64).c true)),.cells [(.sl 5 0 1 12 (some 12) 12),(.sl 1 0 1 12 (some 12) 12),(.sl 6 0 1 (Int.toNat 4096) (some (Int.toNat 4096)) (Int.toNat 4096))],.cells [(fzE false (eI .i64) r6.vars),(fzE false (eI .i64) r6.cards),(fzE false (eI .i64) r6.w)],.cells [(fzE false (eI .i64) r8.vars),(fzE false (eI .i64) r8.cards),(fzE false (eI .i64) r8.w)],.cells [(fzE false (eI .i64) r10.vars),(fzE false (eI .i64) r10.cards),(fzE false (eI .i64) r10.w)]]⟩
 refine EvL.jn T1 (fun a=>a=o1) ?_ ?_
 ·refine zac ?_;obtain⟨r16,g17,j1⟩:=bind_some j1;try simp only[rnA,Nat.reduceEqDiff,Nat.reduceLT,Nat.reduceAdd,Nat.reduceLeDiff]
  refine EvL.fn (zaz g17) rfl rfl (.cons (.zaG (.cons (zbh (e:=(eI .i64)) (t:=true) rfl (.inl rfl) rfl rfl (fun k h=>by cases h; exact qaf _) (fun h=>nomatch h)) (.cons (zbh (e:=(eI .i64)) (t:=true) rfl (.inl rfl) rfl rfl (fun k h=>by cases h; exact qaf _) (fun h=>nomatch h)) (.cons (zbh (e:=(eI .i64)) (t:=true) rfl (.inl rfl) (zaC g5).symm (zaC g5).symm (fun k h=>by cases h; exact qaf _) (fun h=>nomatch h)) .nil)))) .nil) ?_;try simp only[rnA,Nat.reduceEqDiff,Nat.reduceLT]
  cases c18:(r16 == 0)
  ·rw[c18,cond_false]at j1;try simp only[rnA,Nat.reduceLT]
   refine EvL.dead 55 12 [50] ⟨rfl,qcb⟩ rfl ?_;try simp only[rnA]
   replace j1:=qab j1; subst j1;exact lfj hT1 rfl (wm0 [.k,.k,.k,.k,.k,.k,.k,.k,.k,.k,.k] ⟨MB.es (eI .i64) true [8,8,8,8],⟨MB.es (eI .i64) true [2,2,2,2,2,2,2,2,2,2,2,2],⟨MB.es (eI .i64) true [0,1,2,3],⟨MB.es (eI .i64) true y4,⟨MB.cs ⟨rfl,rfl,rfl,qcb⟩,⟨MB.es (eI .i64) true [0,1,2,3,4,5,6,7,8,9,10,11],⟨MB.es (eI .i64) true y4,⟨MB.cs ⟨rfl,rfl,rfl,qcb⟩,⟨MB.cs ⟨qcb,qcb,qcb,qcb⟩,⟨MB.cs ⟨qcb,qcb,qcb,qcb⟩,⟨MB.cs ⟨qcb,qcb,qcb,qcb⟩,qcb⟩⟩⟩⟩⟩⟩⟩⟩⟩⟩⟩)
  rw[c18,cond_true]at j1;obtain⟨r19,g20,j1⟩:=bind_some j1;try simp only[rnA,Nat.reduceEqDiff,Nat.reduceLT,Nat.reduceAdd,Nat.reduceLeDiff]
  refine EvL.fn (zaz g20) rfl rfl (.cons (.zaG (.cons (zbh (e:=(eI .i64)) (t:=true) rfl (.inl rfl) rfl rfl (fun k h=>by cases h; exact qaf _) (fun h=>nomatch h)) (.cons (zbh (e:=(eI .i64)) (t:=true) rfl (.inl rfl) rfl rfl (fun k h=>by cases h; exact qaf _) (fun h=>nomatch h)) (.cons (zbh (e:=(eI .i64)) (t:=true) rfl (.inl rfl) (zaC g5).symm (zaC g5).symm (fun k h=>by cases h; exact qaf _) (fun h=>nomatch h)) .nil)))) .nil) ?_;try simp only[rnA,Nat.reduceEqDiff,Nat.reduceLT]
  cases c21:(r19 == 0)
  ·rw[c21,cond_false]at j1;try simp only[rnA,Nat.reduceLT]
   refine EvL.dead 50 12 [55] ⟨rfl,qcb⟩ rfl ?_;try simp only[rnA]
   replace j1:=qab j1; subst j1;exact lfj hT1 rfl (wm0 [.k,.k,.k,.k,.k,.k,.k,.k,.k,.k,.k] ⟨MB.es (eI .i64) true [8,8,8,8],⟨MB.es (eI .i64) true [2,2,2,2,2,2,2,2,2,2,2,2],⟨MB.es (eI .i64) true [0,1,2,3],⟨MB.es (eI .i64) true y4,⟨MB.cs ⟨rfl,rfl,rfl,qcb⟩,⟨MB.es (eI .i64) true [0,1,2,3,4,5,6,7,8,9,10,11],⟨MB.es (eI .i64) true y4,⟨MB.cs ⟨rfl,rfl,rfl,qcb⟩,⟨MB.cs ⟨qcb,qcb,qcb,qcb⟩,⟨MB.cs ⟨qcb,qcb,qcb,qcb⟩,⟨MB.cs ⟨qcb,qcb,qcb,qcb⟩,qcb⟩⟩⟩⟩⟩⟩⟩⟩⟩⟩⟩)
  rw[c21,cond_true]at j1;obtain⟨r22,g23,j1⟩:=bind_some j1;try simp only[rnA,Nat.reduceEqDiff,Nat.reduceLT,Nat.reduceAdd,Nat.reduceLeDiff]
  refine EvL.fn (zaz g23) rfl rfl (.cons (.zaG (.cons (zaa _ _ (fun h=>nomatch h)) (.cons (zaa _ _ (fun h=>nomatch h)) (.cons (zaa _ _ (fun h=>nomatch h)) .nil)))) .nil) ?_;try simp only[rnA,Nat.reduceEqDiff,Nat.reduceLT]
  cases c24:(r22 == 0)
  ·rw[c24,cond_false]at j1;try simp only[rnA,Nat.reduceLT]
   refine EvL.dead 45 12 [60] ⟨rfl,qcb⟩ rfl ?_;try simp only[rnA]
   replace j1:=qab j1; subst j1;exact lfj hT1 rfl (wm0 [.k,.k,.k,.k,.k,.k,.k,.k,.k,.k,.k] ⟨MB.es (eI .i64) true [8,8,8,8],⟨MB.es (eI .i64) true [2,2,2,2,2,2,2,2,2,2,2,2],⟨MB.es (eI .i64) true [0,1,2,3],⟨MB.es (eI .i64) true y4,⟨MB.cs ⟨rfl,rfl,rfl,qcb⟩,⟨MB.es (eI .i64) true [0,1,2,3,4,5,6,7,8,9,10,11],⟨MB.es (eI .i64) true y4,⟨MB.cs ⟨rfl,rfl,rfl,qcb⟩,⟨MB.cs ⟨qcb,qcb,qcb,qcb⟩,⟨MB.cs ⟨qcb,qcb,qcb,qcb⟩,⟨MB.cs ⟨qcb,qcb,qcb,qcb⟩,qcb⟩⟩⟩⟩⟩⟩⟩⟩⟩⟩⟩)
  rw[c24,cond_true]at j1;obtain⟨r25,g26,j1⟩:=bind_some j1;try simp only[rnA,Nat.reduceEqDiff,Nat.reduceLT,Nat.reduceAdd,Nat.reduceLeDiff]
  refine EvL.fn (zaz g26) rfl rfl (.cons (.zaG (.cons (zaa _ _ (fun h=>nomatch h)) (.cons (zaa _ _ (fun h=>nomatch h)) (.cons (zaa _ _ (fun h=>nomatch h)) .nil)))) .nil) ?_;try simp only[rnA,Nat.reduceEqDiff,Nat.reduceLT]
  cases c27:(r25 == 30)
  ·rw[c27,cond_false]at j1;try simp only[rnA,Nat.reduceLT]
   refine EvL.dead 40 12 [65] ⟨rfl,qcb⟩ rfl ?_;try simp only[rnA]
   replace j1:=qab j1; subst j1;exact lfj hT1 rfl (wm0 [.k,.k,.k,.k,.k,.k,.k,.k,.k,.k,.k] ⟨MB.es (eI .i64) true [8,8,8,8],⟨MB.es (eI .i64) true [2,2,2,2,2,2,2,2,2,2,2,2],⟨MB.es (eI .i64) true [0,1,2,3],⟨MB.es (eI .i64) true y4,⟨MB.cs ⟨rfl,rfl,rfl,qcb⟩,⟨MB.es (eI .i64) true [0,1,2,3,4,5,6,7,8,9,10,11],⟨MB.es (eI .i64) true y4,⟨MB.cs ⟨rfl,rfl,rfl,qcb⟩,⟨MB.cs ⟨qcb,qcb,qcb,qcb⟩,⟨MB.cs ⟨qcb,qcb,qcb,qcb⟩,⟨MB.cs ⟨qcb,qcb,qcb,qcb⟩,qcb⟩⟩⟩⟩⟩⟩⟩⟩⟩⟩⟩)
  rw[c27,cond_true]at j1;try simp only[rnA,Nat.reduceLT,Nat.reduceAdd]
  refine EvL.zcY (S':=⟨313,[(3,(.ptr 4 0)),(4,(.ptr 7 0)),(5,(.ptr 8 0)),(6,(.ptr 9 0)),(7,(.ptr 10 0)),(9,(dI r12.2)),(11,(dI r14.2)),(65,(dB true)),(66,(fzE true (eI .i64) [4611686018427387904]))],[.els 1 ([8,8,8,8].map ((eI .i64).c true)),.els 1 ([2,2,2,2,2,2,2,2,2,2,2,2].map ((eI .i64).c true)),.els 1 ([0,1,2,3].map ((eI .i64).c true)),.els 1 (y4.map ((eI .i64).c true)),.cells [(.sl 2 0 1 4 (some 4) 4),(.sl 0 0 1 4 (some 4) 4),(.sl 3 0 1 (Int.toNat 4096) (some (Int.toNat 4096)) (Int.toNat 4096))],.els 1 ([0,1,2,3,4,5,6,7,8,9,10,11].map ((eI .i64).c true)),.els 1 (y4.map ((eI .i64).c true)),.cells [(.sl 5 0 1 12 (some 12) 12),(.sl 1 0 1 12 (some 12) 12),(.sl 6 0 1 (Int.toNat 4096) (some (Int.toNat 4096)) (Int.toNat 4096))],.cells [(fzE false (eI .i64) r6.vars),(fzE false (eI .i64) r6.cards),(fzE false (eI .i64) r6.w)],.cells [(fzE false (eI .i64) r8.vars),(fzE false (eI .i64) r8.cards),(fzE false (eI .i64) r8.w)],.cells [(fzE false (eI .i64) r10.vars),(fzE false (eI .i64) r10.cards),(fzE false (eI .i64) r10.w)]]⟩) (zbl.m0 [.k,.k,.k,.k,.k,.k,.k,.k,.k,.k,.k,.f] rfl (msq (msq (msq (msq (msq (msq (msq (msq (mf rfl (zal (e:=(eI .i64)) (t:=true) rfl rfl (.inl rfl) rfl rfl (fun k h=>by cases h; exact qaf _) (fun h=>by cases h<;>rfl)) trivial))))))))) ⟨MB.es (eI .i64) true [8,8,8,8],⟨MB.es (eI .i64) true [2,2,2,2,2,2,2,2,2,2,2,2],⟨MB.es (eI .i64) true [0,1,2,3],⟨MB.es (eI .i64) true y4,⟨MB.cs ⟨rfl,rfl,rfl,qcb⟩,⟨MB.es (eI .i64) true [0,1,2,3,4,5,6,7,8,9,10,11],⟨MB.es (eI .i64) true y4,⟨MB.cs ⟨rfl,rfl,rfl,qcb⟩,⟨MB.cs ⟨qcb,qcb,qcb,qcb⟩,⟨MB.cs ⟨qcb,qcb,qcb,qcb⟩,⟨MB.cs ⟨qcb,qcb,qcb,qcb⟩,qcb⟩⟩⟩⟩⟩⟩⟩⟩⟩⟩⟩) (zac ?_);obtain⟨r28,g29,j1⟩:=bind_some j1;try simp only[rnA]
  refine EvL.fnS (zas g29) rfl rfl (.cons (zbx (eI .i64)) (.cons (zbx (eI .i64)) (.cons (zad _ _ (fun h=>h.elim (fun h=>nomatch h) (fun h=>nomatch h))) .nil))) ⟨(zab _ _),(zab _ _),(zab _ _),qcb⟩ ⟨(zab _ _),(zab _ _),(zab _ _),qcb⟩ ?_;obtain⟨r30,g31,j1⟩:=bind_some j1;try simp only[rnA,Nat.reduceLT]
  refine EvL.fn (zaz g31) rfl rfl (.cons (.zaG (.cons (zaa _ _ (fun h=>nomatch h)) (.cons (zaa _ _ (fun h=>nomatch h)) (.cons (zaa _ _ (fun h=>nomatch h)) .nil)))) .nil) ?_;try simp only[rnA,Nat.reduceEqDiff,Nat.reduceLT]
  cases c32:(r30 == 30)
  ·rw[c32,cond_false]at j1;try simp only[rnA,Nat.reduceEqDiff,Nat.reduceLT]
   refine EvL.dead 33 12 [71] ⟨rfl,qcb⟩ rfl ?_;try simp only[rnA]
   replace j1:=qab j1; subst j1;exact lfj hT1 rfl (wm0 [.k,.k,.k,.k,.k,.k,.k,.k,.k,.k,.k] ⟨MB.es (eI .i64) true [8,8,8,8],⟨MB.es (eI .i64) true [2,2,2,2,2,2,2,2,2,2,2,2],⟨MB.es (eI .i64) true [0,1,2,3],⟨MB.es (eI .i64) true y4,⟨MB.cs ⟨rfl,rfl,rfl,qcb⟩,⟨MB.es (eI .i64) true [0,1,2,3,4,5,6,7,8,9,10,11],⟨MB.es (eI .i64) true y4,⟨MB.cs ⟨rfl,rfl,rfl,qcb⟩,⟨MB.cs ⟨qcb,qcb,qcb,qcb⟩,⟨MB.cs ⟨qcb,qcb,qcb,qcb⟩,⟨MB.cs ⟨qcb,qcb,qcb,qcb⟩,qcb⟩⟩⟩⟩⟩⟩⟩⟩⟩⟩⟩)
  rw[c32,cond_true]at j1;try simp only[rnA,Nat.reduceEqDiff,Nat.reduceLT,Nat.reduceAdd]
  refine EvL.zcY (S':=⟨313,[(3,(.ptr 4 0)),(4,(.ptr 7 0)),(5,(.ptr 8 0)),(6,(.ptr 9 0)),(7,(.ptr 10 0)),(9,(dI r12.2)),(11,(dI r14.2)),(71,(dB true)),(72,(fzE true (eI .i64) [1])),(73,(fzE true (eI .i64) [1]))],[.els 1 ([8,8,8,8].map ((eI .i64).c true)),.els 1 ([2,2,2,2,2,2,2,2,2,2,2,2].map ((eI .i64).c true)),.els 1 ([0,1,2,3].map ((eI .i64).c true)),.els 1 (y4.map ((eI .i64).c true)),.cells [(.sl 2 0 1 4 (some 4) 4),(.sl 0 0 1 4 (some 4) 4),(.sl 3 0 1 (Int.toNat 4096) (some (Int.toNat 4096)) (Int.toNat 4096))],.els 1 ([0,1,2,3,4,5,6,7,8,9,10,11].map ((eI .i64).c true)),.els 1 (y4.map ((eI .i64).c true)),.cells [(.sl 5 0 1 12 (some 12) 12),(.sl 1 0 1 12 (some 12) 12),(.sl 6 0 1 (Int.toNat 4096) (some (Int.toNat 4096)) (Int.toNat 4096))],.cells [(fzE false (eI .i64) r6.vars),(fzE false (eI .i64) r6.cards),(fzE false (eI .i64) r6.w)],.cells [(fzE false (eI .i64) r8.vars),(fzE false (eI .i64) r8.cards),(fzE false (eI .i64) r8.w)],.cells [(fzE false (eI .i64) r10.vars),(fzE false (eI .i64) r10.cards),(fzE false (eI .i64) r10.w)]]⟩) (zbl.m0 [.k,.k,.k,.k,.k,.k,.k,.k,.k,.k,.k,.f,.f] rfl (msq (msq (msq (msq (msq (msq (msq (msq (mf rfl (zal (e:=(eI .i64)) (t:=true) rfl rfl (.inl rfl) rfl rfl (fun k h=>by cases h; exact qaf _) (fun h=>by cases h<;>rfl)) (mf rfl (zal (e:=(eI .i64)) (t:=true) rfl rfl (.inl rfl) rfl rfl (fun k h=>by cases h; exact qaf _) (fun h=>by cases h<;>rfl)) trivial)))))))))) ⟨MB.es (eI .i64) true [8,8,8,8],⟨MB.es (eI .i64) true [2,2,2,2,2,2,2,2,2,2,2,2],⟨MB.es (eI .i64) true [0,1,2,3],⟨MB.es (eI .i64) true y4,⟨MB.cs ⟨rfl,rfl,rfl,qcb⟩,⟨MB.es (eI .i64) true [0,1,2,3,4,5,6,7,8,9,10,11],⟨MB.es (eI .i64) true y4,⟨MB.cs ⟨rfl,rfl,rfl,qcb⟩,⟨MB.cs ⟨qcb,qcb,qcb,qcb⟩,⟨MB.cs ⟨qcb,qcb,qcb,qcb⟩,⟨MB.cs ⟨qcb,qcb,qcb,qcb⟩,qcb⟩⟩⟩⟩⟩⟩⟩⟩⟩⟩⟩) (zac ?_);obtain⟨r33,g34,j1⟩:=bind_some j1;try simp only[rnA]
  refine EvL.fnS (zas g34) rfl rfl (.cons (zad _ _ (fun h=>h.elim (fun h=>nomatch h) (fun h=>nomatch h))) (.cons (zbx (eI .i64)) (.cons (zad _ _ (fun h=>h.elim (fun h=>nomatch h) (fun h=>nomatch h))) .nil))) ⟨(zab _ _),(zab _ _),(zab _ _),qcb⟩ ⟨(zab _ _),(zab _ _),(zab _ _),qcb⟩ ?_;obtain⟨r35,g36,j1⟩:=bind_some j1;try simp only[rnA,Nat.reduceLT]
  refine EvL.fn (zaz g36) rfl rfl (.cons (.zaG (.cons (zaa _ _ (fun h=>nomatch h)) (.cons (zaa _ _ (fun h=>nomatch h)) (.cons (zaa _ _ (fun h=>nomatch h)) .nil)))) .nil) ?_;try simp only[rnA,Nat.reduceEqDiff,Nat.reduceLT]
  cases c37:(r35 == 30)
  ·rw[c37,cond_false]at j1;try simp only[rnA,Nat.reduceLT]
   refine EvL.dead 27 12 [78] ⟨rfl,qcb⟩ rfl ?_;try simp only[rnA]
   replace j1:=qab j1; subst j1;exact lfj hT1 rfl (wm0 [.k,.k,.k,.k,.k,.k,.k,.k,.k,.k,.k] ⟨MB.es (eI .i64) true [8,8,8,8],⟨MB.es (eI .i64) true [2,2,2,2,2,2,2,2,2,2,2,2],⟨MB.es (eI .i64) true [0,1,2,3],⟨MB.es (eI .i64) true y4,⟨MB.cs ⟨rfl,rfl,rfl,qcb⟩,⟨MB.es (eI .i64) true [0,1,2,3,4,5,6,7,8,9,10,11],⟨MB.es (eI .i64) true y4,⟨MB.cs ⟨rfl,rfl,rfl,qcb⟩,⟨MB.cs ⟨qcb,qcb,qcb,qcb⟩,⟨MB.cs ⟨qcb,qcb,qcb,qcb⟩,⟨MB.cs ⟨qcb,qcb,qcb,qcb⟩,qcb⟩⟩⟩⟩⟩⟩⟩⟩⟩⟩⟩)
  rw[c37,cond_true]at j1;obtain⟨r38,g39,j1⟩:=bind_some j1;try simp only[rnA,Nat.reduceLT]
  refine EvL.fn (zaz g39) rfl rfl (.cons (.zaG (.cons (zai (eI .i64)) (.cons (zai (eI .i64)) (.cons (zai (eI .i64)) .nil)))) .nil) ?_;try simp only[rnA,Nat.reduceEqDiff,Nat.reduceLT]
  cases c40:(r38 == 30)
  ·rw[c40,cond_false]at j1;try simp only[rnA,Nat.reduceEqDiff,Nat.reduceLT]
   refine EvL.dead 20 12 [83] ⟨rfl,qcb⟩ rfl ?_;try simp only[rnA]
   replace j1:=qab j1; subst j1;exact lfj hT1 rfl (wm0 [.k,.k,.k,.k,.k,.k,.k,.k,.k,.k,.k] ⟨MB.es (eI .i64) true [8,8,8,8],⟨MB.es (eI .i64) true [2,2,2,2,2,2,2,2,2,2,2,2],⟨MB.es (eI .i64) true [0,1,2,3],⟨MB.es (eI .i64) true y4,⟨MB.cs ⟨rfl,rfl,rfl,qcb⟩,⟨MB.es (eI .i64) true [0,1,2,3,4,5,6,7,8,9,10,11],⟨MB.es (eI .i64) true y4,⟨MB.cs ⟨rfl,rfl,rfl,qcb⟩,⟨MB.cs ⟨qcb,qcb,qcb,qcb⟩,⟨MB.cs ⟨qcb,qcb,qcb,qcb⟩,⟨MB.cs ⟨qcb,qcb,qcb,qcb⟩,qcb⟩⟩⟩⟩⟩⟩⟩⟩⟩⟩⟩)
  rw[c40,cond_true]at j1;try simp only[rnA,Nat.reduceEqDiff,Nat.reduceLT,Nat.reduceAdd]
  refine EvL.zcY (S':=⟨313,[(3,(.ptr 4 0)),(4,(.ptr 7 0)),(5,(.ptr 8 0)),(6,(.ptr 9 0)),(7,(.ptr 10 0)),(9,(dI r12.2)),(11,(dI r14.2)),(83,(dB true)),(84,(fzE true (eI .i64) [(-1)])),(85,(fzE true (eI .i64) [1])),(86,(fzE true (eI .i64) [1]))],[.els 1 ([8,8,8,8].map ((eI .i64).c true)),.els 1 ([2,2,2,2,2,2,2,2,2,2,2,2].map ((eI .i64).c true)),.els 1 ([0,1,2,3].map ((eI .i64).c true)),.els 1 (y4.map ((eI .i64).c true)),.cells [(.sl 2 0 1 4 (some 4) 4),(.sl 0 0 1 4 (some 4) 4),(.sl 3 0 1 (Int.toNat 4096) (some (Int.toNat 4096)) (Int.toNat 4096))],.els 1 ([0,1,2,3,4,5,6,7,8,9,10,11].map ((eI .i64).c true)),.els 1 (y4.map ((eI .i64).c true)),.cells [(.sl 5 0 1 12 (some 12) 12),(.sl 1 0 1 12 (some 12) 12),(.sl 6 0 1 (Int.toNat 4096) (some (Int.toNat 4096)) (Int.toNat 4096))],.cells [(fzE false (eI .i64) r6.vars),(fzE false (eI .i64) r6.cards),(fzE false (eI .i64) r6.w)],.cells [(fzE false (eI .i64) r8.vars),(fzE false (eI .i64) r8.cards),(fzE false (eI .i64) r8.w)],.cells [(fzE false (eI .i64) r10.vars),(fzE false (eI .i64) r10.cards),(fzE false (eI .i64) r10.w)]]⟩) (zbl.m0 [.k,.k,.k,.k,.k,.k,.k,.k,.k,.k,.k,.f,.f,.f] rfl (msq (msq (msq (msq (msq (msq (msq (msq (mf rfl (zal (e:=(eI .i64)) (t:=true) rfl rfl (.inl rfl) rfl rfl (fun k h=>by cases h; exact qaf _) (fun h=>by cases h<;>rfl)) (mf rfl (zal (e:=(eI .i64)) (t:=true) rfl rfl (.inl rfl) rfl rfl (fun k h=>by cases h; exact qaf _) (fun h=>by cases h<;>rfl)) (mf rfl (zal (e:=(eI .i64)) (t:=true) rfl rfl (.inl rfl) rfl rfl (fun k h=>by cases h; exact qaf _) (fun h=>by cases h<;>rfl)) trivial))))))))))) ⟨MB.es (eI .i64) true [8,8,8,8],⟨MB.es (eI .i64) true [2,2,2,2,2,2,2,2,2,2,2,2],⟨MB.es (eI .i64) true [0,1,2,3],⟨MB.es (eI .i64) true y4,⟨MB.cs ⟨rfl,rfl,rfl,qcb⟩,⟨MB.es (eI .i64) true [0,1,2,3,4,5,6,7,8,9,10,11],⟨MB.es (eI .i64) true y4,⟨MB.cs ⟨rfl,rfl,rfl,qcb⟩,⟨MB.cs ⟨qcb,qcb,qcb,qcb⟩,⟨MB.cs ⟨qcb,qcb,qcb,qcb⟩,⟨MB.cs ⟨qcb,qcb,qcb,qcb⟩,qcb⟩⟩⟩⟩⟩⟩⟩⟩⟩⟩⟩) (zac ?_);obtain⟨r41,g42,j1⟩:=bind_some j1;try simp only[rnA]
  refine EvL.fnS (zas g42) rfl rfl (.cons (zad _ _ (fun h=>h.elim (fun h=>nomatch h) (fun h=>nomatch h))) (.cons (zad _ _ (fun h=>h.elim (fun h=>nomatch h) (fun h=>nomatch h))) (.cons (zad _ _ (fun h=>h.elim (fun h=>nomatch h) (fun h=>nomatch h))) .nil))) ⟨(zab _ _),(zab _ _),(zab _ _),qcb⟩ ⟨(zab _ _),(zab _ _),(zab _ _),qcb⟩ ?_;obtain⟨r43,g44,j1⟩:=bind_some j1;try simp only[rnA,Nat.reduceLT]
  refine EvL.fn (zaz g44) rfl rfl (.cons (.zaG (.cons (zaa _ _ (fun h=>nomatch h)) (.cons (zaa _ _ (fun h=>nomatch h)) (.cons (zaa _ _ (fun h=>nomatch h)) .nil)))) .nil) ?_;try simp only[rnA,Nat.reduceEqDiff,Nat.reduceLT]
  cases c45:(r43 == 30)
  ·rw[c45,cond_false]at j1;try simp only[rnA,Nat.reduceEqDiff,Nat.reduceLT]
   refine EvL.dead 12 12 [91] ⟨rfl,qcb⟩ rfl ?_;try simp only[rnA]
   replace j1:=qab j1; subst j1;exact lfj hT1 rfl (wm0 [.k,.k,.k,.k,.k,.k,.k,.k,.k,.k,.k] ⟨MB.es (eI .i64) true [8,8,8,8],⟨MB.es (eI .i64) true [2,2,2,2,2,2,2,2,2,2,2,2],⟨MB.es (eI .i64) true [0,1,2,3],⟨MB.es (eI .i64) true y4,⟨MB.cs ⟨rfl,rfl,rfl,qcb⟩,⟨MB.es (eI .i64) true [0,1,2,3,4,5,6,7,8,9,10,11],⟨MB.es (eI .i64) true y4,⟨MB.cs ⟨rfl,rfl,rfl,qcb⟩,⟨MB.cs ⟨qcb,qcb,qcb,qcb⟩,⟨MB.cs ⟨qcb,qcb,qcb,qcb⟩,⟨MB.cs ⟨qcb,qcb,qcb,qcb⟩,qcb⟩⟩⟩⟩⟩⟩⟩⟩⟩⟩⟩)
  rw[c45,cond_true]at j1;try simp only[rnA,Nat.reduceEqDiff,Nat.reduceLT,Nat.reduceAdd]
  refine EvL.zcY (S':=⟨313,[(3,(.ptr 4 0)),(4,(.ptr 7 0)),(5,(.ptr 8 0)),(6,(.ptr 9 0)),(7,(.ptr 10 0)),(9,(dI r12.2)),(11,(dI r14.2)),(91,(dB true)),(92,(fzE true (eI .i64) [1,1])),(93,(fzE true (eI .i64) [1,1])),(94,(fzE true (eI .i64) [1]))],[.els 1 ([8,8,8,8].map ((eI .i64).c true)),.els 1 ([2,2,2,2,2,2,2,2,2,2,2,2].map ((eI .i64).c true)),.els 1 ([0,1,2,3].map ((eI .i64).c true)),.els 1 (y4.map ((eI .i64).c true)),.cells [(.sl 2 0 1 4 (some 4) 4),(.sl 0 0 1 4 (some 4) 4),(.sl 3 0 1 (Int.toNat 4096) (some (Int.toNat 4096)) (Int.toNat 4096))],.els 1 ([0,1,2,3,4,5,6,7,8,9,10,11].map ((eI .i64).c true)),.els 1 (y4.map ((eI .i64).c true)),.cells [(.sl 5 0 1 12 (some 12) 12),(.sl 1 0 1 12 (some 12) 12),(.sl 6 0 1 (Int.toNat 4096) (some (Int.toNat 4096)) (Int.toNat 4096))],.cells [(fzE false (eI .i64) r6.vars),(fzE false (eI .i64) r6.cards),(fzE false (eI .i64) r6.w)],.cells [(fzE false (eI .i64) r8.vars),(fzE false (eI .i64) r8.cards),(fzE false (eI .i64) r8.w)],.cells [(fzE false (eI .i64) r10.vars),(fzE false (eI .i64) r10.cards),(fzE false (eI .i64) r10.w)]]⟩) (zbl.m0 [.k,.k,.k,.k,.k,.k,.k,.k,.k,.k,.k,.f,.f,.f] rfl (msq (msq (msq (msq (msq (msq (msq (msq (mf rfl (zal (e:=(eI .i64)) (t:=true) rfl rfl (.inl rfl) rfl rfl (fun k h=>by cases h; exact qaf _) (fun h=>by cases h<;>rfl)) (mf rfl (zal (e:=(eI .i64)) (t:=true) rfl rfl (.inl rfl) rfl rfl (fun k h=>by cases h; exact qaf _) (fun h=>by cases h<;>rfl)) (mf rfl (zal (e:=(eI .i64)) (t:=true) rfl rfl (.inl rfl) rfl rfl (fun k h=>by cases h; exact qaf _) (fun h=>by cases h<;>rfl)) trivial))))))))))) ⟨MB.es (eI .i64) true [8,8,8,8],⟨MB.es (eI .i64) true [2,2,2,2,2,2,2,2,2,2,2,2],⟨MB.es (eI .i64) true [0,1,2,3],⟨MB.es (eI .i64) true y4,⟨MB.cs ⟨rfl,rfl,rfl,qcb⟩,⟨MB.es (eI .i64) true [0,1,2,3,4,5,6,7,8,9,10,11],⟨MB.es (eI .i64) true y4,⟨MB.cs ⟨rfl,rfl,rfl,qcb⟩,⟨MB.cs ⟨qcb,qcb,qcb,qcb⟩,⟨MB.cs ⟨qcb,qcb,qcb,qcb⟩,⟨MB.cs ⟨qcb,qcb,qcb,qcb⟩,qcb⟩⟩⟩⟩⟩⟩⟩⟩⟩⟩⟩) (zac ?_);obtain⟨r46,g47,j1⟩:=bind_some j1;try simp only[rnA]
  refine EvL.fnS (zas g47) rfl rfl (.cons (zad _ _ (fun h=>h.elim (fun h=>nomatch h) (fun h=>nomatch h))) (.cons (zad _ _ (fun h=>h.elim (fun h=>nomatch h) (fun h=>nomatch h))) (.cons (zad _ _ (fun h=>h.elim (fun h=>nomatch h) (fun h=>nomatch h))) .nil))) ⟨(zab _ _),(zab _ _),(zab _ _),qcb⟩ ⟨(zab _ _),(zab _ _),(zab _ _),qcb⟩ ?_;obtain⟨r48,g49,j1⟩:=bind_some j1;try simp only[rnA,Nat.reduceLT]
  refine EvL.fn (zaz g49) rfl rfl (.cons (.zaG (.cons (zaa _ _ (fun h=>nomatch h)) (.cons (zaa _ _ (fun h=>nomatch h)) (.cons (zaa _ _ (fun h=>nomatch h)) .nil)))) .nil) ?_;try simp only[rnA,Nat.reduceEqDiff,Nat.reduceLT]
  cases c50:(r48 == 30)
  ·rw[c50,cond_false]at j1;try simp only[rnA,Nat.reduceEqDiff,Nat.reduceLT]
   refine EvL.dead 5 12 [99] ⟨rfl,qcb⟩ rfl ?_;try simp only[rnA]
   replace j1:=qab j1; subst j1;exact lfj hT1 rfl (wm0 [.k,.k,.k,.k,.k,.k,.k,.k,.k,.k,.k] ⟨MB.es (eI .i64) true [8,8,8,8],⟨MB.es (eI .i64) true [2,2,2,2,2,2,2,2,2,2,2,2],⟨MB.es (eI .i64) true [0,1,2,3],⟨MB.es (eI .i64) true y4,⟨MB.cs ⟨rfl,rfl,rfl,qcb⟩,⟨MB.es (eI .i64) true [0,1,2,3,4,5,6,7,8,9,10,11],⟨MB.es (eI .i64) true y4,⟨MB.cs ⟨rfl,rfl,rfl,qcb⟩,⟨MB.cs ⟨qcb,qcb,qcb,qcb⟩,⟨MB.cs ⟨qcb,qcb,qcb,qcb⟩,⟨MB.cs ⟨qcb,qcb,qcb,qcb⟩,qcb⟩⟩⟩⟩⟩⟩⟩⟩⟩⟩⟩)
  rw[c50,cond_true]at j1;try simp only[rnA,Nat.reduceEqDiff,Nat.reduceLT,Nat.reduceAdd]
  refine EvL.zcY (S':=⟨313,[(3,(.ptr 4 0)),(4,(.ptr 7 0)),(5,(.ptr 8 0)),(6,(.ptr 9 0)),(7,(.ptr 10 0)),(9,(dI r12.2)),(11,(dI r14.2)),(99,(dB true)),(100,(fzE true (eI .i64) [1])),(101,(fzE true (eI .i64) [0]))],[.els 1 ([8,8,8,8].map ((eI .i64).c true)),.els 1 ([2,2,2,2,2,2,2,2,2,2,2,2].map ((eI .i64).c true)),.els 1 ([0,1,2,3].map ((eI .i64).c true)),.els 1 (y4.map ((eI .i64).c true)),.cells [(.sl 2 0 1 4 (some 4) 4),(.sl 0 0 1 4 (some 4) 4),(.sl 3 0 1 (Int.toNat 4096) (some (Int.toNat 4096)) (Int.toNat 4096))],.els 1 ([0,1,2,3,4,5,6,7,8,9,10,11].map ((eI .i64).c true)),.els 1 (y4.map ((eI .i64).c true)),.cells [(.sl 5 0 1 12 (some 12) 12),(.sl 1 0 1 12 (some 12) 12),(.sl 6 0 1 (Int.toNat 4096) (some (Int.toNat 4096)) (Int.toNat 4096))],.cells [(fzE false (eI .i64) r6.vars),(fzE false (eI .i64) r6.cards),(fzE false (eI .i64) r6.w)],.cells [(fzE false (eI .i64) r8.vars),(fzE false (eI .i64) r8.cards),(fzE false (eI .i64) r8.w)],.cells [(fzE false (eI .i64) r10.vars),(fzE false (eI .i64) r10.cards),(fzE false (eI .i64) r10.w)]]⟩) (zbl.m0 [.k,.k,.k,.k,.k,.k,.k,.k,.k,.k,.k,.f,.f] rfl (msq (msq (msq (msq (msq (msq (msq (msq (mf rfl (zal (e:=(eI .i64)) (t:=true) rfl rfl (.inl rfl) rfl rfl (fun k h=>by cases h; exact qaf _) (fun h=>by cases h<;>rfl)) (mf rfl (zal (e:=(eI .i64)) (t:=true) rfl rfl (.inl rfl) rfl rfl (fun k h=>by cases h; exact qaf _) (fun h=>by cases h<;>rfl)) trivial)))))))))) ⟨MB.es (eI .i64) true [8,8,8,8],⟨MB.es (eI .i64) true [2,2,2,2,2,2,2,2,2,2,2,2],⟨MB.es (eI .i64) true [0,1,2,3],⟨MB.es (eI .i64) true y4,⟨MB.cs ⟨rfl,rfl,rfl,qcb⟩,⟨MB.es (eI .i64) true [0,1,2,3,4,5,6,7,8,9,10,11],⟨MB.es (eI .i64) true y4,⟨MB.cs ⟨rfl,rfl,rfl,qcb⟩,⟨MB.cs ⟨qcb,qcb,qcb,qcb⟩,⟨MB.cs ⟨qcb,qcb,qcb,qcb⟩,⟨MB.cs ⟨qcb,qcb,qcb,qcb⟩,qcb⟩⟩⟩⟩⟩⟩⟩⟩⟩⟩⟩) (zac ?_);obtain⟨r51,g52,j1⟩:=bind_some j1;try simp only[rnA]
  refine EvL.fnS (zas g52) rfl rfl (.cons (zad _ _ (fun h=>h.elim (fun h=>nomatch h) (fun h=>nomatch h))) (.cons (zad _ _ (fun h=>h.elim (fun h=>nomatch h) (fun h=>nomatch h))) (.cons (zbx (eI .i64)) .nil))) ⟨(zab _ _),(zab _ _),(zab _ _),qcb⟩ ⟨(zab _ _),(zab _ _),(zab _ _),qcb⟩ ?_;obtain⟨r53,g54,j1⟩:=bind_some j1;try simp only[rnA,Nat.reduceLT]
  refine EvL.fn (zaz g54) rfl rfl (.cons (.zaG (.cons (zaa _ _ (fun h=>nomatch h)) (.cons (zaa _ _ (fun h=>nomatch h)) (.cons (zaa _ _ (fun h=>nomatch h)) .nil)))) .nil) ?_;try simp only[rnA,Nat.reduceEqDiff,Nat.reduceLT]
  replace j1:=qab j1; subst j1;exact lfj hT1 rfl (wm0 [.k,.k,.k,.k,.k,.k,.k,.k,.k,.k,.k] ⟨MB.es (eI .i64) true [8,8,8,8],⟨MB.es (eI .i64) true [2,2,2,2,2,2,2,2,2,2,2,2],⟨MB.es (eI .i64) true [0,1,2,3],⟨MB.es (eI .i64) true y4,⟨MB.cs ⟨rfl,rfl,rfl,qcb⟩,⟨MB.es (eI .i64) true [0,1,2,3,4,5,6,7,8,9,10,11],⟨MB.es (eI .i64) true y4,⟨MB.cs ⟨rfl,rfl,rfl,qcb⟩,⟨MB.cs ⟨qcb,qcb,qcb,qcb⟩,⟨MB.cs ⟨qcb,qcb,qcb,qcb⟩,⟨MB.cs ⟨qcb,qcb,qcb,qcb⟩,qcb⟩⟩⟩⟩⟩⟩⟩⟩⟩⟩⟩)
 rintro v12 rfl;rw[congrFun hT1 v12];refine zac ?_;try simp only[rnA]
 obtain⟨o2,j2,h⟩:=bind_some h;obtain⟨T2,hT2⟩:=mkT fun a:Bool=>⟨313,[(5,(.ptr 8 0)),(6,(.ptr 9 0)),(7,(.ptr 10 0)),(12,(dB a))],[.gone,.gone,.gone,.gone,.gone,.gone,.gone,.gone,.cells [(fzE false (eI .i64) r6.vars),(fzE false (eI .i64) r6.cards),(fzE false (eI .i64) r6.w)],.cells [(fzE false (eI .i64) r8.vars),(fzE false (eI .i64) r8.cards),(fzE false (eI .i64) r8.w)],.cells [(fzE false (eI .i64) r10.vars),(fzE false (eI .i64) r10.cards),(fzE false (eI .i64) r10.w)]]⟩
 refine EvL.jn T2 (fun a=>a=o2) ?_ ?_
 ·refine zac ?_;try simp only[rnA,Nat.reduceEqDiff,Nat.reduceLT]
  cases c55:v12
  ·rw[c55,cond_false]at j2;try simp only[rnA,Nat.reduceLT]
   refine EvL.dead 86 194 [107] ⟨rfl,qcb⟩ rfl ?_;try simp only[rnA,Nat.reduceEqDiff,Nat.reduceLT]
   replace j2:=qab j2; subst j2;exact lfj hT2 rfl (wm0 [.d,.d,.d,.d,.d,.d,.d,.d,.k,.k,.k] ⟨rfl,⟨rfl,⟨rfl,⟨rfl,⟨rfl,⟨rfl,⟨rfl,⟨rfl,⟨MB.cs ⟨qcb,qcb,qcb,qcb⟩,⟨MB.cs ⟨qcb,qcb,qcb,qcb⟩,⟨MB.cs ⟨qcb,qcb,qcb,qcb⟩,qcb⟩⟩⟩⟩⟩⟩⟩⟩⟩⟩⟩)
  rw[c55,cond_true]at j2;obtain⟨r56,g57,j2⟩:=bind_some j2;try simp only[rnA,Nat.reduceEqDiff,Nat.reduceLT,Nat.reduceAdd,Nat.reduceLeDiff]
  refine EvL.fnS (zat g57) rfl rfl (.cons (.lit _) .nil) ⟨qcb,qcb⟩ ⟨qcb,⟨⟨rfl,(eI .i64).fr _⟩,qcb⟩⟩ ?_;try simp only[rnA,Nat.reduceEqDiff,Nat.reduceLT,Nat.reduceAdd]
  refine EvL.zcY (S':=⟨313,[(3,(.ptr 4 0)),(4,(.ptr 7 0)),(5,(.ptr 8 0)),(6,(.ptr 9 0)),(7,(.ptr 10 0)),(9,(dI r12.2)),(11,(dI r14.2)),(107,(dB true)),(108,(.clo 80 [] [(.fptr false ((eI .i64).c false r56))])),(109,(.agg [(.sl 2 0 1 4 (some 4) 4),(.sl 0 0 1 4 (some 4) 4),(.sl 3 0 1 (Int.toNat 4096) (some (Int.toNat 4096)) (Int.toNat 4096))])),(110,(fzE true (eI .i64) [4])),(111,(fzE true (eI .i64) [2])),(112,(fzE true (eI .i64) [1,1]))],[.els 1 ([8,8,8,8].map ((eI .i64).c true)),.els 1 ([2,2,2,2,2,2,2,2,2,2,2,2].map ((eI .i64).c true)),.els 1 ([0,1,2,3].map ((eI .i64).c true)),.els 1 (y4.map ((eI .i64).c true)),.cells [(.sl 2 0 1 4 (some 4) 4),(.sl 0 0 1 4 (some 4) 4),(.sl 3 0 1 (Int.toNat 4096) (some (Int.toNat 4096)) (Int.toNat 4096))],.els 1 ([0,1,2,3,4,5,6,7,8,9,10,11].map ((eI .i64).c true)),.els 1 (y4.map ((eI .i64).c true)),.cells [(.sl 5 0 1 12 (some 12) 12),(.sl 1 0 1 12 (some 12) 12),(.sl 6 0 1 (Int.toNat 4096) (some (Int.toNat 4096)) (Int.toNat 4096))],.cells [(fzE false (eI .i64) r6.vars),(fzE false (eI .i64) r6.cards),(fzE false (eI .i64) r6.w)],.cells [(fzE false (eI .i64) r8.vars),(fzE false (eI .i64) r8.cards),(fzE false (eI .i64) r8.w)],.cells [(fzE false (eI .i64) r10.vars),(fzE false (eI .i64) r10.cards),(fzE false (eI .i64) r10.w)]]⟩) (zbl.m0 [.k,.k,.k,.k,.k,.k,.k,.k,.k,.k,.k,.f,.f,.f] rfl (msq (msq (msq (msq (msq (msq (msq (msq (ms rfl ⟨qcb,⟨qcb,qcb⟩⟩ (ms rfl ⟨rfl,rfl,rfl,qcb⟩ (mf rfl (zal (e:=(eI .i64)) (t:=true) rfl rfl (.inl rfl) rfl rfl (fun k h=>by cases h; exact qaf _) (fun h=>by cases h<;>rfl)) (mf rfl (zal (e:=(eI .i64)) (t:=true) rfl rfl (.inl rfl) rfl rfl (fun k h=>by cases h; exact qaf _) (fun h=>by cases h<;>rfl)) (mf rfl (zal (e:=(eI .i64)) (t:=true) rfl rfl (.inl rfl) rfl rfl (fun k h=>by cases h; exact qaf _) (fun h=>by cases h<;>rfl)) trivial))))))))))))) ⟨MB.es (eI .i64) true [8,8,8,8],⟨MB.es (eI .i64) true [2,2,2,2,2,2,2,2,2,2,2,2],⟨MB.es (eI .i64) true [0,1,2,3],⟨MB.es (eI .i64) true y4,⟨MB.cs ⟨rfl,rfl,rfl,qcb⟩,⟨MB.es (eI .i64) true [0,1,2,3,4,5,6,7,8,9,10,11],⟨MB.es (eI .i64) true y4,⟨MB.cs ⟨rfl,rfl,rfl,qcb⟩,⟨MB.cs ⟨qcb,qcb,qcb,qcb⟩,⟨MB.cs ⟨qcb,qcb,qcb,qcb⟩,⟨MB.cs ⟨qcb,qcb,qcb,qcb⟩,qcb⟩⟩⟩⟩⟩⟩⟩⟩⟩⟩⟩) (zac ?_);obtain⟨r58,g59,j2⟩:=bind_some j2;try simp only[rnA]
  refine EvL.fnS (zas g59) rfl rfl (.cons (zad _ _ (fun h=>h.elim (fun h=>nomatch h) (fun h=>nomatch h))) (.cons (zad _ _ (fun h=>h.elim (fun h=>nomatch h) (fun h=>nomatch h))) (.cons (zad _ _ (fun h=>h.elim (fun h=>nomatch h) (fun h=>nomatch h))) .nil))) ⟨(zab _ _),(zab _ _),(zab _ _),qcb⟩ ⟨(zab _ _),(zab _ _),(zab _ _),qcb⟩ ?_;obtain⟨r60,g61,j2⟩:=bind_some j2;try simp only[rnA,Nat.reduceLT]
  refine EvL.fn (zbu g61) rfl rfl (.cons (.zaG (.cons (zbh (e:=(eI .i64)) (t:=true) rfl (.inl rfl) rfl rfl (fun k h=>by cases h; exact qaf _) (fun h=>nomatch h)) (.cons (zbh (e:=(eI .i64)) (t:=true) rfl (.inl rfl) rfl rfl (fun k h=>by cases h; exact qaf _) (fun h=>nomatch h)) (.cons (zbh (e:=(eI .i64)) (t:=true) rfl (.inl rfl) (zaC g5).symm (zaC g5).symm (fun k h=>by cases h; exact qaf _) (fun h=>nomatch h)) .nil)))) (.cons (.zaG (.cons (zaa _ _ (fun h=>nomatch h)) (.cons (zaa _ _ (fun h=>nomatch h)) (.cons (zaa _ _ (fun h=>nomatch h)) .nil)))) .nil)) ?_;obtain⟨r62,g63,j2⟩:=bind_some j2;try simp only[rnA,Nat.reduceEqDiff,Nat.reduceLT]
  refine EvL.fnv rfl rfl (zan g63) rfl (.cons (.zaG (.cons (zaa _ _ (fun h=>nomatch h)) (.cons (zaa _ _ (fun h=>nomatch h)) (.cons (zaa _ _ (fun h=>nomatch h)) .nil)))) (.cons (.lit _) (.cons (.fptr (fun h=>nomatch h) rfl ((eI .i64).snp (t:=false) (t':=false) r56 (fun h=>nomatch h)).get) .nil))) ?_;try simp only[rnA,Nat.reduceEqDiff,Nat.reduceLT]
  cases c64:r62
  ·rw[c64,cond_false]at j2;try simp only[rnA,Nat.reduceEqDiff,Nat.reduceLT]
   refine EvL.dead 74 12 [119] ⟨rfl,qcb⟩ rfl ?_;try simp only[rnA]
   replace j2:=qab j2; subst j2;exact lfj hT2 rfl (wm0 [.d,.d,.d,.d,.d,.d,.d,.d,.k,.k,.k] ⟨rfl,⟨rfl,⟨rfl,⟨rfl,⟨rfl,⟨rfl,⟨rfl,⟨rfl,⟨MB.cs ⟨qcb,qcb,qcb,qcb⟩,⟨MB.cs ⟨qcb,qcb,qcb,qcb⟩,⟨MB.cs ⟨qcb,qcb,qcb,qcb⟩,qcb⟩⟩⟩⟩⟩⟩⟩⟩⟩⟩⟩)
  rw[c64,cond_true]at j2;try simp only[rnA,Nat.reduceEqDiff,Nat.reduceLT,Nat.reduceAdd,Nat.reduceLeDiff]
  refine EvL.zcY (S':=⟨313,[(4,(.ptr 7 0)),(5,(.ptr 8 0)),(6,(.ptr 9 0)),(7,(.ptr 10 0)),(9,(dI r12.2)),(11,(dI r14.2)),(119,(dB true)),(120,(.agg [(fzE true (eI .i64) [0,1,2,3]),(fzE true (eI .i64) [8,8,8,8]),(fzE true (eI .i64) y4)])),(122,(.agg [(fzE true (eI .i64) [0,1,2,3]),(fzE true (eI .i64) [8,8,8,8]),(fzE true (eI .i64) y4)]))],[.gone,.els 1 ([2,2,2,2,2,2,2,2,2,2,2,2].map ((eI .i64).c true)),.gone,.gone,.gone,.els 1 ([0,1,2,3,4,5,6,7,8,9,10,11].map ((eI .i64).c true)),.els 1 (y4.map ((eI .i64).c true)),.cells [(.sl 5 0 1 12 (some 12) 12),(.sl 1 0 1 12 (some 12) 12),(.sl 6 0 1 (Int.toNat 4096) (some (Int.toNat 4096)) (Int.toNat 4096))],.cells [(fzE false (eI .i64) r6.vars),(fzE false (eI .i64) r6.cards),(fzE false (eI .i64) r6.w)],.cells [(fzE false (eI .i64) r8.vars),(fzE false (eI .i64) r8.cards),(fzE false (eI .i64) r8.w)],.cells [(fzE false (eI .i64) r10.vars),(fzE false (eI .i64) r10.cards),(fzE false (eI .i64) r10.w)]]⟩) (zbl.m0 [.f,.k,.f,.f,.d,.k,.k,.k,.k,.k,.k] rfl (msq (msq (msq (msq (msq (msq (msq (mx rfl (Mo.zaG (.cons (.fr (zal (e:=(eI .i64)) (t:=true) rfl rfl (.inl rfl) rfl rfl (fun k h=>by cases h; exact qaf _) (fun h=>by cases h<;>rfl))) (.cons (.fr (zal (e:=(eI .i64)) (t:=true) rfl rfl (.inl rfl) rfl rfl (fun k h=>by cases h; exact qaf _) (fun h=>by cases h<;>rfl))) (.cons (.fr (zal (e:=(eI .i64)) (t:=true) rfl rfl (.inl rfl) (zaC g5).symm (zaC g5).symm (fun k h=>by cases h; exact qaf _) (fun h=>by cases h<;>rfl))) .nil)))) (mx rfl (Mo.zaG (.cons (.fr (zal (e:=(eI .i64)) (t:=true) rfl rfl (.inl rfl) rfl rfl (fun k h=>by cases h; exact qaf _) (fun h=>by cases h<;>rfl))) (.cons (.fr (zal (e:=(eI .i64)) (t:=true) rfl rfl (.inl rfl) rfl rfl (fun k h=>by cases h; exact qaf _) (fun h=>by cases h<;>rfl))) (.cons (.fr (zal (e:=(eI .i64)) (t:=true) rfl rfl (.inl rfl) (zaC g5).symm (zaC g5).symm (fun k h=>by cases h; exact qaf _) (fun h=>by cases h<;>rfl))) .nil)))) trivial))))))))) ⟨rfl,⟨MB.es (eI .i64) true [2,2,2,2,2,2,2,2,2,2,2,2],⟨rfl,⟨rfl,⟨rfl,⟨MB.es (eI .i64) true [0,1,2,3,4,5,6,7,8,9,10,11],⟨MB.es (eI .i64) true y4,⟨MB.cs ⟨rfl,rfl,rfl,qcb⟩,⟨MB.cs ⟨qcb,qcb,qcb,qcb⟩,⟨MB.cs ⟨qcb,qcb,qcb,qcb⟩,⟨MB.cs ⟨qcb,qcb,qcb,qcb⟩,qcb⟩⟩⟩⟩⟩⟩⟩⟩⟩⟩⟩) (zac ?_);obtain⟨r65,g66,j2⟩:=bind_some j2;try simp only[rnA]
  refine EvL.fnS (zbF g66) rfl rfl (.cons (Mzs.agg (.cons (zad _ _ (fun h=>h.elim (fun h=>nomatch h) (fun h=>nomatch h))) (.cons (zad _ _ (fun h=>h.elim (fun h=>nomatch h) (fun h=>nomatch h))) (.cons (zad _ _ (fun h=>h.elim (fun h=>nomatch h) (fun h=>nomatch h))) .nil)))) .nil) ⟨⟨(zab _ _),(zab _ _),(zab _ _),qcb⟩,qcb⟩ ⟨qcb,⟨⟨rfl,zah.fr _⟩,qcb⟩⟩ ?_;try simp only[rnA,Nat.reduceEqDiff,Nat.reduceLT,Nat.reduceAdd,zae]
  refine EvL.zcY (S':=⟨313,[(4,(.ptr 7 0)),(5,(.ptr 8 0)),(6,(.ptr 9 0)),(7,(.ptr 10 0)),(9,(dI r12.2)),(11,(dI r14.2)),(119,(dB true)),(121,(.clo 87 [] [(.fptr false (zah.c false r65))])),(122,(.agg [(fzE true (eI .i64) [0,1,2,3]),(fzE true (eI .i64) [8,8,8,8]),(fzE true (eI .i64) y4)])),(123,(fzE true (eI .i64) [4611686018427387903]))],[.gone,.els 1 ([2,2,2,2,2,2,2,2,2,2,2,2].map ((eI .i64).c true)),.gone,.gone,.gone,.els 1 ([0,1,2,3,4,5,6,7,8,9,10,11].map ((eI .i64).c true)),.els 1 (y4.map ((eI .i64).c true)),.cells [(.sl 5 0 1 12 (some 12) 12),(.sl 1 0 1 12 (some 12) 12),(.sl 6 0 1 (Int.toNat 4096) (some (Int.toNat 4096)) (Int.toNat 4096))],.cells [(fzE false (eI .i64) r6.vars),(fzE false (eI .i64) r6.cards),(fzE false (eI .i64) r6.w)],.cells [(fzE false (eI .i64) r8.vars),(fzE false (eI .i64) r8.cards),(fzE false (eI .i64) r8.w)],.cells [(fzE false (eI .i64) r10.vars),(fzE false (eI .i64) r10.cards),(fzE false (eI .i64) r10.w)]]⟩) (zbl.m0 [.d,.k,.d,.d,.d,.k,.k,.k,.k,.k,.k,.f] rfl (msq (msq (msq (msq (msq (msq (msq (ms rfl ⟨qcb,⟨qcb,qcb⟩⟩ (ms rfl ⟨qcb,qcb,qcb,qcb⟩ (mf rfl (zal (e:=(eI .i64)) (t:=true) rfl rfl (.inl rfl) rfl rfl (fun k h=>by cases h; exact qaf _) (fun h=>by cases h<;>rfl)) trivial)))))))))) ⟨rfl,⟨MB.es (eI .i64) true [2,2,2,2,2,2,2,2,2,2,2,2],⟨rfl,⟨rfl,⟨rfl,⟨MB.es (eI .i64) true [0,1,2,3,4,5,6,7,8,9,10,11],⟨MB.es (eI .i64) true y4,⟨MB.cs ⟨rfl,rfl,rfl,qcb⟩,⟨MB.cs ⟨qcb,qcb,qcb,qcb⟩,⟨MB.cs ⟨qcb,qcb,qcb,qcb⟩,⟨MB.cs ⟨qcb,qcb,qcb,qcb⟩,qcb⟩⟩⟩⟩⟩⟩⟩⟩⟩⟩⟩) (zac ?_);obtain⟨r67,g68,j2⟩:=bind_some j2;try simp only[rnA,zae]
  refine EvL.fnS (zas g68) rfl rfl (.cons (zbx (eI .i64)) (.cons (zbx (eI .i64)) (.cons (zad _ _ (fun h=>h.elim (fun h=>nomatch h) (fun h=>nomatch h))) .nil))) ⟨(zab _ _),(zab _ _),(zab _ _),qcb⟩ ⟨(zab _ _),(zab _ _),(zab _ _),qcb⟩ ?_;obtain⟨r69,g70,j2⟩:=bind_some j2;try simp only[rnA,Nat.reduceLT]
  refine EvL.fn (zbu g70) rfl rfl (.cons (.zaG (.cons (zaa _ _ (fun h=>nomatch h)) (.cons (zaa _ _ (fun h=>nomatch h)) (.cons (zaa _ _ (fun h=>nomatch h)) .nil)))) (.cons (.zaG (.cons (zaa _ _ (fun h=>nomatch h)) (.cons (zaa _ _ (fun h=>nomatch h)) (.cons (zaa _ _ (fun h=>nomatch h)) .nil)))) .nil)) ?_;obtain⟨r71,g72,j2⟩:=bind_some j2;try simp only[rnA,Nat.reduceEqDiff,Nat.reduceLT]
  refine EvL.fnv rfl rfl (za5 g72) rfl (.cons (.zaG (.cons (zaa _ _ (fun h=>nomatch h)) (.cons (zaa _ _ (fun h=>nomatch h)) (.cons (zaa _ _ (fun h=>nomatch h)) .nil)))) (.cons (.lit _) (.cons (.fptr (fun h=>nomatch h) rfl (zah.snp (t:=false) (t':=false) r65 (fun h=>nomatch h)).get) .nil))) ?_;try simp only[rnA,Nat.reduceEqDiff,Nat.reduceLT]
  cases c73:r71
  ·rw[c73,cond_false]at j2;try simp only[rnA,Nat.reduceLT]
   refine EvL.dead 64 12 [130] ⟨rfl,qcb⟩ rfl ?_;try simp only[rnA]
   replace j2:=qab j2; subst j2;exact lfj hT2 rfl (wm0 [.d,.d,.d,.d,.d,.d,.d,.d,.k,.k,.k] ⟨rfl,⟨rfl,⟨rfl,⟨rfl,⟨rfl,⟨rfl,⟨rfl,⟨rfl,⟨MB.cs ⟨qcb,qcb,qcb,qcb⟩,⟨MB.cs ⟨qcb,qcb,qcb,qcb⟩,⟨MB.cs ⟨qcb,qcb,qcb,qcb⟩,qcb⟩⟩⟩⟩⟩⟩⟩⟩⟩⟩⟩)
  rw[c73,cond_true]at j2;obtain⟨r74,g75,j2⟩:=bind_some j2;try simp only[rnA,Nat.reduceEqDiff,Nat.reduceLT,Nat.reduceAdd,Nat.reduceLeDiff]
  refine EvL.fnS (zat g75) rfl rfl (.cons (.lit _) .nil) ⟨qcb,qcb⟩ ⟨qcb,⟨⟨rfl,(eI .i64).fr _⟩,qcb⟩⟩ ?_;try simp only[rnA,Nat.reduceEqDiff,Nat.reduceLT,Nat.reduceAdd]
  refine EvL.zcY (S':=⟨313,[(5,(.ptr 8 0)),(6,(.ptr 9 0)),(7,(.ptr 10 0)),(9,(dI r12.2)),(11,(dI r14.2)),(130,(dB true)),(131,(.clo 80 [] [(.fptr false ((eI .i64).c false r74))])),(132,(.agg [(.sl 5 0 1 12 (some 12) 12),(.sl 1 0 1 12 (some 12) 12),(.sl 6 0 1 (Int.toNat 4096) (some (Int.toNat 4096)) (Int.toNat 4096))])),(133,(fzE true (eI .i64) [12])),(134,(fzE true (eI .i64) [1])),(135,(fzE true (eI .i64) [1]))],[.gone,.els 1 ([2,2,2,2,2,2,2,2,2,2,2,2].map ((eI .i64).c true)),.gone,.gone,.gone,.els 1 ([0,1,2,3,4,5,6,7,8,9,10,11].map ((eI .i64).c true)),.els 1 (y4.map ((eI .i64).c true)),.gone,.cells [(fzE false (eI .i64) r6.vars),(fzE false (eI .i64) r6.cards),(fzE false (eI .i64) r6.w)],.cells [(fzE false (eI .i64) r8.vars),(fzE false (eI .i64) r8.cards),(fzE false (eI .i64) r8.w)],.cells [(fzE false (eI .i64) r10.vars),(fzE false (eI .i64) r10.cards),(fzE false (eI .i64) r10.w)]]⟩) (zbl.m0 [.d,.k,.d,.d,.d,.k,.k,.d,.k,.k,.k,.f,.f,.f] rfl (msq (msq (msq (msq (msq (msq (ms rfl ⟨qcb,⟨qcb,qcb⟩⟩ (ms rfl ⟨rfl,rfl,rfl,qcb⟩ (mf rfl (zal (e:=(eI .i64)) (t:=true) rfl rfl (.inl rfl) rfl rfl (fun k h=>by cases h; exact qaf _) (fun h=>by cases h<;>rfl)) (mf rfl (zal (e:=(eI .i64)) (t:=true) rfl rfl (.inl rfl) rfl rfl (fun k h=>by cases h; exact qaf _) (fun h=>by cases h<;>rfl)) (mf rfl (zal (e:=(eI .i64)) (t:=true) rfl rfl (.inl rfl) rfl rfl (fun k h=>by cases h; exact qaf _) (fun h=>by cases h<;>rfl)) trivial))))))))))) ⟨rfl,⟨MB.es (eI .i64) true [2,2,2,2,2,2,2,2,2,2,2,2],⟨rfl,⟨rfl,⟨rfl,⟨MB.es (eI .i64) true [0,1,2,3,4,5,6,7,8,9,10,11],⟨MB.es (eI .i64) true y4,⟨rfl,⟨MB.cs ⟨qcb,qcb,qcb,qcb⟩,⟨MB.cs ⟨qcb,qcb,qcb,qcb⟩,⟨MB.cs ⟨qcb,qcb,qcb,qcb⟩,qcb⟩⟩⟩⟩⟩⟩⟩⟩⟩⟩⟩) (zac ?_);obtain⟨r76,g77,j2⟩:=bind_some j2;try simp only[rnA]
  refine EvL.fnS (zas g77) rfl rfl (.cons (zad _ _ (fun h=>h.elim (fun h=>nomatch h) (fun h=>nomatch h))) (.cons (zad _ _ (fun h=>h.elim (fun h=>nomatch h) (fun h=>nomatch h))) (.cons (zad _ _ (fun h=>h.elim (fun h=>nomatch h) (fun h=>nomatch h))) .nil))) ⟨(zab _ _),(zab _ _),(zab _ _),qcb⟩ ⟨(zab _ _),(zab _ _),(zab _ _),qcb⟩ ?_;obtain⟨r78,g79,j2⟩:=bind_some j2;try simp only[rnA,Nat.reduceLT]
  refine EvL.fn (zbu g79) rfl rfl (.cons (.zaG (.cons (zbh (e:=(eI .i64)) (t:=true) rfl (.inl rfl) rfl rfl (fun k h=>by cases h; exact qaf _) (fun h=>nomatch h)) (.cons (zbh (e:=(eI .i64)) (t:=true) rfl (.inl rfl) rfl rfl (fun k h=>by cases h; exact qaf _) (fun h=>nomatch h)) (.cons (zbh (e:=(eI .i64)) (t:=true) rfl (.inl rfl) (zaC g5).symm (zaC g5).symm (fun k h=>by cases h; exact qaf _) (fun h=>nomatch h)) .nil)))) (.cons (.zaG (.cons (zaa _ _ (fun h=>nomatch h)) (.cons (zaa _ _ (fun h=>nomatch h)) (.cons (zaa _ _ (fun h=>nomatch h)) .nil)))) .nil)) ?_;obtain⟨r80,g81,j2⟩:=bind_some j2;try simp only[rnA,Nat.reduceEqDiff,Nat.reduceLT]
  refine EvL.fnv rfl rfl (zan g81) rfl (.cons (.zaG (.cons (zaa _ _ (fun h=>nomatch h)) (.cons (zaa _ _ (fun h=>nomatch h)) (.cons (zaa _ _ (fun h=>nomatch h)) .nil)))) (.cons (.lit _) (.cons (.fptr (fun h=>nomatch h) rfl ((eI .i64).snp (t:=false) (t':=false) r74 (fun h=>nomatch h)).get) .nil))) ?_;try simp only[rnA,Nat.reduceEqDiff,Nat.reduceLT]
  cases c82:r80
  ·rw[c82,cond_false]at j2;try simp only[rnA,Nat.reduceEqDiff,Nat.reduceLT]
   refine EvL.dead 51 12 [142] ⟨rfl,qcb⟩ rfl ?_;try simp only[rnA]
   replace j2:=qab j2; subst j2;exact lfj hT2 rfl (wm0 [.d,.d,.d,.d,.d,.d,.d,.d,.k,.k,.k] ⟨rfl,⟨rfl,⟨rfl,⟨rfl,⟨rfl,⟨rfl,⟨rfl,⟨rfl,⟨MB.cs ⟨qcb,qcb,qcb,qcb⟩,⟨MB.cs ⟨qcb,qcb,qcb,qcb⟩,⟨MB.cs ⟨qcb,qcb,qcb,qcb⟩,qcb⟩⟩⟩⟩⟩⟩⟩⟩⟩⟩⟩)
  rw[c82,cond_true]at j2;obtain⟨r83,g84,j2⟩:=bind_some j2;try simp only[rnA,Nat.reduceEqDiff,Nat.reduceLT,Nat.reduceAdd,Nat.reduceLeDiff]
  refine EvL.fnS (zat g84) rfl rfl (.cons (.lit _) .nil) ⟨qcb,qcb⟩ ⟨qcb,⟨⟨rfl,(eI .i64).fr _⟩,qcb⟩⟩ ?_;obtain⟨r85,g86,j2⟩:=bind_some j2;try simp only[rnA,Nat.reduceLT]
  refine EvL.fn (zbu g86) rfl rfl (.cons (.zaG (.cons (zaa _ _ (fun h=>nomatch h)) (.cons (zaa _ _ (fun h=>nomatch h)) (.cons (zaa _ _ (fun h=>nomatch h)) .nil)))) (.cons (.zaG (.cons (zaa _ _ (fun h=>nomatch h)) (.cons (zaa _ _ (fun h=>nomatch h)) (.cons (zaa _ _ (fun h=>nomatch h)) .nil)))) .nil)) ?_;obtain⟨r87,g88,j2⟩:=bind_some j2;try simp only[rnA,Nat.reduceEqDiff,Nat.reduceLT]
  refine EvL.fnv rfl rfl (zan g88) rfl (.cons (.zaG (.cons (zaa _ _ (fun h=>nomatch h)) (.cons (zaa _ _ (fun h=>nomatch h)) (.cons (zaa _ _ (fun h=>nomatch h)) .nil)))) (.cons (.lit _) (.cons (.fptr (fun h=>nomatch h) rfl ((eI .i64).snp (t:=false) (t':=false) r83 (fun h=>nomatch h)).get) .nil))) ?_;try simp only[rnA,Nat.reduceEqDiff,Nat.reduceLT]
  cases c89:r87
  ·rw[c89,cond_false]at j2;try simp only[rnA,Nat.reduceLT]
   refine EvL.dead 43 12 [151] ⟨rfl,qcb⟩ rfl ?_;try simp only[rnA]
   replace j2:=qab j2; subst j2;exact lfj hT2 rfl (wm0 [.d,.d,.d,.d,.d,.d,.d,.d,.k,.k,.k] ⟨rfl,⟨rfl,⟨rfl,⟨rfl,⟨rfl,⟨rfl,⟨rfl,⟨rfl,⟨MB.cs ⟨qcb,qcb,qcb,qcb⟩,⟨MB.cs ⟨qcb,qcb,qcb,qcb⟩,⟨MB.cs ⟨qcb,qcb,qcb,qcb⟩,qcb⟩⟩⟩⟩⟩⟩⟩⟩⟩⟩⟩)
  rw[c89,cond_true]at j2;obtain⟨r90,g91,j2⟩:=bind_some j2;try simp only[rnA,Nat.reduceEqDiff,Nat.reduceLT,Nat.reduceAdd,Nat.reduceLeDiff]
  refine EvL.fnS (zat g91) rfl rfl (.cons (.lit _) .nil) ⟨qcb,qcb⟩ ⟨qcb,⟨⟨rfl,(eI .i64).fr _⟩,qcb⟩⟩ ?_;try simp only[rnA,Nat.reduceEqDiff,Nat.reduceLT,Nat.reduceAdd]
  refine EvL.zcY (S':=⟨313,[(5,(.ptr 8 0)),(6,(.ptr 9 0)),(7,(.ptr 10 0)),(9,(dI r12.2)),(11,(dI r14.2)),(151,(dB true)),(152,(.clo 80 [] [(.fptr false ((eI .i64).c false r90))])),(153,(.agg [(fzE false (eI .i64) r8.vars),(fzE false (eI .i64) r8.cards),(fzE false (eI .i64) r8.w)])),(154,(fzE true (eI .i64) [2]))],[.gone,.gone,.gone,.gone,.gone,.gone,.gone,.gone,.cells [(fzE false (eI .i64) r6.vars),(fzE false (eI .i64) r6.cards),(fzE false (eI .i64) r6.w)],.cells [(fzE false (eI .i64) r8.vars),(fzE false (eI .i64) r8.cards),(fzE false (eI .i64) r8.w)],.cells [(fzE false (eI .i64) r10.vars),(fzE false (eI .i64) r10.cards),(fzE false (eI .i64) r10.w)]]⟩) (zbl.m0 [.d,.d,.d,.d,.d,.d,.d,.d,.k,.k,.k,.f] rfl (msq (msq (msq (msq (msq (msq (ms rfl ⟨qcb,⟨qcb,qcb⟩⟩ (ms rfl ⟨qcb,qcb,qcb,qcb⟩ (mf rfl (zal (e:=(eI .i64)) (t:=true) rfl rfl (.inl rfl) rfl rfl (fun k h=>by cases h; exact qaf _) (fun h=>by cases h<;>rfl)) trivial))))))))) ⟨rfl,⟨rfl,⟨rfl,⟨rfl,⟨rfl,⟨rfl,⟨rfl,⟨rfl,⟨MB.cs ⟨qcb,qcb,qcb,qcb⟩,⟨MB.cs ⟨qcb,qcb,qcb,qcb⟩,⟨MB.cs ⟨qcb,qcb,qcb,qcb⟩,qcb⟩⟩⟩⟩⟩⟩⟩⟩⟩⟩⟩) (zac ?_);obtain⟨r92,g93,j2⟩:=bind_some j2;try simp only[rnA]
  refine EvL.fnS (zas g93) rfl rfl (.cons (zbx (eI .i64)) (.cons (zbx (eI .i64)) (.cons (zad _ _ (fun h=>h.elim (fun h=>nomatch h) (fun h=>nomatch h))) .nil))) ⟨(zab _ _),(zab _ _),(zab _ _),qcb⟩ ⟨(zab _ _),(zab _ _),(zab _ _),qcb⟩ ?_;obtain⟨r94,g95,j2⟩:=bind_some j2;try simp only[rnA,Nat.reduceLT]
  refine EvL.fn (zbu g95) rfl rfl (.cons (.zaG (.cons (zaa _ _ (fun h=>nomatch h)) (.cons (zaa _ _ (fun h=>nomatch h)) (.cons (zaa _ _ (fun h=>nomatch h)) .nil)))) (.cons (.zaG (.cons (zaa _ _ (fun h=>nomatch h)) (.cons (zaa _ _ (fun h=>nomatch h)) (.cons (zaa _ _ (fun h=>nomatch h)) .nil)))) .nil)) ?_;obtain⟨r96,g97,j2⟩:=bind_some j2;try simp only[rnA,Nat.reduceEqDiff,Nat.reduceLT]
  refine EvL.fnv rfl rfl (zan g97) rfl (.cons (.zaG (.cons (zaa _ _ (fun h=>nomatch h)) (.cons (zaa _ _ (fun h=>nomatch h)) (.cons (zaa _ _ (fun h=>nomatch h)) .nil)))) (.cons (.lit _) (.cons (.fptr (fun h=>nomatch h) rfl ((eI .i64).snp (t:=false) (t':=false) r90 (fun h=>nomatch h)).get) .nil))) ?_;try simp only[rnA,Nat.reduceEqDiff,Nat.reduceLT]
  cases c98:r96
  ·rw[c98,cond_false]at j2;try simp only[rnA,Nat.reduceEqDiff,Nat.reduceLT]
   refine EvL.dead 25 12 [169] ⟨rfl,qcb⟩ rfl ?_;try simp only[rnA]
   replace j2:=qab j2; subst j2;exact lfj hT2 rfl (wm0 [.d,.d,.d,.d,.d,.d,.d,.d,.k,.k,.k] ⟨rfl,⟨rfl,⟨rfl,⟨rfl,⟨rfl,⟨rfl,⟨rfl,⟨rfl,⟨MB.cs ⟨qcb,qcb,qcb,qcb⟩,⟨MB.cs ⟨qcb,qcb,qcb,qcb⟩,⟨MB.cs ⟨qcb,qcb,qcb,qcb⟩,qcb⟩⟩⟩⟩⟩⟩⟩⟩⟩⟩⟩)
  rw[c98,cond_true]at j2;try simp only[rnA,Nat.reduceEqDiff,Nat.reduceLT]
  cases c99:(r12.2 == 6)
  ·rw[c99,cond_false]at j2;try simp only[rnA,Nat.reduceEqDiff,Nat.reduceLT]
   refine EvL.dead 25 12 [169] ⟨rfl,qcb⟩ rfl ?_;try simp only[rnA]
   replace j2:=qab j2; subst j2;exact lfj hT2 rfl (wm0 [.d,.d,.d,.d,.d,.d,.d,.d,.k,.k,.k] ⟨rfl,⟨rfl,⟨rfl,⟨rfl,⟨rfl,⟨rfl,⟨rfl,⟨rfl,⟨MB.cs ⟨qcb,qcb,qcb,qcb⟩,⟨MB.cs ⟨qcb,qcb,qcb,qcb⟩,⟨MB.cs ⟨qcb,qcb,qcb,qcb⟩,qcb⟩⟩⟩⟩⟩⟩⟩⟩⟩⟩⟩)
  rw[c99,cond_true]at j2;try simp only[rnA,Nat.reduceEqDiff,Nat.reduceLT]
  cases c100:(r14.2 == 30)
  ·rw[c100,cond_false]at j2;try simp only[rnA,Nat.reduceLT]
   refine EvL.dead 25 12 [169] ⟨rfl,qcb⟩ rfl ?_;try simp only[rnA]
   replace j2:=qab j2; subst j2;exact lfj hT2 rfl (wm0 [.d,.d,.d,.d,.d,.d,.d,.d,.k,.k,.k] ⟨rfl,⟨rfl,⟨rfl,⟨rfl,⟨rfl,⟨rfl,⟨rfl,⟨rfl,⟨MB.cs ⟨qcb,qcb,qcb,qcb⟩,⟨MB.cs ⟨qcb,qcb,qcb,qcb⟩,⟨MB.cs ⟨qcb,qcb,qcb,qcb⟩,qcb⟩⟩⟩⟩⟩⟩⟩⟩⟩⟩⟩)
  rw[c100,cond_true]at j2;obtain⟨r101,g102,j2⟩:=bind_some j2;try simp only[rnA,Nat.reduceEqDiff,Nat.reduceLT,Nat.reduceAdd,Nat.reduceLeDiff]
  refine EvL.fnS (zat g102) rfl rfl (.cons (.lit _) .nil) ⟨qcb,qcb⟩ ⟨qcb,⟨⟨rfl,(eI .i64).fr _⟩,qcb⟩⟩ ?_;obtain⟨r103,g104,j2⟩:=bind_some j2;try simp only[rnA,Nat.reduceLT]
  refine EvL.fnS (zc9 g104) rfl rfl (.cons (Mzs.agg (.cons (zad _ _ (fun h=>h.elim (fun h=>nomatch h) (fun h=>nomatch h))) (.cons (zad _ _ (fun h=>h.elim (fun h=>nomatch h) (fun h=>nomatch h))) (.cons (zad _ _ (fun h=>h.elim (fun h=>nomatch h) (fun h=>nomatch h))) .nil)))) (.cons (.lit _) .nil)) ⟨⟨(zab _ _),(zab _ _),(zab _ _),qcb⟩,qcb,qcb⟩ ⟨⟨(zab _ _),(zab _ _),(zab _ _),qcb⟩,qcb,qcb⟩ ?_;obtain⟨r105,g106,j2⟩:=bind_some j2;try simp only[rnA,Nat.reduceEqDiff,Nat.reduceLT]
  refine EvL.fnv rfl rfl (zan g106) rfl (.cons (.zaG (.cons (zaa _ _ (fun h=>nomatch h)) (.cons (zaa _ _ (fun h=>nomatch h)) (.cons (zaa _ _ (fun h=>nomatch h)) .nil)))) (.cons (.lit _) (.cons (.fptr (fun h=>nomatch h) rfl ((eI .i64).snp (t:=false) (t':=false) r101 (fun h=>nomatch h)).get) .nil))) ?_;try simp only[rnA,Nat.reduceEqDiff,Nat.reduceLT]
  cases c107:r105
  ·rw[c107,cond_false]at j2;try simp only[rnA,Nat.reduceEqDiff,Nat.reduceLT]
   refine EvL.dead 16 12 [177] ⟨rfl,qcb⟩ rfl ?_;try simp only[rnA]
   replace j2:=qab j2; subst j2;exact lfj hT2 rfl (wm0 [.d,.d,.d,.d,.d,.d,.d,.d,.k,.k,.k] ⟨rfl,⟨rfl,⟨rfl,⟨rfl,⟨rfl,⟨rfl,⟨rfl,⟨rfl,⟨MB.cs ⟨qcb,qcb,qcb,qcb⟩,⟨MB.cs ⟨qcb,qcb,qcb,qcb⟩,⟨MB.cs ⟨qcb,qcb,qcb,qcb⟩,qcb⟩⟩⟩⟩⟩⟩⟩⟩⟩⟩⟩)
  rw[c107,cond_true]at j2;try simp only[rnA,Nat.reduceEqDiff,Nat.reduceLT,Nat.reduceAdd,Nat.reduceLeDiff]
  refine EvL.zcY (S':=⟨313,[(5,(.ptr 8 0)),(6,(.ptr 9 0)),(7,(.ptr 10 0)),(177,(dB true)),(178,(fzE true (eI .i64) [4611686018427387903])),(181,(.agg [(fzE false (eI .i64) r8.vars),(fzE false (eI .i64) r8.cards),(fzE false (eI .i64) r8.w)]))],[.gone,.gone,.gone,.gone,.gone,.gone,.gone,.gone,.cells [(fzE false (eI .i64) r6.vars),(fzE false (eI .i64) r6.cards),(fzE false (eI .i64) r6.w)],.cells [(fzE false (eI .i64) r8.vars),(fzE false (eI .i64) r8.cards),(fzE false (eI .i64) r8.w)],.cells [(fzE false (eI .i64) r10.vars),(fzE false (eI .i64) r10.cards),(fzE false (eI .i64) r10.w)]]⟩) (zbl.m0 [.d,.d,.d,.d,.d,.d,.d,.d,.k,.k,.k,.f] rfl (msq (msq (msq (msq (mf rfl (zal (e:=(eI .i64)) (t:=true) rfl rfl (.inl rfl) rfl rfl (fun k h=>by cases h; exact qaf _) (fun h=>by cases h<;>rfl)) (ms rfl ⟨qcb,qcb,qcb,qcb⟩ trivial)))))) ⟨rfl,⟨rfl,⟨rfl,⟨rfl,⟨rfl,⟨rfl,⟨rfl,⟨rfl,⟨MB.cs ⟨qcb,qcb,qcb,qcb⟩,⟨MB.cs ⟨qcb,qcb,qcb,qcb⟩,⟨MB.cs ⟨qcb,qcb,qcb,qcb⟩,qcb⟩⟩⟩⟩⟩⟩⟩⟩⟩⟩⟩) (zac ?_);obtain⟨r108,g109,j2⟩:=bind_some j2;try simp only[rnA]
  refine EvL.fnS (zas g109) rfl rfl (.cons (zbx (eI .i64)) (.cons (zbx (eI .i64)) (.cons (zad _ _ (fun h=>h.elim (fun h=>nomatch h) (fun h=>nomatch h))) .nil))) ⟨(zab _ _),(zab _ _),(zab _ _),qcb⟩ ⟨(zab _ _),(zab _ _),(zab _ _),qcb⟩ ?_;obtain⟨r110,g111,j2⟩:=bind_some j2;try simp only[rnA,Nat.reduceLT]
  refine EvL.fnS (zbF g111) rfl rfl (.cons (Mzs.agg (.cons (zad _ _ (fun h=>h.elim (fun h=>nomatch h) (fun h=>nomatch h))) (.cons (zad _ _ (fun h=>h.elim (fun h=>nomatch h) (fun h=>nomatch h))) (.cons (zad _ _ (fun h=>h.elim (fun h=>nomatch h) (fun h=>nomatch h))) .nil)))) .nil) ⟨⟨(zab _ _),(zab _ _),(zab _ _),qcb⟩,qcb⟩ ⟨qcb,⟨⟨rfl,zah.fr _⟩,qcb⟩⟩ ?_;obtain⟨r112,g113,j2⟩:=bind_some j2;try simp only[rnA,Nat.reduceLT,zae]
  refine EvL.fnS (zd3 g113) rfl rfl (.cons (Mzs.agg (.cons (zad _ _ (fun h=>h.elim (fun h=>nomatch h) (fun h=>nomatch h))) (.cons (zad _ _ (fun h=>h.elim (fun h=>nomatch h) (fun h=>nomatch h))) (.cons (zad _ _ (fun h=>h.elim (fun h=>nomatch h) (fun h=>nomatch h))) .nil)))) (.cons (.lit _) .nil)) ⟨⟨(zab _ _),(zab _ _),(zab _ _),qcb⟩,qcb,qcb⟩ ⟨⟨(zab _ _),(zab _ _),(zab _ _),qcb⟩,qcb,qcb⟩ ?_;obtain⟨r114,g115,j2⟩:=bind_some j2;try simp only[rnA,Nat.reduceEqDiff,Nat.reduceLT]
  refine EvL.fnv rfl rfl (za5 g115) rfl (.cons (.zaG (.cons (zaa _ _ (fun h=>nomatch h)) (.cons (zaa _ _ (fun h=>nomatch h)) (.cons (zaa _ _ (fun h=>nomatch h)) .nil)))) (.cons (.lit _) (.cons (.fptr (fun h=>nomatch h) rfl (zah.snp (t:=false) (t':=false) r110 (fun h=>nomatch h)).get) .nil))) ?_;try simp only[rnA,Nat.reduceEqDiff,Nat.reduceLT]
  cases c116:r114
  ·rw[c116,cond_false]at j2;try simp only[rnA,Nat.reduceLT]
   refine EvL.dead 7 12 [187] ⟨rfl,qcb⟩ rfl ?_;try simp only[rnA]
   replace j2:=qab j2; subst j2;exact lfj hT2 rfl (wm0 [.d,.d,.d,.d,.d,.d,.d,.d,.k,.k,.k] ⟨rfl,⟨rfl,⟨rfl,⟨rfl,⟨rfl,⟨rfl,⟨rfl,⟨rfl,⟨MB.cs ⟨qcb,qcb,qcb,qcb⟩,⟨MB.cs ⟨qcb,qcb,qcb,qcb⟩,⟨MB.cs ⟨qcb,qcb,qcb,qcb⟩,qcb⟩⟩⟩⟩⟩⟩⟩⟩⟩⟩⟩)
  rw[c116,cond_true]at j2;obtain⟨r117,g118,j2⟩:=bind_some j2;try simp only[rnA,Nat.reduceEqDiff,Nat.reduceLT,Nat.reduceAdd,Nat.reduceLeDiff]
  refine EvL.fnS (zat g118) rfl rfl (.cons (.lit _) .nil) ⟨qcb,qcb⟩ ⟨qcb,⟨⟨rfl,(eI .i64).fr _⟩,qcb⟩⟩ ?_;obtain⟨r119,g120,j2⟩:=bind_some j2;try simp only[rnA,Nat.reduceLT]
  refine EvL.fnS (zbZ g120) rfl rfl (.cons (Mzs.agg (.cons (zad _ _ (fun h=>h.elim (fun h=>nomatch h) (fun h=>nomatch h))) (.cons (zad _ _ (fun h=>h.elim (fun h=>nomatch h) (fun h=>nomatch h))) (.cons (zad _ _ (fun h=>h.elim (fun h=>nomatch h) (fun h=>nomatch h))) .nil)))) (.cons (zbx (eI .i64)) .nil)) ⟨⟨(zab _ _),(zab _ _),(zab _ _),qcb⟩,(zab _ _),qcb⟩ ⟨⟨(zab _ _),(zab _ _),(zab _ _),qcb⟩,qcb,qcb⟩ ?_;obtain⟨r121,g122,j2⟩:=bind_some j2;try simp only[rnA,Nat.reduceEqDiff,Nat.reduceLT]
  refine EvL.fnv rfl rfl (zan g122) rfl (.cons (.zaG (.cons (zaa _ _ (fun h=>nomatch h)) (.cons (zaa _ _ (fun h=>nomatch h)) (.cons (zaa _ _ (fun h=>nomatch h)) .nil)))) (.cons (.lit _) (.cons (.fptr (fun h=>nomatch h) rfl ((eI .i64).snp (t:=false) (t':=false) r117 (fun h=>nomatch h)).get) .nil))) ?_;try simp only[rnA,Nat.reduceEqDiff,Nat.reduceLT]
  replace j2:=qab j2; subst j2;exact lfj hT2 rfl (wm0 [.d,.d,.d,.d,.d,.d,.d,.d,.k,.k,.k] ⟨rfl,⟨rfl,⟨rfl,⟨rfl,⟨rfl,⟨rfl,⟨rfl,⟨rfl,⟨MB.cs ⟨qcb,qcb,qcb,qcb⟩,⟨MB.cs ⟨qcb,qcb,qcb,qcb⟩,⟨MB.cs ⟨qcb,qcb,qcb,qcb⟩,qcb⟩⟩⟩⟩⟩⟩⟩⟩⟩⟩⟩)
 rintro v12' rfl;rw[congrFun hT2 v12'];refine zac ?_;try simp only[rnA]
 obtain⟨o3,j3,h⟩:=bind_some h;obtain⟨T3,hT3⟩:=mkT fun a:Bool=>⟨313,[(12,(dB a))],[]⟩
 refine EvL.jn T3 (fun a=>a=o3) ?_ ?_
 ·refine zac ?_;try simp only[rnA,Nat.reduceEqDiff,Nat.reduceLT]
  cases c123:v12'
  ·rw[c123,cond_false]at j3;try simp only[rnA,Nat.reduceLT]
   refine EvL.dead 103 300 [196] ⟨rfl,qcb⟩ rfl ?_;try simp only[rnA,Nat.reduceEqDiff,Nat.reduceLT]
   replace j3:=qab j3; subst j3;exact lfj hT3 rfl (wm0 [] (by exact trivial))
  rw[c123,cond_true]at j3;obtain⟨r124,g125,j3⟩:=bind_some j3;try simp only[rnA,Nat.reduceEqDiff,Nat.reduceLT,Nat.reduceAdd,Nat.reduceLeDiff]
  refine EvL.fnS (zat g125) rfl rfl (.cons (.lit _) .nil) ⟨qcb,qcb⟩ ⟨qcb,⟨⟨rfl,(eI .i64).fr _⟩,qcb⟩⟩ ?_;obtain⟨r126,g127,j3⟩:=bind_some j3;try simp only[rnA,Nat.reduceLT]
  refine EvL.fn (zbU g127) rfl rfl (.cons (.zaG (.cons (zaa _ _ (fun h=>nomatch h)) (.cons (zaa _ _ (fun h=>nomatch h)) (.cons (zaa _ _ (fun h=>nomatch h)) .nil)))) (.cons (.lit _) (.cons (.lit _) .nil))) ?_;obtain⟨r128,g129,j3⟩:=bind_some j3;try simp only[rnA,Nat.reduceEqDiff,Nat.reduceLT]
  refine EvL.fnv rfl rfl (zan g129) rfl (.cons (.zaG (.cons (zaa _ _ (fun h=>nomatch h)) (.cons (zaa _ _ (fun h=>nomatch h)) (.cons (zaa _ _ (fun h=>nomatch h)) .nil)))) (.cons (.lit _) (.cons (.fptr (fun h=>nomatch h) rfl ((eI .i64).snp (t:=false) (t':=false) r124 (fun h=>nomatch h)).get) .nil))) ?_;try simp only[rnA,Nat.reduceEqDiff,Nat.reduceLT]
  cases c130:r128
  ·rw[c130,cond_false]at j3;try simp only[rnA,Nat.reduceLT]
   refine EvL.dead 95 300 [204] ⟨rfl,qcb⟩ rfl ?_;try simp only[rnA,Nat.reduceEqDiff,Nat.reduceLT]
   replace j3:=qab j3; subst j3;exact lfj hT3 rfl (wm0 [] (by exact trivial))
  rw[c130,cond_true]at j3;obtain⟨r131,g132,j3⟩:=bind_some j3;try simp only[rnA,Nat.reduceEqDiff,Nat.reduceLT,Nat.reduceAdd,Nat.reduceLeDiff]
  refine EvL.fnS (zat g132) rfl rfl (.cons (.lit _) .nil) ⟨qcb,qcb⟩ ⟨qcb,⟨⟨rfl,(eI .i64).fr _⟩,qcb⟩⟩ ?_;obtain⟨r133,g134,j3⟩:=bind_some j3;try simp only[rnA,Nat.reduceLT]
  refine EvL.fn (zbU g134) rfl rfl (.cons (.zaG (.cons (zaa _ _ (fun h=>nomatch h)) (.cons (zaa _ _ (fun h=>nomatch h)) (.cons (zaa _ _ (fun h=>nomatch h)) .nil)))) (.cons (.lit _) (.cons (.lit _) .nil))) ?_;obtain⟨r135,g136,j3⟩:=bind_some j3;try simp only[rnA,Nat.reduceEqDiff,Nat.reduceLT]
  refine EvL.fnv rfl rfl (zan g136) rfl (.cons (.zaG (.cons (zaa _ _ (fun h=>nomatch h)) (.cons (zaa _ _ (fun h=>nomatch h)) (.cons (zaa _ _ (fun h=>nomatch h)) .nil)))) (.cons (.lit _) (.cons (.fptr (fun h=>nomatch h) rfl ((eI .i64).snp (t:=false) (t':=false) r131 (fun h=>nomatch h)).get) .nil))) ?_;try simp only[rnA,Nat.reduceEqDiff,Nat.reduceLT]
  cases c137:r135
  ·rw[c137,cond_false]at j3;try simp only[rnA,Nat.reduceLT]
   refine EvL.dead 87 300 [212] ⟨rfl,qcb⟩ rfl ?_;try simp only[rnA,Nat.reduceEqDiff,Nat.reduceLT]
   replace j3:=qab j3; subst j3;exact lfj hT3 rfl (wm0 [] (by exact trivial))
  rw[c137,cond_true]at j3;obtain⟨r138,g139,j3⟩:=bind_some j3;try simp only[rnA,Nat.reduceEqDiff,Nat.reduceLT,Nat.reduceAdd,Nat.reduceLeDiff]
  refine EvL.fnS (zat g139) rfl rfl (.cons (.lit _) .nil) ⟨qcb,qcb⟩ ⟨qcb,⟨⟨rfl,(eI .i64).fr _⟩,qcb⟩⟩ ?_;obtain⟨r140,g141,j3⟩:=bind_some j3;try simp only[rnA,Nat.reduceLT]
  refine EvL.fn (zbU g141) rfl rfl (.cons (.zaG (.cons (zaa _ _ (fun h=>nomatch h)) (.cons (zaa _ _ (fun h=>nomatch h)) (.cons (zaa _ _ (fun h=>nomatch h)) .nil)))) (.cons (.lit _) (.cons (.lit _) .nil))) ?_;obtain⟨r142,g143,j3⟩:=bind_some j3;try simp only[rnA,Nat.reduceEqDiff,Nat.reduceLT]
  refine EvL.fnv rfl rfl (zan g143) rfl (.cons (.zaG (.cons (zaa _ _ (fun h=>nomatch h)) (.cons (zaa _ _ (fun h=>nomatch h)) (.cons (zaa _ _ (fun h=>nomatch h)) .nil)))) (.cons (.lit _) (.cons (.fptr (fun h=>nomatch h) rfl ((eI .i64).snp (t:=false) (t':=false) r138 (fun h=>nomatch h)).get) .nil))) ?_;try simp only[rnA,Nat.reduceEqDiff,Nat.reduceLT]
  cases c144:r142
  ·rw[c144,cond_false]at j3;try simp only[rnA,Nat.reduceLT]
   refine EvL.dead 79 300 [220] ⟨rfl,qcb⟩ rfl ?_;try simp only[rnA,Nat.reduceEqDiff,Nat.reduceLT]
   replace j3:=qab j3; subst j3;exact lfj hT3 rfl (wm0 [] (by exact trivial))
  rw[c144,cond_true]at j3;obtain⟨r145,g146,j3⟩:=bind_some j3;try simp only[rnA,Nat.reduceEqDiff,Nat.reduceLT,Nat.reduceAdd,Nat.reduceLeDiff]
  refine EvL.fnS (zat g146) rfl rfl (.cons (.lit _) .nil) ⟨qcb,qcb⟩ ⟨qcb,⟨⟨rfl,(eI .i64).fr _⟩,qcb⟩⟩ ?_;obtain⟨r147,g148,j3⟩:=bind_some j3;try simp only[rnA,Nat.reduceLT]
  refine EvL.fn (zbU g148) rfl rfl (.cons (.zaG (.cons (zaa _ _ (fun h=>nomatch h)) (.cons (zaa _ _ (fun h=>nomatch h)) (.cons (zaa _ _ (fun h=>nomatch h)) .nil)))) (.cons (.lit _) (.cons (.lit _) .nil))) ?_;obtain⟨r149,g150,j3⟩:=bind_some j3;try simp only[rnA,Nat.reduceEqDiff,Nat.reduceLT]
  refine EvL.fnv rfl rfl (zan g150) rfl (.cons (.zaG (.cons (zaa _ _ (fun h=>nomatch h)) (.cons (zaa _ _ (fun h=>nomatch h)) (.cons (zaa _ _ (fun h=>nomatch h)) .nil)))) (.cons (.lit _) (.cons (.fptr (fun h=>nomatch h) rfl ((eI .i64).snp (t:=false) (t':=false) r145 (fun h=>nomatch h)).get) .nil))) ?_;try simp only[rnA,Nat.reduceEqDiff,Nat.reduceLT]
  cases c151:r149
  ·rw[c151,cond_false]at j3;try simp only[rnA,Nat.reduceEqDiff,Nat.reduceLT]
   refine EvL.dead 70 300 [228] ⟨rfl,qcb⟩ rfl ?_;try simp only[rnA,Nat.reduceEqDiff,Nat.reduceLT]
   replace j3:=qab j3; subst j3;exact lfj hT3 rfl (wm0 [] (by exact trivial))
  rw[c151,cond_true]at j3;try simp only[rnA,Nat.reduceEqDiff,Nat.reduceLT,Nat.reduceAdd,Nat.reduceLeDiff]
  refine EvL.zcY (S':=⟨313,[(5,(.ptr 8 0)),(6,(.ptr 9 0)),(228,(dB true)),(229,(fzE true (eI .i64) [4611686018427387903])),(232,(.agg [(fzE false (eI .i64) r6.vars),(fzE false (eI .i64) r6.cards),(fzE false (eI .i64) r6.w)]))],[.gone,.gone,.gone,.gone,.gone,.gone,.gone,.gone,.cells [(fzE false (eI .i64) r6.vars),(fzE false (eI .i64) r6.cards),(fzE false (eI .i64) r6.w)],.cells [(fzE false (eI .i64) r8.vars),(fzE false (eI .i64) r8.cards),(fzE false (eI .i64) r8.w)]]⟩) (zbl.m0 [.d,.d,.d,.d,.d,.d,.d,.d,.k,.k,.d,.f] rfl (msq (msq (msq (mf rfl (zal (e:=(eI .i64)) (t:=true) rfl rfl (.inl rfl) rfl rfl (fun k h=>by cases h; exact qaf _) (fun h=>by cases h<;>rfl)) (ms rfl ⟨qcb,qcb,qcb,qcb⟩ trivial))))) ⟨rfl,⟨rfl,⟨rfl,⟨rfl,⟨rfl,⟨rfl,⟨rfl,⟨rfl,⟨MB.cs ⟨qcb,qcb,qcb,qcb⟩,⟨MB.cs ⟨qcb,qcb,qcb,qcb⟩,qcb⟩⟩⟩⟩⟩⟩⟩⟩⟩⟩) (zac ?_);obtain⟨r152,g153,j3⟩:=bind_some j3;try simp only[rnA]
  refine EvL.fnS (zas g153) rfl rfl (.cons (zbx (eI .i64)) (.cons (zbx (eI .i64)) (.cons (zad _ _ (fun h=>h.elim (fun h=>nomatch h) (fun h=>nomatch h))) .nil))) ⟨(zab _ _),(zab _ _),(zab _ _),qcb⟩ ⟨(zab _ _),(zab _ _),(zab _ _),qcb⟩ ?_;obtain⟨r154,g155,j3⟩:=bind_some j3;try simp only[rnA,Nat.reduceLT]
  refine EvL.fnS (zbF g155) rfl rfl (.cons (Mzs.agg (.cons (zad _ _ (fun h=>h.elim (fun h=>nomatch h) (fun h=>nomatch h))) (.cons (zad _ _ (fun h=>h.elim (fun h=>nomatch h) (fun h=>nomatch h))) (.cons (zad _ _ (fun h=>h.elim (fun h=>nomatch h) (fun h=>nomatch h))) .nil)))) .nil) ⟨⟨(zab _ _),(zab _ _),(zab _ _),qcb⟩,qcb⟩ ⟨qcb,⟨⟨rfl,zah.fr _⟩,qcb⟩⟩ ?_;obtain⟨r156,g157,j3⟩:=bind_some j3;try simp only[rnA,Nat.reduceLT,zae]
  refine EvL.fn (zbU g157) rfl rfl (.cons (.zaG (.cons (zaa _ _ (fun h=>nomatch h)) (.cons (zaa _ _ (fun h=>nomatch h)) (.cons (zaa _ _ (fun h=>nomatch h)) .nil)))) (.cons (.lit _) (.cons (.lit _) .nil))) ?_;obtain⟨r158,g159,j3⟩:=bind_some j3;try simp only[rnA,Nat.reduceEqDiff,Nat.reduceLT]
  refine EvL.fnv rfl rfl (za5 g159) rfl (.cons (.zaG (.cons (zaa _ _ (fun h=>nomatch h)) (.cons (zaa _ _ (fun h=>nomatch h)) (.cons (zaa _ _ (fun h=>nomatch h)) .nil)))) (.cons (.lit _) (.cons (.fptr (fun h=>nomatch h) rfl (zah.snp (t:=false) (t':=false) r154 (fun h=>nomatch h)).get) .nil))) ?_;try simp only[rnA,Nat.reduceEqDiff,Nat.reduceLT]
  cases c160:r158
  ·rw[c160,cond_false]at j3;try simp only[rnA,Nat.reduceLT]
   refine EvL.dead 62 12 [238] ⟨rfl,qcb⟩ rfl ?_;try simp only[rnA]
   replace j3:=qab j3; subst j3;exact lfj hT3 rfl (wm0 [] (by exact trivial))
  rw[c160,cond_true]at j3;obtain⟨r161,g162,j3⟩:=bind_some j3;try simp only[rnA,Nat.reduceEqDiff,Nat.reduceLT,Nat.reduceAdd,Nat.reduceLeDiff]
  refine EvL.fnS (zat g162) rfl rfl (.cons (.lit _) .nil) ⟨qcb,qcb⟩ ⟨qcb,⟨⟨rfl,(eI .i64).fr _⟩,qcb⟩⟩ ?_;try simp only[rnA,Nat.reduceEqDiff,Nat.reduceLT,Nat.reduceAdd]
  refine EvL.zcY (S':=⟨313,[(5,(.ptr 8 0)),(6,(.ptr 9 0)),(238,(dB true)),(239,(.clo 80 [] [(.fptr false ((eI .i64).c false r161))])),(240,(.agg [(fzE false (eI .i64) r6.vars),(fzE false (eI .i64) r6.cards),(fzE false (eI .i64) r6.w)])),(241,(fzE true (eI .i64) [63,63]))],[.gone,.gone,.gone,.gone,.gone,.gone,.gone,.gone,.cells [(fzE false (eI .i64) r6.vars),(fzE false (eI .i64) r6.cards),(fzE false (eI .i64) r6.w)],.cells [(fzE false (eI .i64) r8.vars),(fzE false (eI .i64) r8.cards),(fzE false (eI .i64) r8.w)]]⟩) (zbl.m0 [.d,.d,.d,.d,.d,.d,.d,.d,.k,.k,.f] rfl (msq (msq (msq (ms rfl ⟨qcb,⟨qcb,qcb⟩⟩ (ms rfl ⟨qcb,qcb,qcb,qcb⟩ (mf rfl (zal (e:=(eI .i64)) (t:=true) rfl rfl (.inl rfl) rfl rfl (fun k h=>by cases h; exact qaf _) (fun h=>by cases h<;>rfl)) trivial)))))) ⟨rfl,⟨rfl,⟨rfl,⟨rfl,⟨rfl,⟨rfl,⟨rfl,⟨rfl,⟨MB.cs ⟨qcb,qcb,qcb,qcb⟩,⟨MB.cs ⟨qcb,qcb,qcb,qcb⟩,qcb⟩⟩⟩⟩⟩⟩⟩⟩⟩⟩) (zac ?_);obtain⟨r163,g164,j3⟩:=bind_some j3;try simp only[rnA]
  refine EvL.fnS (zbZ g164) rfl rfl (.cons (Mzs.agg (.cons (zad _ _ (fun h=>h.elim (fun h=>nomatch h) (fun h=>nomatch h))) (.cons (zad _ _ (fun h=>h.elim (fun h=>nomatch h) (fun h=>nomatch h))) (.cons (zad _ _ (fun h=>h.elim (fun h=>nomatch h) (fun h=>nomatch h))) .nil)))) (.cons (zad _ _ (fun h=>h.elim (fun h=>nomatch h) (fun h=>nomatch h))) .nil)) ⟨⟨(zab _ _),(zab _ _),(zab _ _),qcb⟩,(zab _ _),qcb⟩ ⟨⟨(zab _ _),(zab _ _),(zab _ _),qcb⟩,qcb,qcb⟩ ?_;obtain⟨r165,g166,j3⟩:=bind_some j3;try simp only[rnA,Nat.reduceEqDiff,Nat.reduceLT]
  refine EvL.fnv rfl rfl (zan g166) rfl (.cons (.zaG (.cons (zaa _ _ (fun h=>nomatch h)) (.cons (zaa _ _ (fun h=>nomatch h)) (.cons (zaa _ _ (fun h=>nomatch h)) .nil)))) (.cons (.lit _) (.cons (.fptr (fun h=>nomatch h) rfl ((eI .i64).snp (t:=false) (t':=false) r161 (fun h=>nomatch h)).get) .nil))) ?_;try simp only[rnA,Nat.reduceEqDiff,Nat.reduceLT]
  cases c167:r165
  ·rw[c167,cond_false]at j3;try simp only[rnA,Nat.reduceLT]
   refine EvL.dead 53 12 [247] ⟨rfl,qcb⟩ rfl ?_;try simp only[rnA]
   replace j3:=qab j3; subst j3;exact lfj hT3 rfl (wm0 [] (by exact trivial))
  rw[c167,cond_true]at j3;obtain⟨r168,g169,j3⟩:=bind_some j3;try simp only[rnA,Nat.reduceEqDiff,Nat.reduceLT,Nat.reduceAdd,Nat.reduceLeDiff]
  refine EvL.fnS (zat g169) rfl rfl (.cons (.lit _) .nil) ⟨qcb,qcb⟩ ⟨qcb,⟨⟨rfl,(eI .i64).fr _⟩,qcb⟩⟩ ?_;try simp only[rnA,Nat.reduceEqDiff,Nat.reduceLT,Nat.reduceAdd]
  refine EvL.zcY (S':=⟨313,[(5,(.ptr 8 0)),(6,(.ptr 9 0)),(247,(dB true)),(248,(.clo 80 [] [(.fptr false ((eI .i64).c false r168))])),(249,(.agg [(fzE false (eI .i64) r6.vars),(fzE false (eI .i64) r6.cards),(fzE false (eI .i64) r6.w)])),(250,(fzE true (eI .i64) [(-1)]))],[.gone,.gone,.gone,.gone,.gone,.gone,.gone,.gone,.cells [(fzE false (eI .i64) r6.vars),(fzE false (eI .i64) r6.cards),(fzE false (eI .i64) r6.w)],.cells [(fzE false (eI .i64) r8.vars),(fzE false (eI .i64) r8.cards),(fzE false (eI .i64) r8.w)]]⟩) (zbl.m0 [.d,.d,.d,.d,.d,.d,.d,.d,.k,.k,.f] rfl (msq (msq (msq (ms rfl ⟨qcb,⟨qcb,qcb⟩⟩ (ms rfl ⟨qcb,qcb,qcb,qcb⟩ (mf rfl (zal (e:=(eI .i64)) (t:=true) rfl rfl (.inl rfl) rfl rfl (fun k h=>by cases h; exact qaf _) (fun h=>by cases h<;>rfl)) trivial)))))) ⟨rfl,⟨rfl,⟨rfl,⟨rfl,⟨rfl,⟨rfl,⟨rfl,⟨rfl,⟨MB.cs ⟨qcb,qcb,qcb,qcb⟩,⟨MB.cs ⟨qcb,qcb,qcb,qcb⟩,qcb⟩⟩⟩⟩⟩⟩⟩⟩⟩⟩) (zac ?_);obtain⟨r170,g171,j3⟩:=bind_some j3;try simp only[rnA]
  refine EvL.fnS (zbZ g171) rfl rfl (.cons (Mzs.agg (.cons (zad _ _ (fun h=>h.elim (fun h=>nomatch h) (fun h=>nomatch h))) (.cons (zad _ _ (fun h=>h.elim (fun h=>nomatch h) (fun h=>nomatch h))) (.cons (zad _ _ (fun h=>h.elim (fun h=>nomatch h) (fun h=>nomatch h))) .nil)))) (.cons (zad _ _ (fun h=>h.elim (fun h=>nomatch h) (fun h=>nomatch h))) .nil)) ⟨⟨(zab _ _),(zab _ _),(zab _ _),qcb⟩,(zab _ _),qcb⟩ ⟨⟨(zab _ _),(zab _ _),(zab _ _),qcb⟩,qcb,qcb⟩ ?_;obtain⟨r172,g173,j3⟩:=bind_some j3;try simp only[rnA,Nat.reduceEqDiff,Nat.reduceLT]
  refine EvL.fnv rfl rfl (zan g173) rfl (.cons (.zaG (.cons (zaa _ _ (fun h=>nomatch h)) (.cons (zaa _ _ (fun h=>nomatch h)) (.cons (zaa _ _ (fun h=>nomatch h)) .nil)))) (.cons (.lit _) (.cons (.fptr (fun h=>nomatch h) rfl ((eI .i64).snp (t:=false) (t':=false) r168 (fun h=>nomatch h)).get) .nil))) ?_;try simp only[rnA,Nat.reduceEqDiff,Nat.reduceLT]
  cases c174:r172
  ·rw[c174,cond_false]at j3;try simp only[rnA,Nat.reduceLT]
   refine EvL.dead 44 12 [256] ⟨rfl,qcb⟩ rfl ?_;try simp only[rnA]
   replace j3:=qab j3; subst j3;exact lfj hT3 rfl (wm0 [] (by exact trivial))
  rw[c174,cond_true]at j3;obtain⟨r175,g176,j3⟩:=bind_some j3;try simp only[rnA,Nat.reduceEqDiff,Nat.reduceLT,Nat.reduceAdd,Nat.reduceLeDiff]
  refine EvL.fnS (zat g176) rfl rfl (.cons (.lit _) .nil) ⟨qcb,qcb⟩ ⟨qcb,⟨⟨rfl,(eI .i64).fr _⟩,qcb⟩⟩ ?_;try simp only[rnA,Nat.reduceEqDiff,Nat.reduceLT,Nat.reduceAdd]
  refine EvL.zcY (S':=⟨313,[(6,(.ptr 9 0)),(256,(dB true)),(257,(.clo 80 [] [(.fptr false ((eI .i64).c false r175))])),(258,(.agg [(fzE false (eI .i64) r6.vars),(fzE false (eI .i64) r6.cards),(fzE false (eI .i64) r6.w)])),(259,(fzE true (eI .i64) [0]))],[.gone,.gone,.gone,.gone,.gone,.gone,.gone,.gone,.gone,.cells [(fzE false (eI .i64) r8.vars),(fzE false (eI .i64) r8.cards),(fzE false (eI .i64) r8.w)]]⟩) (zbl.m0 [.d,.d,.d,.d,.d,.d,.d,.d,.d,.k,.f] rfl (msq (msq (ms rfl ⟨qcb,⟨qcb,qcb⟩⟩ (ms rfl ⟨qcb,qcb,qcb,qcb⟩ (mf rfl (zal (e:=(eI .i64)) (t:=true) rfl rfl (.inl rfl) rfl rfl (fun k h=>by cases h; exact qaf _) (fun h=>by cases h<;>rfl)) trivial))))) ⟨rfl,⟨rfl,⟨rfl,⟨rfl,⟨rfl,⟨rfl,⟨rfl,⟨rfl,⟨rfl,⟨MB.cs ⟨qcb,qcb,qcb,qcb⟩,qcb⟩⟩⟩⟩⟩⟩⟩⟩⟩⟩) (zac ?_);obtain⟨r177,g178,j3⟩:=bind_some j3;try simp only[rnA]
  refine EvL.fnS (zas g178) rfl rfl (.cons (zbx (eI .i64)) (.cons (zbx (eI .i64)) (.cons (zad _ _ (fun h=>h.elim (fun h=>nomatch h) (fun h=>nomatch h))) .nil))) ⟨(zab _ _),(zab _ _),(zab _ _),qcb⟩ ⟨(zab _ _),(zab _ _),(zab _ _),qcb⟩ ?_;obtain⟨r179,g180,j3⟩:=bind_some j3;try simp only[rnA,Nat.reduceLT]
  refine EvL.fn (zbi g180) rfl rfl (.cons (.zaG (.cons (zaa _ _ (fun h=>nomatch h)) (.cons (zaa _ _ (fun h=>nomatch h)) (.cons (zaa _ _ (fun h=>nomatch h)) .nil)))) (.cons (.zaG (.cons (zaa _ _ (fun h=>nomatch h)) (.cons (zaa _ _ (fun h=>nomatch h)) (.cons (zaa _ _ (fun h=>nomatch h)) .nil)))) .nil)) ?_;obtain⟨r181,g182,j3⟩:=bind_some j3;try simp only[rnA,Nat.reduceEqDiff,Nat.reduceLT]
  refine EvL.fnv rfl rfl (zan g182) rfl (.cons (.zaG (.cons (zaa _ _ (fun h=>nomatch h)) (.cons (zaa _ _ (fun h=>nomatch h)) (.cons (zaa _ _ (fun h=>nomatch h)) .nil)))) (.cons (.lit _) (.cons (.fptr (fun h=>nomatch h) rfl ((eI .i64).snp (t:=false) (t':=false) r175 (fun h=>nomatch h)).get) .nil))) ?_;try simp only[rnA,Nat.reduceEqDiff,Nat.reduceLT]
  cases c183:r181
  ·rw[c183,cond_false]at j3;try simp only[rnA,Nat.reduceLT]
   refine EvL.dead 34 12 [266] ⟨rfl,qcb⟩ rfl ?_;try simp only[rnA]
   replace j3:=qab j3; subst j3;exact lfj hT3 rfl (wm0 [] (by exact trivial))
  rw[c183,cond_true]at j3;try simp only[rnA,Nat.reduceLT,Nat.reduceAdd]
  refine EvL.zcY (S':=⟨313,[(6,(.ptr 9 0)),(266,(dB true)),(267,(fzE true (eI .i64) [0]))],[.gone,.gone,.gone,.gone,.gone,.gone,.gone,.gone,.gone,.cells [(fzE false (eI .i64) r8.vars),(fzE false (eI .i64) r8.cards),(fzE false (eI .i64) r8.w)]]⟩) (zbl.m0 [.d,.d,.d,.d,.d,.d,.d,.d,.d,.k,.f] rfl (msq (msq (mf rfl (zal (e:=(eI .i64)) (t:=true) rfl rfl (.inl rfl) rfl rfl (fun k h=>by cases h; exact qaf _) (fun h=>by cases h<;>rfl)) trivial))) ⟨rfl,⟨rfl,⟨rfl,⟨rfl,⟨rfl,⟨rfl,⟨rfl,⟨rfl,⟨rfl,⟨MB.cs ⟨qcb,qcb,qcb,qcb⟩,qcb⟩⟩⟩⟩⟩⟩⟩⟩⟩⟩) (zac ?_);obtain⟨r184,g185,j3⟩:=bind_some j3;try simp only[rnA]
  refine EvL.fnS (zas g185) rfl rfl (.cons (zbx (eI .i64)) (.cons (zbx (eI .i64)) (.cons (zad _ _ (fun h=>h.elim (fun h=>nomatch h) (fun h=>nomatch h))) .nil))) ⟨(zab _ _),(zab _ _),(zab _ _),qcb⟩ ⟨(zab _ _),(zab _ _),(zab _ _),qcb⟩ ?_;obtain⟨r186,g187,j3⟩:=bind_some j3;try simp only[rnA,Nat.reduceLT]
  refine EvL.fnS (zbF g187) rfl rfl (.cons (Mzs.agg (.cons (zad _ _ (fun h=>h.elim (fun h=>nomatch h) (fun h=>nomatch h))) (.cons (zad _ _ (fun h=>h.elim (fun h=>nomatch h) (fun h=>nomatch h))) (.cons (zad _ _ (fun h=>h.elim (fun h=>nomatch h) (fun h=>nomatch h))) .nil)))) .nil) ⟨⟨(zab _ _),(zab _ _),(zab _ _),qcb⟩,qcb⟩ ⟨qcb,⟨⟨rfl,zah.fr _⟩,qcb⟩⟩ ?_;try simp only[rnA,Nat.reduceEqDiff,Nat.reduceLT,Nat.reduceAdd,zae]
  refine EvL.zcY (S':=⟨313,[(6,(.ptr 9 0)),(266,(dB true)),(269,(.clo 87 [] [(.fptr false (zah.c false r186))])),(270,(fzE true (eI .i64) [0]))],[.gone,.gone,.gone,.gone,.gone,.gone,.gone,.gone,.gone,.cells [(fzE false (eI .i64) r8.vars),(fzE false (eI .i64) r8.cards),(fzE false (eI .i64) r8.w)]]⟩) (zbl.m0 [.d,.d,.d,.d,.d,.d,.d,.d,.d,.k,.f] rfl (msq (msq (ms rfl ⟨qcb,⟨qcb,qcb⟩⟩ (mf rfl (zal (e:=(eI .i64)) (t:=true) rfl rfl (.inl rfl) rfl rfl (fun k h=>by cases h; exact qaf _) (fun h=>by cases h<;>rfl)) trivial)))) ⟨rfl,⟨rfl,⟨rfl,⟨rfl,⟨rfl,⟨rfl,⟨rfl,⟨rfl,⟨rfl,⟨MB.cs ⟨qcb,qcb,qcb,qcb⟩,qcb⟩⟩⟩⟩⟩⟩⟩⟩⟩⟩) (zac ?_);obtain⟨r188,g189,j3⟩:=bind_some j3;try simp only[rnA,zae]
  refine EvL.fnS (zas g189) rfl rfl (.cons (zbx (eI .i64)) (.cons (zbx (eI .i64)) (.cons (zad _ _ (fun h=>h.elim (fun h=>nomatch h) (fun h=>nomatch h))) .nil))) ⟨(zab _ _),(zab _ _),(zab _ _),qcb⟩ ⟨(zab _ _),(zab _ _),(zab _ _),qcb⟩ ?_;try simp only[rnA,Nat.reduceEqDiff,Nat.reduceLT,Nat.reduceAdd]
  refine EvL.zcY (S':=⟨313,[(6,(.ptr 9 0)),(266,(dB true)),(269,(.clo 87 [] [(.fptr false (zah.c false r186))])),(271,(.agg [(fzE false (eI .i64) r188.vars),(fzE false (eI .i64) r188.cards),(fzE false (eI .i64) r188.w)])),(272,(fzE true (eI .i64) [0]))],[.gone,.gone,.gone,.gone,.gone,.gone,.gone,.gone,.gone,.cells [(fzE false (eI .i64) r8.vars),(fzE false (eI .i64) r8.cards),(fzE false (eI .i64) r8.w)]]⟩) (zbl.m0 [.d,.d,.d,.d,.d,.d,.d,.d,.d,.k,.f] rfl (msq (msq (ms rfl ⟨qcb,⟨qcb,qcb⟩⟩ (ms rfl ⟨qcb,qcb,qcb,qcb⟩ (mf rfl (zal (e:=(eI .i64)) (t:=true) rfl rfl (.inl rfl) rfl rfl (fun k h=>by cases h; exact qaf _) (fun h=>by cases h<;>rfl)) trivial))))) ⟨rfl,⟨rfl,⟨rfl,⟨rfl,⟨rfl,⟨rfl,⟨rfl,⟨rfl,⟨rfl,⟨MB.cs ⟨qcb,qcb,qcb,qcb⟩,qcb⟩⟩⟩⟩⟩⟩⟩⟩⟩⟩) (zac ?_);obtain⟨r190,g191,j3⟩:=bind_some j3;try simp only[rnA,zae]
  refine EvL.fnS (zas g191) rfl rfl (.cons (zbx (eI .i64)) (.cons (zbx (eI .i64)) (.cons (zad _ _ (fun h=>h.elim (fun h=>nomatch h) (fun h=>nomatch h))) .nil))) ⟨(zab _ _),(zab _ _),(zab _ _),qcb⟩ ⟨(zab _ _),(zab _ _),(zab _ _),qcb⟩ ?_;obtain⟨r192,g193,j3⟩:=bind_some j3;try simp only[rnA,Nat.reduceLT]
  refine EvL.fn (zbi g193) rfl rfl (.cons (.zaG (.cons (zaa _ _ (fun h=>nomatch h)) (.cons (zaa _ _ (fun h=>nomatch h)) (.cons (zaa _ _ (fun h=>nomatch h)) .nil)))) (.cons (.zaG (.cons (zaa _ _ (fun h=>nomatch h)) (.cons (zaa _ _ (fun h=>nomatch h)) (.cons (zaa _ _ (fun h=>nomatch h)) .nil)))) .nil)) ?_;obtain⟨r194,g195,j3⟩:=bind_some j3;try simp only[rnA,Nat.reduceEqDiff,Nat.reduceLT]
  refine EvL.fnv rfl rfl (za5 g195) rfl (.cons (.zaG (.cons (zaa _ _ (fun h=>nomatch h)) (.cons (zaa _ _ (fun h=>nomatch h)) (.cons (zaa _ _ (fun h=>nomatch h)) .nil)))) (.cons (.lit _) (.cons (.fptr (fun h=>nomatch h) rfl (zah.snp (t:=false) (t':=false) r186 (fun h=>nomatch h)).get) .nil))) ?_;try simp only[rnA,Nat.reduceEqDiff,Nat.reduceLT]
  cases c196:r194
  ·rw[c196,cond_false]at j3;try simp only[rnA,Nat.reduceEqDiff,reduceIte,Nat.reduceLT,Nat.reduceAdd,Nat.reduceLeDiff,Nat.reduceMul,Nat.reduceSub,Int.reduceLE,Int.reduceLT,Int.reduceBEq,Nat.reduceBEq,reduceCtorEq,zae,c3,c123,c130,c137,c144,c151,c160,c167,c174,c183,c196]
   refine EvL.dead 22 12 [279] ⟨rfl,qcb⟩ rfl ?_;try simp only[rnA]
   replace j3:=qab j3; subst j3;exact lfj hT3 rfl (wm0 [] (by exact trivial))
  rw[c196,cond_true]at j3;obtain⟨r197,g198,j3⟩:=bind_some j3;try simp only[rnA,Nat.reduceEqDiff,reduceIte,Nat.reduceLT,Nat.reduceAdd,Nat.reduceLeDiff,Nat.reduceMul,Nat.reduceSub,Int.reduceLE,Int.reduceLT,Int.reduceBEq,Nat.reduceBEq,reduceCtorEq,zae,c3,c123,c130,c137,c144,c151,c160,c167,c174,c183,c196]
  refine EvL.fn (zcB g198) rfl rfl .nil ?_;obtain⟨r199,g200,j3⟩:=bind_some j3;try simp only[rnA,Nat.reduceLT]
  refine EvL.fnS (zbF g200) rfl rfl (.cons (Mzs.agg (.cons (zad _ _ (fun h=>h.elim (fun h=>nomatch h) (fun h=>nomatch h))) (.cons (zad _ _ (fun h=>h.elim (fun h=>nomatch h) (fun h=>nomatch h))) (.cons (zad _ _ (fun h=>h.elim (fun h=>nomatch h) (fun h=>nomatch h))) .nil)))) .nil) ⟨⟨(zab _ _),(zab _ _),(zab _ _),qcb⟩,qcb⟩ ⟨qcb,⟨⟨rfl,zah.fr _⟩,qcb⟩⟩ ?_;obtain⟨r201,g202,j3⟩:=bind_some j3;try simp only[rnA,Nat.reduceLT,zae]
  refine EvL.fn (zcB g202) rfl rfl .nil ?_;obtain⟨r203,g204,j3⟩:=bind_some j3;try simp only[rnA,Nat.reduceLT]
  refine EvL.fn (zcB g204) rfl rfl .nil ?_;obtain⟨r205,g206,j3⟩:=bind_some j3;try simp only[rnA,Nat.reduceLT]
  refine EvL.fn (zbi g206) rfl rfl (.cons (.zaG (.cons (zaa _ _ (fun h=>nomatch h)) (.cons (zaa _ _ (fun h=>nomatch h)) (.cons (zaa _ _ (fun h=>nomatch h)) .nil)))) (.cons (.zaG (.cons (zaa _ _ (fun h=>nomatch h)) (.cons (zaa _ _ (fun h=>nomatch h)) (.cons (zaa _ _ (fun h=>nomatch h)) .nil)))) .nil)) ?_;obtain⟨r207,g208,j3⟩:=bind_some j3;try simp only[rnA,Nat.reduceEqDiff,Nat.reduceLT]
  refine EvL.fnv rfl rfl (za5 g208) rfl (.cons (.zaG (.cons (zaa _ _ (fun h=>nomatch h)) (.cons (zaa _ _ (fun h=>nomatch h)) (.cons (zaa _ _ (fun h=>nomatch h)) .nil)))) (.cons (.lit _) (.cons (.fptr (fun h=>nomatch h) rfl (zah.snp (t:=false) (t':=false) r199 (fun h=>nomatch h)).get) .nil))) ?_;try simp only[rnA,Nat.reduceEqDiff,Nat.reduceLT]
  cases c209:r207
  ·rw[c209,cond_false]at j3;try simp only[rnA,Nat.reduceLT]
   refine EvL.dead 11 12 [289] ⟨rfl,qcb⟩ rfl ?_;try simp only[rnA]
   replace j3:=qab j3; subst j3;exact lfj hT3 rfl (wm0 [] (by exact trivial))
  rw[c209,cond_true]at j3;obtain⟨r210,g211,j3⟩:=bind_some j3;try simp only[rnA,Nat.reduceEqDiff,Nat.reduceLT,Nat.reduceAdd,Nat.reduceLeDiff]
  refine EvL.fnS (zat g211) rfl rfl (.cons (.lit _) .nil) ⟨qcb,qcb⟩ ⟨qcb,⟨⟨rfl,(eI .i64).fr _⟩,qcb⟩⟩ ?_;try simp only[rnA,Nat.reduceEqDiff,Nat.reduceLT,Nat.reduceAdd]
  refine EvL.zcY (S':=⟨313,[(289,(dB true)),(290,(.clo 80 [] [(.fptr false ((eI .i64).c false r210))])),(291,(.agg [(fzE false (eI .i64) r8.vars),(fzE false (eI .i64) r8.cards),(fzE false (eI .i64) r8.w)])),(292,(fzE true (eI .i64) [62])),(293,(fzE true (eI .i64) [1])),(294,(fzE true (eI .i64) [1]))],[]⟩) (zbl.m0 [.d,.d,.d,.d,.d,.d,.d,.d,.d,.d,.f,.f,.f] rfl (msq (ms rfl ⟨qcb,⟨qcb,qcb⟩⟩ (ms rfl ⟨qcb,qcb,qcb,qcb⟩ (mf rfl (zal (e:=(eI .i64)) (t:=true) rfl rfl (.inl rfl) rfl rfl (fun k h=>by cases h; exact qaf _) (fun h=>by cases h<;>rfl)) (mf rfl (zal (e:=(eI .i64)) (t:=true) rfl rfl (.inl rfl) rfl rfl (fun k h=>by cases h; exact qaf _) (fun h=>by cases h<;>rfl)) (mf rfl (zal (e:=(eI .i64)) (t:=true) rfl rfl (.inl rfl) rfl rfl (fun k h=>by cases h; exact qaf _) (fun h=>by cases h<;>rfl)) trivial)))))) trivial) (zac ?_);obtain⟨r212,g213,j3⟩:=bind_some j3;try simp only[rnA]
  refine EvL.fnS (zas g213) rfl rfl (.cons (zad _ _ (fun h=>h.elim (fun h=>nomatch h) (fun h=>nomatch h))) (.cons (zad _ _ (fun h=>h.elim (fun h=>nomatch h) (fun h=>nomatch h))) (.cons (zad _ _ (fun h=>h.elim (fun h=>nomatch h) (fun h=>nomatch h))) .nil))) ⟨(zab _ _),(zab _ _),(zab _ _),qcb⟩ ⟨(zab _ _),(zab _ _),(zab _ _),qcb⟩ ?_;obtain⟨r214,g215,j3⟩:=bind_some j3;try simp only[rnA,Nat.reduceLT]
  refine EvL.fn (zbi g215) rfl rfl (.cons (.zaG (.cons (zaa _ _ (fun h=>nomatch h)) (.cons (zaa _ _ (fun h=>nomatch h)) (.cons (zaa _ _ (fun h=>nomatch h)) .nil)))) (.cons (.zaG (.cons (zaa _ _ (fun h=>nomatch h)) (.cons (zaa _ _ (fun h=>nomatch h)) (.cons (zaa _ _ (fun h=>nomatch h)) .nil)))) .nil)) ?_;obtain⟨r216,g217,j3⟩:=bind_some j3;try simp only[rnA,Nat.reduceEqDiff,Nat.reduceLT]
  refine EvL.fnv rfl rfl (zan g217) rfl (.cons (.zaG (.cons (zaa _ _ (fun h=>nomatch h)) (.cons (zaa _ _ (fun h=>nomatch h)) (.cons (zaa _ _ (fun h=>nomatch h)) .nil)))) (.cons (.lit _) (.cons (.fptr (fun h=>nomatch h) rfl ((eI .i64).snp (t:=false) (t':=false) r210 (fun h=>nomatch h)).get) .nil))) ?_;try simp only[rnA,Nat.reduceEqDiff,Nat.reduceLT]
  replace j3:=qab j3; subst j3;exact lfj hT3 rfl (wm0 [] (by exact trivial))
 rintro v12'' rfl;rw[congrFun hT3 v12''];refine zac ?_;try simp only[rnA]
 obtain⟨o4,j4,h⟩:=bind_some h;obtain⟨T4,hT4⟩:=mkT fun a:Bool=>⟨313,[(0,(dB a))],[]⟩
 refine EvL.jn T4 (fun a=>a=o4) ?_ ?_
 ·refine zac ?_;obtain⟨r218,g219,j4⟩:=bind_some j4;try simp only[rnA,Nat.reduceLT]
  refine EvL.fn (zfW g219) rfl rfl .nil ?_;try simp only[rnA,Nat.reduceEqDiff,Nat.reduceLT]
  cases c220:r218
  ·rw[c220,cond_false]at j4;try simp only[rnA,Nat.reduceEqDiff,Nat.reduceLT]
   refine EvL.dead 6 0 [307] ⟨rfl,qcb⟩ rfl ?_;try simp only[rnA]
   replace j4:=qab j4; subst j4;exact lfj hT4 rfl (wm0 [] (by exact trivial))
  rw[c220,cond_true]at j4;try simp only[rnA,Nat.reduceEqDiff,Nat.reduceLT]
  cases c221:v12''
  ·rw[c221,cond_false]at j4;try simp only[rnA,Nat.reduceEqDiff,reduceIte,Nat.reduceLT,Nat.reduceAdd,Nat.reduceLeDiff,Nat.reduceMul,Nat.reduceSub,Int.reduceLE,Int.reduceLT,Int.reduceBEq,Nat.reduceBEq,reduceCtorEq,zae,c3,c220,c221]
   refine EvL.dead 6 0 [307] ⟨rfl,qcb⟩ rfl ?_;try simp only[rnA]
   replace j4:=qab j4; subst j4;exact lfj hT4 rfl (wm0 [] (by exact trivial))
  rw[c221,cond_true]at j4;obtain⟨r222,g223,j4⟩:=bind_some j4;try simp only[rnA,Nat.reduceEqDiff,reduceIte,Nat.reduceLT,Nat.reduceAdd,Nat.reduceLeDiff,Nat.reduceMul,Nat.reduceSub,Int.reduceLE,Int.reduceLT,Int.reduceBEq,Nat.reduceBEq,reduceCtorEq,zae,c3,c220,c221]
  refine EvL.fn (zcB g223) rfl rfl .nil ?_;try simp only[rnA,Nat.reduceEqDiff,Nat.reduceLT]
  refine EvL.zcY (S':=⟨313,[(307,(dB true)),(308,(.agg [(fzE true (eI .i64) r222.vars),(fzE true (eI .i64) r222.cards),(fzE true (eI .i64) r222.w)])),(309,(fzE true (eI .i64) [1]))],[]⟩) (zbl.m0 [.f] rfl (msq (ms rfl ⟨qcb,qcb,qcb,qcb⟩ (mf rfl (zal (e:=(eI .i64)) (t:=true) rfl rfl (.inl rfl) rfl rfl (fun k h=>by cases h; exact qaf _) (fun h=>by cases h<;>rfl)) trivial))) trivial) (zac ?_);obtain⟨r224,g225,j4⟩:=bind_some j4;try simp only[rnA]
  refine EvL.fnS (zas g225) rfl rfl (.cons (zbx (eI .i64)) (.cons (zbx (eI .i64)) (.cons (zad _ _ (fun h=>h.elim (fun h=>nomatch h) (fun h=>nomatch h))) .nil))) ⟨(zab _ _),(zab _ _),(zab _ _),qcb⟩ ⟨(zab _ _),(zab _ _),(zab _ _),qcb⟩ ?_;obtain⟨r226,g227,j4⟩:=bind_some j4;try simp only[rnA,Nat.reduceLT]
  refine EvL.fn (zeQ g227) rfl rfl (.cons (.zaG (.cons (zaa _ _ (fun h=>nomatch h)) (.cons (zaa _ _ (fun h=>nomatch h)) (.cons (zaa _ _ (fun h=>nomatch h)) .nil)))) (.cons (.zaG (.cons (zaa _ _ (fun h=>nomatch h)) (.cons (zaa _ _ (fun h=>nomatch h)) (.cons (zaa _ _ (fun h=>nomatch h)) .nil)))) .nil)) ?_;try simp only[rnA,Nat.reduceEqDiff,Nat.reduceLT]
  replace j4:=qab j4; subst j4;exact lfj hT4 rfl (wm0 [] (by exact trivial))
 rintro v0 rfl;rw[congrFun hT4 v0];refine zac ?_;try simp only[rnA]
 replace h:=qab h; subst h;exact zcV.ret rfl (.lit _)
end Go.Dc
