/-
 What l09_EliminateKnown computes. Conditions: none.
-/
import Derived.Test.YtbjogdohfhdaiaaEkJ6
set_option linter.unusedSimpArgs false
set_option linter.unusedVariables false
set_option maxRecDepth 100000
set_option maxHeartbeats 4000000
namespace Go.Dc
open Go Go.Mx Go.Lx Go.Proofs
def zbr:Nat→Int→(List S_api_Node)→Option (List S_api_Node)
 | 0,_,_=>none
 | n+1,v165,l25=>(
bif (decide (v165<8))then(
(ze9 56 l25 [(S_api_Node.mk 2 [] [[20,40]])]).bind fun y39=>
zbr n (w64 (v165+1)) y39)
else(
some l25))
def zb0(N:Nat):Option Bool:=
(zfb N).bind fun r1=>
bif r1 then(
(zdS).bind fun r4=>
(zai N r4 [(-1),(-1),(-1)] 1 [2,0]).bind fun r6=>
(zai N r4 [(-1),(-1),1] 0 [1,2]).bind fun r8=>
(zai N r4 [(-1),1,(-1)] 1 [0,2]).bind fun r10=>
(zap N r4 [(-1),(-1),0] 1).bind fun r12=>
(zap N r4 [(-1),0,(-1)] 2).bind fun r14=>
(zap N r4 [(-1),0,(-1)] 1).bind fun r16=>
(zai N r4 [(-1),1,1] 0 [1,2]).bind fun r18=>
(zcn N r4 [(-1),1,1] 1 [0,2]).bind fun r20=>
(zai N r4 [(-1),(-1),(-1)] 1 [0]).bind fun r22=>
(zai N r4 [(-1),(-1),(-1)] 1 [0,1]).bind fun r24=>
(zai N r4 [(-1),(-1),(-1)] 1 [0,0]).bind fun r26=>
(zaW r4 [(-1),(-1),(-1)] 3 [0,1,2]).bind fun r28=>
(zap N r4 [(-1),(-1),2] 1).bind fun r30=>
(zap N r4 [(-1),(-1),(-1)] (-1)).bind fun r32=>
(zaW (S_api_Net.mk 0 []) [] 9 []).bind fun r34=>
(zaW (S_api_Net.mk 60 [(S_api_Node.mk 1 [] [[60]])]) [0] 0 []).bind fun r36=>
((zbr (8 - 0+2:Int).toNat 0 []:Option (List S_api_Node))).bind fun l25=>
(zai N (S_api_Net.mk 60 l25) [0,0,0,0,0,0,0,(-1)] 7 [0,1,2,3,4,5,6]).bind fun r41=>
(zap N (S_api_Net.mk 2 [(S_api_Node.mk 2 [] [[1,1]]),(S_api_Node.mk 2 [] [[1,1]]),(S_api_Node.mk 2 [0,1] [[2,0],[1,1],[1,1],[0,2]])]) [(-1),(-1),0] 0).bind fun r43=>
(zap N (S_api_Net.mk 2 [(S_api_Node.mk 2 [] [[1,1]]),(S_api_Node.mk 2 [] [[1,1]]),(S_api_Node.mk 2 [0,1] [[2,0],[1,1],[1,1],[0,2]])]) [(-1),(-1),(-1)] 0).bind fun r45=>
((bif (r18.2 == 7)then(
bif (r20.2 == 7)then(
bif (r22.2 == 2)then(
bif (r24.2 == 2)then(
bif (r26.2 == 2)then(
bif (r28.2.2 == 2)then(
bif (r30.2 == 2)then(
bif (r32.2 == 2)then(
some (r34.2.2 == 50))
else(
some false))
else(
some false))
else(
some false))
else(
some false))
else(
some false))
else(
some false))
else(
some false))
else(
some false):Option Bool)).bind fun v47=>
((bif v47 then(
(zcX N r6.1 r6.2 5 3 8).bind fun r56=>
bif r56 then(
(zcX N r8.1 r8.2 2 3 5).bind fun r59=>
bif r59 then(
(zcX N r10.1 r10.2 0 1 1).bind fun r62=>
bif r62 then(
bif (r12.2 == 0)then(
bif (r12.1 == 7)then(
bif (r14.2 == 0)then(
bif (r14.1 == 4)then(
bif (r16.2 == 0)then(
bif (r16.1 == 0)then(
bif (r36.2.2 == 0)then(
bif (r36.1 == 0)then(
bif (r36.2.1 == 1)then(
(zcX N r41.1 r41.2 1 2 3).bind fun r74=>
bif r74 then(
bif (r43.1 == 7)then(
bif (r43.2 == 0)then(
bif (r45.1 == 1)then(
some (r45.2 == 0))
else(
some false))
else(
some false))
else(
some false))
else(
some false))
else(
some false))
else(
some false))
else(
some false))
else(
some false))
else(
some false))
else(
some false))
else(
some false))
else(
some false))
else(
some false))
else(
some false))
else(
some false))
else(
some false))
else(
some false):Option Bool)).bind fun v0=>
some v0)
else(
some false)
def zdY:C:=
 .seq (rg [oJ 0 false])
 (.seq (.seq (rg [⟨some 48,.call 40 [],none⟩,
 ⟨some 49,.un .not (.s 48),none⟩])
 (.cond (.s 49) (.seq (rg [oJ 0 false])
 (.ret))
 (.skip)))
 (.seq (rg [⟨some 50,.call 41 [],none⟩,
 ⟨some 51,.bsl 1 3 [(.int .i64 0)] [(0,(.c (.int .i64 (-1)))),(1,(.c (.int .i64 (-1)))),(2,(.c (.int .i64 (-1))))],none⟩,
 ⟨some 1,.alloc [(.int .i64 0),(.slice none 0 0)],none⟩,
 oS 2 1 50,
 oM 2 51])
 (.seq (rg [oN 53 2 1,
 oM 54 2,
 ⟨some 55,.bsl 1 2 [(.int .i64 0)] [(0,(.c (.int .i64 2))),(1,(.c (.int .i64 0)))],none⟩,
 ⟨some 56,.call 42 [(.s 53),(.s 54),(.c (.int .i64 1)),(.s 55)],none⟩,
 oM 52 56,
 oX 57 52 0,
 oX 58 52 1,
 oM 3 57,
 oM 4 58])
 (.seq (rg [oN 60 2 1,
 ⟨some 61,.bsl 1 3 [(.int .i64 0)] [(0,(.c (.int .i64 (-1)))),(1,(.c (.int .i64 (-1)))),(2,(.c (.int .i64 1)))],none⟩,
 ⟨some 62,.bsl 1 2 [(.int .i64 0)] [(0,(.c (.int .i64 1))),(1,(.c (.int .i64 2)))],none⟩,
 ⟨some 63,.call 42 [(.s 60),(.s 61),(.c (.int .i64 0)),(.s 62)],none⟩,
 oM 59 63,
 oX 64 59 0,
 oX 65 59 1,
 oM 5 64,
 oM 6 65])
 (.seq (rg [oN 67 2 1,
 ⟨some 68,.bsl 1 3 [(.int .i64 0)] [(0,(.c (.int .i64 (-1)))),(1,(.c (.int .i64 1))),(2,(.c (.int .i64 (-1))))],none⟩,
 ⟨some 69,.bsl 1 2 [(.int .i64 0)] [(0,(.c (.int .i64 0))),(1,(.c (.int .i64 2)))],none⟩,
 ⟨some 70,.call 42 [(.s 67),(.s 68),(.c (.int .i64 1)),(.s 69)],none⟩,
 oM 66 70,
 oX 71 66 0,
 oX 72 66 1,
 oM 7 71,
 oM 8 72])
 (.seq (rg [oN 74 2 1,
 ⟨some 75,.bsl 1 3 [(.int .i64 0)] [(0,(.c (.int .i64 (-1)))),(1,(.c (.int .i64 (-1)))),(2,(.c (.int .i64 0)))],none⟩,
 ⟨some 76,.call 43 [(.s 74),(.s 75),(.c (.int .i64 1))],none⟩,
 oM 73 76,
 oX 77 73 0,
 oX 78 73 1,
 oM 9 77,
 oM 10 78])
 (.seq (rg [oN 80 2 1,
 ⟨some 81,.bsl 1 3 [(.int .i64 0)] [(0,(.c (.int .i64 (-1)))),(1,(.c (.int .i64 0))),(2,(.c (.int .i64 (-1))))],none⟩,
 ⟨some 82,.call 43 [(.s 80),(.s 81),(.c (.int .i64 2))],none⟩,
 oM 79 82,
 oX 83 79 0,
 oX 84 79 1,
 oM 11 83,
 oM 12 84])
 (.seq (rg [oN 86 2 1,
 ⟨some 87,.bsl 1 3 [(.int .i64 0)] [(0,(.c (.int .i64 (-1)))),(1,(.c (.int .i64 0))),(2,(.c (.int .i64 (-1))))],none⟩,
 ⟨some 88,.call 43 [(.s 86),(.s 87),(.c (.int .i64 1))],none⟩,
 oM 85 88,
 oX 89 85 0,
 oX 90 85 1,
 oM 13 89,
 oM 14 90])
 (.seq (rg [oN 92 2 1,
 ⟨some 93,.bsl 1 3 [(.int .i64 0)] [(0,(.c (.int .i64 (-1)))),(1,(.c (.int .i64 1))),(2,(.c (.int .i64 1)))],none⟩,
 ⟨some 94,.bsl 1 2 [(.int .i64 0)] [(0,(.c (.int .i64 1))),(1,(.c (.int .i64 2)))],none⟩,
 ⟨some 95,.call 42 [(.s 92),(.s 93),(.c (.int .i64 0)),(.s 94)],none⟩,
 oM 91 95,
 oX 96 91 0,
 oX 97 91 1,
 oM 15 96,
 oM 16 97])
 (.seq (rg [oN 99 2 1,
 ⟨some 100,.bsl 1 3 [(.int .i64 0)] [(0,(.c (.int .i64 (-1)))),(1,(.c (.int .i64 1))),(2,(.c (.int .i64 1)))],none⟩,
 ⟨some 101,.bsl 1 2 [(.int .i64 0)] [(0,(.c (.int .i64 0))),(1,(.c (.int .i64 2)))],none⟩,
 ⟨some 102,.call 44 [(.s 99),(.s 100),(.c (.int .i64 1)),(.s 101)],none⟩,
 oM 98 102,
 oX 103 98 0,
 oX 104 98 1,
 oM 17 103,
 oM 18 104])
 (.seq (rg [oN 106 2 1,
 oM 107 2,
 ⟨some 108,.bsl 1 1 [(.int .i64 0)] [(0,(.c (.int .i64 0)))],none⟩,
 ⟨some 109,.call 42 [(.s 106),(.s 107),(.c (.int .i64 1)),(.s 108)],none⟩,
 oM 105 109,
 oX 110 105 0,
 oX 111 105 1,
 oM 19 110,
 oM 20 111])
 (.seq (rg [oN 113 2 1,
 oM 114 2,
 ⟨some 115,.bsl 1 2 [(.int .i64 0)] [(0,(.c (.int .i64 0))),(1,(.c (.int .i64 1)))],none⟩,
 ⟨some 116,.call 42 [(.s 113),(.s 114),(.c (.int .i64 1)),(.s 115)],none⟩,
 oM 112 116,
 oX 117 112 0,
 oX 118 112 1,
 oM 21 117,
 oM 22 118])
 (.seq (rg [oN 120 2 1,
 oM 121 2,
 ⟨some 122,.bsl 1 2 [(.int .i64 0)] [(0,(.c (.int .i64 0))),(1,(.c (.int .i64 0)))],none⟩,
 ⟨some 123,.call 42 [(.s 120),(.s 121),(.c (.int .i64 1)),(.s 122)],none⟩,
 oM 119 123,
 oX 124 119 0,
 oX 125 119 1,
 oM 23 124,
 oM 24 125])
 (.seq (rg [oN 127 2 1,
 oM 128 2,
 ⟨some 129,.bsl 1 3 [(.int .i64 0)] [(0,(.c (.int .i64 0))),(1,(.c (.int .i64 1))),(2,(.c (.int .i64 2)))],none⟩,
 ⟨some 130,.call 45 [(.s 127),(.s 128),(.c (.int .i64 3)),(.s 129)],none⟩,
 oM 126 130,
 oX 131 126 0,
 oX 132 126 1,
 oX 133 126 2,
 oM 25 131,
 oM 26 132,
 oM 27 133])
 (.seq (rg [oN 135 2 1,
 ⟨some 136,.bsl 1 3 [(.int .i64 0)] [(0,(.c (.int .i64 (-1)))),(1,(.c (.int .i64 (-1)))),(2,(.c (.int .i64 2)))],none⟩,
 ⟨some 137,.call 43 [(.s 135),(.s 136),(.c (.int .i64 1))],none⟩,
 oM 134 137,
 oX 138 134 0,
 oX 139 134 1,
 oM 28 138,
 oM 29 139])
 (.seq (rg [oN 141 2 1,
 oM 142 2,
 ⟨some 143,.call 43 [(.s 141),(.s 142),(.c (.int .i64 (-1)))],none⟩,
 oM 140 143,
 oX 144 140 0,
 oX 145 140 1,
 oM 30 144,
 oM 31 145])
 (.seq (rg [⟨some 147,.build [(.int .i64 0),(.slice none 0 0)] [],none⟩,
 ⟨some 148,.call 45 [(.s 147),(.c (.slice none 0 0)),(.c (.int .i64 9)),(.c (.slice none 0 0))],none⟩,
 oM 146 148,
 oX 149 146 0,
 oX 150 146 1,
 oX 151 146 2,
 oM 32 149,
 oM 33 150,
 oM 34 151])
 (.seq (rg [⟨some 152,.bsl 1 1 [(.int .i64 0)] [(0,(.c (.int .i64 60)))],none⟩,
 ⟨some 153,.bsl 1 1 [(.slice none 0 0)] [(0,(.s 152))],none⟩,
 ⟨some 154,.build [(.int .i64 0),(.slice none 0 0),(.slice none 0 0)] [(0,1,(.c (.int .i64 1))),(2,1,(.s 153))],none⟩,
 ⟨some 155,.bsl 3 1 [(.int .i64 0),(.slice none 0 0),(.slice none 0 0)] [(0,(.s 154))],none⟩,
 ⟨some 156,.build [(.int .i64 0),(.slice none 0 0)] [(0,1,(.c (.int .i64 60))),(1,1,(.s 155))],none⟩,
 ⟨some 35,.alloc [(.int .i64 0),(.slice none 0 0)],none⟩,
 oS 2 35 156])
 (.seq (rg [oN 158 2 35,
 ⟨some 159,.bsl 1 1 [(.int .i64 0)] [(0,(.c (.int .i64 0)))],none⟩,
 ⟨some 160,.call 45 [(.s 158),(.s 159),(.c (.int .i64 0)),(.c (.slice none 0 0))],none⟩,
 oM 157 160,
 oX 161 157 0,
 oX 162 157 1,
 oX 163 157 2,
 oM 36 161,
 oM 37 162,
 oM 38 163])
 (.seq (rg [⟨some 164,.build [(.int .i64 0),(.slice none 0 0)] [(0,1,(.c (.int .i64 60)))],none⟩,
 ⟨some 39,.alloc [(.int .i64 0),(.slice none 0 0)],none⟩,
 oS 2 39 164])
 (.seq (.seq (rg [oK 165 0])
 (.scope (.block 0 (.loop (.seq (rg [oD 166 .lss 165 8])
 (.seq (.cond (.s 166) (.skip)
 (.exit 0))
 (.seq (.block 1 (rg [oF 167 1 39,
 oL 168 167,
 ⟨some 169,.bsl 1 2 [(.int .i64 0)] [(0,(.c (.int .i64 20))),(1,(.c (.int .i64 40)))],none⟩,
 ⟨some 170,.bsl 1 1 [(.slice none 0 0)] [(0,(.s 169))],none⟩,
 ⟨some 171,.build [(.int .i64 0),(.slice none 0 0),(.slice none 0 0)] [(0,1,(.c (.int .i64 2))),(2,1,(.s 170))],none⟩,
 ⟨some 172,.bsl 3 1 [(.int .i64 0),(.slice none 0 0),(.slice none 0 0)] [(0,(.s 171))],none⟩,
 oT 173 3 56 168 172,
 oF 174 1 39,
 oS 1 174 173]))
 (rg [oD 175 .add 165 1,
 oM 165 175]))))))))
 (.seq (rg [oN 177 2 39,
 ⟨some 178,.bsl 1 8 [(.int .i64 0)] [(0,(.c (.int .i64 0))),(1,(.c (.int .i64 0))),(2,(.c (.int .i64 0))),(3,(.c (.int .i64 0))),(4,(.c (.int .i64 0))),(5,(.c (.int .i64 0))),(6,(.c (.int .i64 0))),(7,(.c (.int .i64 (-1))))],none⟩,
 ⟨some 179,.bsl 1 7 [(.int .i64 0)] [(0,(.c (.int .i64 0))),(1,(.c (.int .i64 1))),(2,(.c (.int .i64 2))),(3,(.c (.int .i64 3))),(4,(.c (.int .i64 4))),(5,(.c (.int .i64 5))),(6,(.c (.int .i64 6)))],none⟩,
 ⟨some 180,.call 42 [(.s 177),(.s 178),(.c (.int .i64 7)),(.s 179)],none⟩,
 oM 176 180,
 oX 181 176 0,
 oX 182 176 1,
 oM 40 181,
 oM 41 182])
 (.seq (rg [⟨some 183,.bsl 1 2 [(.int .i64 0)] [(0,(.c (.int .i64 1))),(1,(.c (.int .i64 1)))],none⟩,
 ⟨some 184,.bsl 1 1 [(.slice none 0 0)] [(0,(.s 183))],none⟩,
 ⟨some 185,.build [(.int .i64 0),(.slice none 0 0),(.slice none 0 0)] [(0,1,(.c (.int .i64 2))),(2,1,(.s 184))],none⟩,
 ⟨some 186,.bsl 1 2 [(.int .i64 0)] [(0,(.c (.int .i64 1))),(1,(.c (.int .i64 1)))],none⟩,
 ⟨some 187,.bsl 1 1 [(.slice none 0 0)] [(0,(.s 186))],none⟩,
 ⟨some 188,.build [(.int .i64 0),(.slice none 0 0),(.slice none 0 0)] [(0,1,(.c (.int .i64 2))),(2,1,(.s 187))],none⟩,
 ⟨some 189,.bsl 1 2 [(.int .i64 0)] [(0,(.c (.int .i64 0))),(1,(.c (.int .i64 1)))],none⟩,
 ⟨some 190,.bsl 1 2 [(.int .i64 0)] [(0,(.c (.int .i64 2))),(1,(.c (.int .i64 0)))],none⟩,
 ⟨some 191,.bsl 1 2 [(.int .i64 0)] [(0,(.c (.int .i64 1))),(1,(.c (.int .i64 1)))],none⟩,
 ⟨some 192,.bsl 1 2 [(.int .i64 0)] [(0,(.c (.int .i64 1))),(1,(.c (.int .i64 1)))],none⟩,
 ⟨some 193,.bsl 1 2 [(.int .i64 0)] [(0,(.c (.int .i64 0))),(1,(.c (.int .i64 2)))],none⟩,
 ⟨some 194,.bsl 1 4 [(.slice none 0 0)] [(0,(.s 190)),(1,(.s 191)),(2,(.s 192)),(3,(.s 193))],none⟩,
 ⟨some 195,.build [(.int .i64 0),(.slice none 0 0),(.slice none 0 0)] [(0,1,(.c (.int .i64 2))),(1,1,(.s 189)),(2,1,(.s 194))],none⟩,
 ⟨some 196,.bsl 3 3 [(.int .i64 0),(.slice none 0 0),(.slice none 0 0)] [(0,(.s 185)),(1,(.s 188)),(2,(.s 195))],none⟩,
 ⟨some 197,.build [(.int .i64 0),(.slice none 0 0)] [(0,1,(.c (.int .i64 2))),(1,1,(.s 196))],none⟩,
 ⟨some 42,.alloc [(.int .i64 0),(.slice none 0 0)],none⟩,
 oS 2 42 197])
 (.seq (rg [oN 199 2 42,
 ⟨some 200,.bsl 1 3 [(.int .i64 0)] [(0,(.c (.int .i64 (-1)))),(1,(.c (.int .i64 (-1)))),(2,(.c (.int .i64 0)))],none⟩,
 ⟨some 201,.call 43 [(.s 199),(.s 200),(.c (.int .i64 0))],none⟩,
 oM 198 201,
 oX 202 198 0,
 oX 203 198 1,
 oM 43 202,
 oM 44 203])
 (.seq (rg [oN 205 2 42,
 oM 206 2,
 ⟨some 207,.call 43 [(.s 205),(.s 206),(.c (.int .i64 0))],none⟩,
 oM 204 207,
 oX 208 204 0,
 oX 209 204 1,
 oM 45 208,
 oM 46 209])
 (.seq (.scope (rg [oM 210 16,
 oD 211 .eql 210 7,
 oM 212 211,
 oMg 213 18 212 true,
 oDg 214 .eql 213 7 212 true,
 ⟨some 215,.pick (.s 212) (.s 214) (.c (.bool false)),none⟩,
 oM 216 215,
 oMg 217 20 216 true,
 oDg 218 .eql 217 2 216 true,
 ⟨some 219,.pick (.s 216) (.s 218) (.c (.bool false)),none⟩,
 oM 220 219,
 oMg 221 22 220 true,
 oDg 222 .eql 221 2 220 true,
 ⟨some 223,.pick (.s 220) (.s 222) (.c (.bool false)),none⟩,
 oM 224 223,
 oMg 225 24 224 true,
 oDg 226 .eql 225 2 224 true,
 ⟨some 227,.pick (.s 224) (.s 226) (.c (.bool false)),none⟩,
 oM 228 227,
 oMg 229 27 228 true,
 oDg 230 .eql 229 2 228 true,
 ⟨some 231,.pick (.s 228) (.s 230) (.c (.bool false)),none⟩,
 oM 232 231,
 oMg 233 29 232 true,
 oDg 234 .eql 233 2 232 true,
 ⟨some 235,.pick (.s 232) (.s 234) (.c (.bool false)),none⟩,
 oM 236 235,
 oMg 237 31 236 true,
 oDg 238 .eql 237 2 236 true,
 ⟨some 239,.pick (.s 236) (.s 238) (.c (.bool false)),none⟩,
 oM 240 239,
 oMg 241 34 240 true,
 oDg 242 .eql 241 50 240 true,
 ⟨some 243,.pick (.s 240) (.s 242) (.c (.bool false)),none⟩,
 oM 47 243]))
 (.seq (.scope (rg [oM 244 47,
 oM 245 244,
 oMg 246 3 245 true,
 oMg 247 4 245 true,
 ⟨some 248,.call 46 [(.s 246),(.s 247),(.c (.int .i64 5)),(.c (.int .i64 3)),(.c (.int .i64 8))],some (245,true)⟩,
 ⟨some 249,.pick (.s 245) (.s 248) (.c (.bool false)),none⟩,
 oM 250 249,
 oMg 251 5 250 true,
 oMg 252 6 250 true,
 ⟨some 253,.call 46 [(.s 251),(.s 252),(.c (.int .i64 2)),(.c (.int .i64 3)),(.c (.int .i64 5))],some (250,true)⟩,
 ⟨some 254,.pick (.s 250) (.s 253) (.c (.bool false)),none⟩,
 oM 255 254,
 oMg 256 7 255 true,
 oMg 257 8 255 true,
 ⟨some 258,.call 46 [(.s 256),(.s 257),(.c (.int .i64 0)),(.c (.int .i64 1)),(.c (.int .i64 1))],some (255,true)⟩,
 ⟨some 259,.pick (.s 255) (.s 258) (.c (.bool false)),none⟩,
 oM 260 259,
 oMg 261 10 260 true,
 oDg 262 .eql 261 0 260 true,
 ⟨some 263,.pick (.s 260) (.s 262) (.c (.bool false)),none⟩,
 oM 264 263,
 oMg 265 9 264 true,
 ⟨some 266,.bin .eql (.s 265) (.c (.int .u64 7)),some (264,true)⟩,
 ⟨some 267,.pick (.s 264) (.s 266) (.c (.bool false)),none⟩,
 oM 268 267,
 oMg 269 12 268 true,
 oDg 270 .eql 269 0 268 true,
 ⟨some 271,.pick (.s 268) (.s 270) (.c (.bool false)),none⟩,
 oM 272 271,
 oMg 273 11 272 true,
 ⟨some 274,.bin .eql (.s 273) (.c (.int .u64 4)),some (272,true)⟩,
 ⟨some 275,.pick (.s 272) (.s 274) (.c (.bool false)),none⟩,
 oM 276 275,
 oMg 277 14 276 true,
 oDg 278 .eql 277 0 276 true,
 ⟨some 279,.pick (.s 276) (.s 278) (.c (.bool false)),none⟩,
 oM 280 279,
 oMg 281 13 280 true,
 ⟨some 282,.bin .eql (.s 281) (.c (.int .u64 0)),some (280,true)⟩,
 ⟨some 283,.pick (.s 280) (.s 282) (.c (.bool false)),none⟩,
 oM 284 283,
 oMg 285 38 284 true,
 oDg 286 .eql 285 0 284 true,
 ⟨some 287,.pick (.s 284) (.s 286) (.c (.bool false)),none⟩,
 oM 288 287,
 oMg 289 36 288 true,
 oDg 290 .eql 289 0 288 true,
 ⟨some 291,.pick (.s 288) (.s 290) (.c (.bool false)),none⟩,
 oM 292 291,
 oMg 293 37 292 true,
 oDg 294 .eql 293 1 292 true,
 ⟨some 295,.pick (.s 292) (.s 294) (.c (.bool false)),none⟩,
 oM 296 295,
 oMg 297 40 296 true,
 oMg 298 41 296 true,
 ⟨some 299,.call 46 [(.s 297),(.s 298),(.c (.int .i64 1)),(.c (.int .i64 2)),(.c (.int .i64 3))],some (296,true)⟩,
 ⟨some 300,.pick (.s 296) (.s 299) (.c (.bool false)),none⟩,
 oM 301 300,
 oMg 302 43 301 true,
 ⟨some 303,.bin .eql (.s 302) (.c (.int .u64 7)),some (301,true)⟩,
 ⟨some 304,.pick (.s 301) (.s 303) (.c (.bool false)),none⟩,
 oM 305 304,
 oMg 306 44 305 true,
 oDg 307 .eql 306 0 305 true,
 ⟨some 308,.pick (.s 305) (.s 307) (.c (.bool false)),none⟩,
 oM 309 308,
 oMg 310 45 309 true,
 ⟨some 311,.bin .eql (.s 310) (.c (.int .u64 1)),some (309,true)⟩,
 ⟨some 312,.pick (.s 309) (.s 311) (.c (.bool false)),none⟩,
 oM 313 312,
 oMg 314 46 313 true,
 oDg 315 .eql 314 0 313 true,
 ⟨some 316,.pick (.s 313) (.s 315) (.c (.bool false)),none⟩,
 oM 0 316]))
 (.ret))))))))))))))))))))))))))))
theorem zfx:zhM mC 7=some (317,zdY,[.tmp 0],false):=zbs (by kernel_rfl)
theorem zfU{N:Nat}{r:Bool}(h:zb0 N=some r):Lx.Fn mC 7 [] (dB r):=by
 refine Fn.of zfx (zaZ rfl) (qac rfl) ?_;unfold zb0 at h;simp only[zdY,zlX];refine zaa ?_;obtain⟨r1,g2,h⟩:=bind_some h;try simp only[rnA,Nat.reduceLT]
 refine EvL.fn (zlQ g2) rfl rfl .nil ?_;try simp only[rnA,Nat.reduceEqDiff,Nat.reduceLT,reduceCtorEq]
 cases c3:r1
 ·rw[c3,cond_false]at h;try simp only[rnA,Nat.reduceLT]
  replace h:=qaa h; subst h;exact za0.ret rfl (.lit _)
 rw[c3,cond_true]at h;obtain⟨r4,g5,h⟩:=bind_some h;try simp only[rnA]
 refine EvL.fn (zg9 g5) rfl rfl .nil ?_;obtain⟨r6,g7,h⟩:=bind_some h;try simp only[rnA,Nat.reduceEqDiff,Nat.reduceLT,Nat.reduceAdd,Nat.reduceLeDiff,reduceCtorEq]
 refine EvL.fn (zax g7) rfl rfl (.cons (.za8 (.cons (.lit _) (.cons (zad _ _ (fun h=>nomatch h)) .nil))) (.cons (zaj (e:=(eI .i64)) (t:=true) rfl (.inl rfl) rfl rfl (fun k h=>by cases h; exact qae _) (fun h=>nomatch h)) (.cons (.lit _) (.cons (zaj (e:=(eI .i64)) (t:=true) rfl (.inl rfl) rfl rfl (fun k h=>by cases h; exact qae _) (fun h=>nomatch h)) .nil)))) ?_;obtain⟨r8,g9,h⟩:=bind_some h;try simp only[rnA,Nat.reduceEqDiff,Nat.reduceLT,Nat.reduceAdd,Nat.reduceLeDiff,reduceCtorEq]
 refine EvL.fn (zax g9) rfl rfl (.cons (.za8 (.cons (.lit _) (.cons (zad _ _ (fun h=>nomatch h)) .nil))) (.cons (zaj (e:=(eI .i64)) (t:=true) rfl (.inl rfl) rfl rfl (fun k h=>by cases h; exact qae _) (fun h=>nomatch h)) (.cons (.lit _) (.cons (zaj (e:=(eI .i64)) (t:=true) rfl (.inl rfl) rfl rfl (fun k h=>by cases h; exact qae _) (fun h=>nomatch h)) .nil)))) ?_;obtain⟨r10,g11,h⟩:=bind_some h;try simp only[rnA,Nat.reduceEqDiff,Nat.reduceLT,Nat.reduceAdd,Nat.reduceLeDiff,reduceCtorEq]
 refine EvL.fn (zax g11) rfl rfl (.cons (.za8 (.cons (.lit _) (.cons (zad _ _ (fun h=>nomatch h)) .nil))) (.cons (zaj (e:=(eI .i64)) (t:=true) rfl (.inl rfl) rfl rfl (fun k h=>by cases h; exact qae _) (fun h=>nomatch h)) (.cons (.lit _) (.cons (zaj (e:=(eI .i64)) (t:=true) rfl (.inl rfl) rfl rfl (fun k h=>by cases h; exact qae _) (fun h=>nomatch h)) .nil)))) ?_;obtain⟨r12,g13,h⟩:=bind_some h;try simp only[rnA,Nat.reduceEqDiff,Nat.reduceLT,Nat.reduceAdd,Nat.reduceLeDiff,reduceCtorEq]
 refine EvL.fn (zaO g13) rfl rfl (.cons (.za8 (.cons (.lit _) (.cons (zad _ _ (fun h=>nomatch h)) .nil))) (.cons (zaj (e:=(eI .i64)) (t:=true) rfl (.inl rfl) rfl rfl (fun k h=>by cases h; exact qae _) (fun h=>nomatch h)) (.cons (.lit _) .nil))) ?_;obtain⟨r14,g15,h⟩:=bind_some h;try simp only[rnA,Nat.reduceEqDiff,Nat.reduceLT,Nat.reduceAdd,Nat.reduceLeDiff,reduceCtorEq]
 refine EvL.fn (zaO g15) rfl rfl (.cons (.za8 (.cons (.lit _) (.cons (zad _ _ (fun h=>nomatch h)) .nil))) (.cons (zaj (e:=(eI .i64)) (t:=true) rfl (.inl rfl) rfl rfl (fun k h=>by cases h; exact qae _) (fun h=>nomatch h)) (.cons (.lit _) .nil))) ?_;obtain⟨r16,g17,h⟩:=bind_some h;try simp only[rnA,Nat.reduceEqDiff,Nat.reduceLT,Nat.reduceAdd,Nat.reduceLeDiff,reduceCtorEq]
 refine EvL.fn (zaO g17) rfl rfl (.cons (.za8 (.cons (.lit _) (.cons (zad _ _ (fun h=>nomatch h)) .nil))) (.cons (zaj (e:=(eI .i64)) (t:=true) rfl (.inl rfl) rfl rfl (fun k h=>by cases h; exact qae _) (fun h=>nomatch h)) (.cons (.lit _) .nil))) ?_;obtain⟨r18,g19,h⟩:=bind_some h;try simp only[rnA,Nat.reduceEqDiff,Nat.reduceLT,Nat.reduceAdd,Nat.reduceLeDiff,reduceCtorEq]
 refine EvL.fn (zax g19) rfl rfl (.cons (.za8 (.cons (.lit _) (.cons (zad _ _ (fun h=>nomatch h)) .nil))) (.cons (zaj (e:=(eI .i64)) (t:=true) rfl (.inl rfl) rfl rfl (fun k h=>by cases h; exact qae _) (fun h=>nomatch h)) (.cons (.lit _) (.cons (zaj (e:=(eI .i64)) (t:=true) rfl (.inl rfl) rfl rfl (fun k h=>by cases h; exact qae _) (fun h=>nomatch h)) .nil)))) ?_;obtain⟨r20,g21,h⟩:=bind_some h;try simp only[rnA,Nat.reduceEqDiff,Nat.reduceLT,Nat.reduceAdd,Nat.reduceLeDiff,reduceCtorEq]
 refine EvL.fn (zeX g21) rfl rfl (.cons (.za8 (.cons (.lit _) (.cons (zad _ _ (fun h=>nomatch h)) .nil))) (.cons (zaj (e:=(eI .i64)) (t:=true) rfl (.inl rfl) rfl rfl (fun k h=>by cases h; exact qae _) (fun h=>nomatch h)) (.cons (.lit _) (.cons (zaj (e:=(eI .i64)) (t:=true) rfl (.inl rfl) rfl rfl (fun k h=>by cases h; exact qae _) (fun h=>nomatch h)) .nil)))) ?_;obtain⟨r22,g23,h⟩:=bind_some h;try simp only[rnA,Nat.reduceEqDiff,Nat.reduceLT,Nat.reduceAdd,Nat.reduceLeDiff,reduceCtorEq]
 refine EvL.fn (zax g23) rfl rfl (.cons (.za8 (.cons (.lit _) (.cons (zad _ _ (fun h=>nomatch h)) .nil))) (.cons (zaj (e:=(eI .i64)) (t:=true) rfl (.inl rfl) rfl rfl (fun k h=>by cases h; exact qae _) (fun h=>nomatch h)) (.cons (.lit _) (.cons (zaj (e:=(eI .i64)) (t:=true) rfl (.inl rfl) rfl rfl (fun k h=>by cases h; exact qae _) (fun h=>nomatch h)) .nil)))) ?_;obtain⟨r24,g25,h⟩:=bind_some h;try simp only[rnA,Nat.reduceEqDiff,Nat.reduceLT,Nat.reduceAdd,Nat.reduceLeDiff,reduceCtorEq]
 refine EvL.fn (zax g25) rfl rfl (.cons (.za8 (.cons (.lit _) (.cons (zad _ _ (fun h=>nomatch h)) .nil))) (.cons (zaj (e:=(eI .i64)) (t:=true) rfl (.inl rfl) rfl rfl (fun k h=>by cases h; exact qae _) (fun h=>nomatch h)) (.cons (.lit _) (.cons (zaj (e:=(eI .i64)) (t:=true) rfl (.inl rfl) rfl rfl (fun k h=>by cases h; exact qae _) (fun h=>nomatch h)) .nil)))) ?_;obtain⟨r26,g27,h⟩:=bind_some h;try simp only[rnA,Nat.reduceEqDiff,Nat.reduceLT,Nat.reduceAdd,Nat.reduceLeDiff,reduceCtorEq]
 refine EvL.fn (zax g27) rfl rfl (.cons (.za8 (.cons (.lit _) (.cons (zad _ _ (fun h=>nomatch h)) .nil))) (.cons (zaj (e:=(eI .i64)) (t:=true) rfl (.inl rfl) rfl rfl (fun k h=>by cases h; exact qae _) (fun h=>nomatch h)) (.cons (.lit _) (.cons (zaj (e:=(eI .i64)) (t:=true) rfl (.inl rfl) rfl rfl (fun k h=>by cases h; exact qae _) (fun h=>nomatch h)) .nil)))) ?_;obtain⟨r28,g29,h⟩:=bind_some h;try simp only[rnA,Nat.reduceEqDiff,Nat.reduceLT,Nat.reduceAdd,Nat.reduceLeDiff,reduceCtorEq]
 refine EvL.fn (zcC g29) rfl rfl (.cons (.za8 (.cons (.lit _) (.cons (zad _ _ (fun h=>nomatch h)) .nil))) (.cons (zaj (e:=(eI .i64)) (t:=true) rfl (.inl rfl) rfl rfl (fun k h=>by cases h; exact qae _) (fun h=>nomatch h)) (.cons (.lit _) (.cons (zaj (e:=(eI .i64)) (t:=true) rfl (.inl rfl) rfl rfl (fun k h=>by cases h; exact qae _) (fun h=>nomatch h)) .nil)))) ?_;obtain⟨r30,g31,h⟩:=bind_some h;try simp only[rnA,Nat.reduceEqDiff,Nat.reduceLT,Nat.reduceAdd,Nat.reduceLeDiff,reduceCtorEq]
 refine EvL.fn (zaO g31) rfl rfl (.cons (.za8 (.cons (.lit _) (.cons (zad _ _ (fun h=>nomatch h)) .nil))) (.cons (zaj (e:=(eI .i64)) (t:=true) rfl (.inl rfl) rfl rfl (fun k h=>by cases h; exact qae _) (fun h=>nomatch h)) (.cons (.lit _) .nil))) ?_;obtain⟨r32,g33,h⟩:=bind_some h;try simp only[rnA,Nat.reduceEqDiff,Nat.reduceLT,Nat.reduceAdd,Nat.reduceLeDiff,reduceCtorEq]
 refine EvL.fn (zaO g33) rfl rfl (.cons (.za8 (.cons (.lit _) (.cons (zad _ _ (fun h=>nomatch h)) .nil))) (.cons (zaj (e:=(eI .i64)) (t:=true) rfl (.inl rfl) rfl rfl (fun k h=>by cases h; exact qae _) (fun h=>nomatch h)) (.cons (.lit _) .nil))) ?_;obtain⟨r34,g35,h⟩:=bind_some h;try simp only[rnA,Nat.reduceEqDiff,Nat.reduceLT,reduceCtorEq]
 refine EvL.fn (zcC g35) rfl rfl (.cons (.za8 (.cons (.lit _) (.cons (zah zac) .nil))) (.cons (zah (eI .i64)) (.cons (.lit _) (.cons (zah (eI .i64)) .nil)))) ?_;obtain⟨r36,g37,h⟩:=bind_some h;try simp only[rnA,Nat.reduceEqDiff,Nat.reduceLT,Nat.reduceAdd,Nat.reduceLeDiff,reduceCtorEq]
 refine EvL.fn (zcC g37) rfl rfl (.cons (.za8 (.cons (.lit _) (.cons (zct (e:=zac) rfl (.inl rfl) rfl rfl (fun k h=>by cases h; exact qae _) (zba (.cons (.lit _) (.cons (zah (eI .i64)) (.cons (zct (e:=(eL (eI .i64))) rfl (.inl rfl) rfl rfl (fun k h=>by cases h; exact qae _) (zba (.cons (zaj (e:=(eI .i64)) (t:=true) rfl (.inl rfl) rfl rfl (fun k h=>by cases h; exact qae _) (fun h=>nomatch h)) .nil) .nil)) .nil))) .nil)) .nil))) (.cons (zaj (e:=(eI .i64)) (t:=true) rfl (.inl rfl) rfl rfl (fun k h=>by cases h; exact qae _) (fun h=>nomatch h)) (.cons (.lit _) (.cons (zah (eI .i64)) .nil)))) ?_;try simp only[rnA,Nat.reduceEqDiff,Nat.reduceLT,Nat.reduceAdd,Nat.reduceLeDiff,reduceCtorEq]
 obtain⟨o1,j1,h⟩:=bind_some h;obtain⟨T1,hT1⟩:=mkT fun a:(List S_api_Node)=>⟨317,[(2,(.sl 0 0 1 3 (some 3) 3)),(3,(fzE true zaq r6.1)),(4,(dI r6.2)),(5,(fzE true zaq r8.1)),(6,(dI r8.2)),(7,(fzE true zaq r10.1)),(8,(dI r10.2)),(9,(dU r12.1)),(10,(dI r12.2)),(11,(dU r14.1)),(12,(dI r14.2)),(13,(dU r16.1)),(14,(dI r16.2)),(16,(dI r18.2)),(18,(dI r20.2)),(20,(dI r22.2)),(22,(dI r24.2)),(24,(dI r26.2)),(27,(dI r28.2.2)),(29,(dI r30.2)),(31,(dI r32.2)),(34,(dI r34.2.2)),(36,(dI r36.1)),(37,(dI r36.2.1)),(38,(dI r36.2.2)),(39,(.ptr 24 0))],[.els 1 ([(-1),(-1),(-1)].map ((eI .i64).c true)),.gone,.gone,.gone,.gone,.gone,.gone,.gone,.gone,.gone,.gone,.gone,.gone,.gone,.gone,.gone,.gone,.gone,.gone,.gone,.gone,.gone,.gone,.gone,.cells [(dI 60),(.sl 25 0 3 a.length none a.length)],.grow 3 (a.map (zac.c true))]⟩
 refine EvL.jn T1 (fun a=>a=o1) ?_ ?_
 ·refine zaa ?_;simp only[rnA];obtain⟨T2,hT2⟩:=mkT fun a:(Int×(List S_api_Node))=>⟨317,[(2,(.sl 0 0 1 3 (some 3) 3)),(3,(fzE true zaq r6.1)),(4,(dI r6.2)),(5,(fzE true zaq r8.1)),(6,(dI r8.2)),(7,(fzE true zaq r10.1)),(8,(dI r10.2)),(9,(dU r12.1)),(10,(dI r12.2)),(11,(dU r14.1)),(12,(dI r14.2)),(13,(dU r16.1)),(14,(dI r16.2)),(16,(dI r18.2)),(18,(dI r20.2)),(20,(dI r22.2)),(22,(dI r24.2)),(24,(dI r26.2)),(27,(dI r28.2.2)),(29,(dI r30.2)),(31,(dI r32.2)),(34,(dI r34.2.2)),(36,(dI r36.1)),(37,(dI r36.2.1)),(38,(dI r36.2.2)),(39,(.ptr 24 0)),(165,(dI a.1))],[.els 1 ([(-1),(-1),(-1)].map ((eI .i64).c true)),.gone,.gone,.gone,.gone,.gone,.gone,.gone,.gone,.gone,.gone,.gone,.gone,.gone,.gone,.gone,.gone,.gone,.gone,.gone,.gone,.gone,.gone,.gone,.cells [(dI 60),(.sl 25 0 3 a.2.length none a.2.length)],.grow 3 (a.2.map (zac.c true))]⟩
  refine EvL.zeH (zaV.zqO (n:=3) (β:=24) (o:=1) (by decide) rfl rfl) ?_;refine EvL.rounds (α:=(Int×(List S_api_Node))) T2 (fun n a=>zbr n a.1 a.2=some o1) (8 - 0+2:Int).toNat (0,[]) (by rw[hT2]; exact wm0 [.k,.d,.d,.d,.d,.d,.d,.d,.d,.d,.d,.d,.d,.d,.d,.d,.d,.d,.d,.d,.d,.d,.d,.d,.k,.k] ⟨MB.es (eI .i64) true [(-1),(-1),(-1)],⟨rfl,⟨rfl,⟨rfl,⟨rfl,⟨rfl,⟨rfl,⟨rfl,⟨rfl,⟨rfl,⟨rfl,⟨rfl,⟨rfl,⟨rfl,⟨rfl,⟨rfl,⟨rfl,⟨rfl,⟨rfl,⟨rfl,⟨rfl,⟨rfl,⟨rfl,⟨rfl,⟨MB.cs ⟨qb1,rfl,qb1⟩,⟨MB.gs zac true [],qb1⟩⟩⟩⟩⟩⟩⟩⟩⟩⟩⟩⟩⟩⟩⟩⟩⟩⟩⟩⟩⟩⟩⟩⟩⟩⟩) j1 (fun _ h=>nomatch (show(none:Option (List S_api_Node))=some o1 from h)) ?_;rintro n ⟨v165,l25⟩ j1;simp only[zbr]at j1;rw[congrFun hT2 (v165,l25)];refine zaa ?_;try simp only[rnA,Nat.reduceEqDiff,Nat.reduceLT]
  cases c38:(decide (v165<8))
  ·rw[c38,cond_false]at j1;try simp only[rnA]
   replace j1:=qaa j1; subst j1;exact lfj hT1 rfl (wm0 [.k,.d,.d,.d,.d,.d,.d,.d,.d,.d,.d,.d,.d,.d,.d,.d,.d,.d,.d,.d,.d,.d,.d,.d,.k,.k] ⟨MB.es (eI .i64) true [(-1),(-1),(-1)],⟨rfl,⟨rfl,⟨rfl,⟨rfl,⟨rfl,⟨rfl,⟨rfl,⟨rfl,⟨rfl,⟨rfl,⟨rfl,⟨rfl,⟨rfl,⟨rfl,⟨rfl,⟨rfl,⟨rfl,⟨rfl,⟨rfl,⟨rfl,⟨rfl,⟨rfl,⟨rfl,⟨MB.cs ⟨qb1,rfl,qb1⟩,⟨MB.gs zac true l25,qb1⟩⟩⟩⟩⟩⟩⟩⟩⟩⟩⟩⟩⟩⟩⟩⟩⟩⟩⟩⟩⟩⟩⟩⟩⟩⟩)
  rw[c38,cond_true]at j1;obtain⟨y39,g40,j1⟩:=bind_some j1;try simp only[rnA,Nat.reduceEqDiff,Nat.reduceLT,Nat.reduceAdd,Nat.reduceLeDiff,zcE g40,(show l25.length+1=y39.length from zbC g40)]
  exact⟨((w64 (v165+1)),y39),j1,by rw[hT2]; exact wm0 [.k,.d,.d,.d,.d,.d,.d,.d,.d,.d,.d,.d,.d,.d,.d,.d,.d,.d,.d,.d,.d,.d,.d,.d,.k,.k,.f,.f] ⟨MB.es (eI .i64) true [(-1),(-1),(-1)],⟨rfl,⟨rfl,⟨rfl,⟨rfl,⟨rfl,⟨rfl,⟨rfl,⟨rfl,⟨rfl,⟨rfl,⟨rfl,⟨rfl,⟨rfl,⟨rfl,⟨rfl,⟨rfl,⟨rfl,⟨rfl,⟨rfl,⟨rfl,⟨rfl,⟨rfl,⟨rfl,⟨MB.cs ⟨qb1,rfl,qb1⟩,⟨MB.ztH (zq3 (e:=zac) (t:=true) g40 (.cons (.cons (.same trivial) (.cons (.fr (zkS (eI .i64))) (.cons (.fr (zrB (e:=(eL (eI .i64))) rfl rfl (.inl rfl) rfl rfl (fun k h=>by cases h; exact qae _) (zp (.cons (zcM (e:=(eI .i64)) (t:=true) rfl rfl (.inl rfl) rfl rfl (fun k h=>by cases h; exact qae _) (fun h=>by cases h<;>rfl)) .nil) .nil))) .nil))) .nil)),qb1⟩⟩⟩⟩⟩⟩⟩⟩⟩⟩⟩⟩⟩⟩⟩⟩⟩⟩⟩⟩⟩⟩⟩⟩⟩⟩⟩
 rintro l25 rfl;rw[congrFun hT1 l25];refine zaa ?_;obtain⟨r41,g42,h⟩:=bind_some h;try simp only[rnA,Nat.reduceEqDiff,Nat.reduceLT,Nat.reduceAdd,Nat.reduceLeDiff]
 refine EvL.fn (zax g42) rfl rfl (.cons (.za8 (.cons (.lit _) (.cons (zaj (e:=zac) (t:=true) rfl (.inr rfl) rfl rfl (fun k h=>nomatch h) (fun h=>nomatch h)) .nil))) (.cons (zaj (e:=(eI .i64)) (t:=true) rfl (.inl rfl) rfl rfl (fun k h=>by cases h; exact qae _) (fun h=>nomatch h)) (.cons (.lit _) (.cons (zaj (e:=(eI .i64)) (t:=true) rfl (.inl rfl) rfl rfl (fun k h=>by cases h; exact qae _) (fun h=>nomatch h)) .nil)))) ?_;obtain⟨r43,g44,h⟩:=bind_some h;try simp only[rnA,Nat.reduceEqDiff,Nat.reduceLT,Nat.reduceAdd,Nat.reduceLeDiff]
 refine EvL.fn (zaO g44) rfl rfl (.cons (.za8 (.cons (.lit _) (.cons (zct (e:=zac) rfl (.inl rfl) rfl rfl (fun k h=>by cases h; exact qae _) (zba (.cons (.lit _) (.cons (zah (eI .i64)) (.cons (zct (e:=(eL (eI .i64))) rfl (.inl rfl) rfl rfl (fun k h=>by cases h; exact qae _) (zba (.cons (zaj (e:=(eI .i64)) (t:=true) rfl (.inl rfl) rfl rfl (fun k h=>by cases h; exact qae _) (fun h=>nomatch h)) .nil) .nil)) .nil))) (zba (.cons (.lit _) (.cons (zah (eI .i64)) (.cons (zct (e:=(eL (eI .i64))) rfl (.inl rfl) rfl rfl (fun k h=>by cases h; exact qae _) (zba (.cons (zaj (e:=(eI .i64)) (t:=true) rfl (.inl rfl) rfl rfl (fun k h=>by cases h; exact qae _) (fun h=>nomatch h)) .nil) .nil)) .nil))) (zba (.cons (.lit _) (.cons (zaj (e:=(eI .i64)) (t:=true) rfl (.inl rfl) rfl rfl (fun k h=>by cases h; exact qae _) (fun h=>nomatch h)) (.cons (zct (e:=(eL (eI .i64))) rfl (.inl rfl) rfl rfl (fun k h=>by cases h; exact qae _) (zba (.cons (zaj (e:=(eI .i64)) (t:=true) rfl (.inl rfl) rfl rfl (fun k h=>by cases h; exact qae _) (fun h=>nomatch h)) .nil) (zba (.cons (zaj (e:=(eI .i64)) (t:=true) rfl (.inl rfl) rfl rfl (fun k h=>by cases h; exact qae _) (fun h=>nomatch h)) .nil) (zba (.cons (zaj (e:=(eI .i64)) (t:=true) rfl (.inl rfl) rfl rfl (fun k h=>by cases h; exact qae _) (fun h=>nomatch h)) .nil) (zba (.cons (zaj (e:=(eI .i64)) (t:=true) rfl (.inl rfl) rfl rfl (fun k h=>by cases h; exact qae _) (fun h=>nomatch h)) .nil) .nil))))) .nil))) .nil)))) .nil))) (.cons (zaj (e:=(eI .i64)) (t:=true) rfl (.inl rfl) rfl rfl (fun k h=>by cases h; exact qae _) (fun h=>nomatch h)) (.cons (.lit _) .nil))) ?_;obtain⟨r45,g46,h⟩:=bind_some h;try simp only[rnA,Nat.reduceEqDiff,Nat.reduceLT,Nat.reduceAdd,Nat.reduceLeDiff]
 refine EvL.fn (zaO g46) rfl rfl (.cons (.za8 (.cons (.lit _) (.cons (zct (e:=zac) rfl (.inl rfl) rfl rfl (fun k h=>by cases h; exact qae _) (zba (.cons (.lit _) (.cons (zah (eI .i64)) (.cons (zct (e:=(eL (eI .i64))) rfl (.inl rfl) rfl rfl (fun k h=>by cases h; exact qae _) (zba (.cons (zaj (e:=(eI .i64)) (t:=true) rfl (.inl rfl) rfl rfl (fun k h=>by cases h; exact qae _) (fun h=>nomatch h)) .nil) .nil)) .nil))) (zba (.cons (.lit _) (.cons (zah (eI .i64)) (.cons (zct (e:=(eL (eI .i64))) rfl (.inl rfl) rfl rfl (fun k h=>by cases h; exact qae _) (zba (.cons (zaj (e:=(eI .i64)) (t:=true) rfl (.inl rfl) rfl rfl (fun k h=>by cases h; exact qae _) (fun h=>nomatch h)) .nil) .nil)) .nil))) (zba (.cons (.lit _) (.cons (zaj (e:=(eI .i64)) (t:=true) rfl (.inl rfl) rfl rfl (fun k h=>by cases h; exact qae _) (fun h=>nomatch h)) (.cons (zct (e:=(eL (eI .i64))) rfl (.inl rfl) rfl rfl (fun k h=>by cases h; exact qae _) (zba (.cons (zaj (e:=(eI .i64)) (t:=true) rfl (.inl rfl) rfl rfl (fun k h=>by cases h; exact qae _) (fun h=>nomatch h)) .nil) (zba (.cons (zaj (e:=(eI .i64)) (t:=true) rfl (.inl rfl) rfl rfl (fun k h=>by cases h; exact qae _) (fun h=>nomatch h)) .nil) (zba (.cons (zaj (e:=(eI .i64)) (t:=true) rfl (.inl rfl) rfl rfl (fun k h=>by cases h; exact qae _) (fun h=>nomatch h)) .nil) (zba (.cons (zaj (e:=(eI .i64)) (t:=true) rfl (.inl rfl) rfl rfl (fun k h=>by cases h; exact qae _) (fun h=>nomatch h)) .nil) .nil))))) .nil))) .nil)))) .nil))) (.cons (zaj (e:=(eI .i64)) (t:=true) rfl (.inl rfl) rfl rfl (fun k h=>by cases h; exact qae _) (fun h=>nomatch h)) (.cons (.lit _) .nil))) ?_;try simp only[rnA,Nat.reduceEqDiff,Nat.reduceLT]
 obtain⟨o3,j3,h⟩:=bind_some h;obtain⟨T3,hT3⟩:=mkT fun a:Bool=>⟨317,[(3,(fzE true zaq r6.1)),(4,(dI r6.2)),(5,(fzE true zaq r8.1)),(6,(dI r8.2)),(7,(fzE true zaq r10.1)),(8,(dI r10.2)),(9,(dU r12.1)),(10,(dI r12.2)),(11,(dU r14.1)),(12,(dI r14.2)),(13,(dU r16.1)),(14,(dI r16.2)),(36,(dI r36.1)),(37,(dI r36.2.1)),(38,(dI r36.2.2)),(40,(fzE true zaq r41.1)),(41,(dI r41.2)),(43,(dU r43.1)),(44,(dI r43.2)),(45,(dU r45.1)),(46,(dI r45.2)),(47,(dB a))],[]⟩
 refine EvL.jn T3 (fun a=>a=o3) ?_ ?_
 ·refine zaa ?_;try simp only[rnA,Nat.reduceEqDiff,Nat.reduceLT]
  cases c47:(r18.2 == 7)
  ·rw[c47,cond_false]at j3;try simp only[rnA,Nat.reduceEqDiff,Nat.reduceLT]
   replace j3:=qaa j3; subst j3;exact lfj hT3 rfl (wm0 [] (by exact trivial))
  rw[c47,cond_true]at j3;try simp only[rnA,Nat.reduceEqDiff,Nat.reduceLT]
  cases c48:(r20.2 == 7)
  ·rw[c48,cond_false]at j3;try simp only[rnA,Nat.reduceEqDiff,Nat.reduceLT]
   replace j3:=qaa j3; subst j3;exact lfj hT3 rfl (wm0 [] (by exact trivial))
  rw[c48,cond_true]at j3;try simp only[rnA,Nat.reduceEqDiff,Nat.reduceLT]
  cases c49:(r22.2 == 2)
  ·rw[c49,cond_false]at j3;try simp only[rnA,Nat.reduceEqDiff,Nat.reduceLT]
   replace j3:=qaa j3; subst j3;exact lfj hT3 rfl (wm0 [] (by exact trivial))
  rw[c49,cond_true]at j3;try simp only[rnA,Nat.reduceEqDiff,Nat.reduceLT]
  cases c50:(r24.2 == 2)
  ·rw[c50,cond_false]at j3;try simp only[rnA,Nat.reduceEqDiff,Nat.reduceLT]
   replace j3:=qaa j3; subst j3;exact lfj hT3 rfl (wm0 [] (by exact trivial))
  rw[c50,cond_true]at j3;try simp only[rnA,Nat.reduceEqDiff,Nat.reduceLT]
  cases c51:(r26.2 == 2)
  ·rw[c51,cond_false]at j3;try simp only[rnA,Nat.reduceEqDiff,Nat.reduceLT]
   replace j3:=qaa j3; subst j3;exact lfj hT3 rfl (wm0 [] (by exact trivial))
  rw[c51,cond_true]at j3;try simp only[rnA,Nat.reduceEqDiff,Nat.reduceLT]
  cases c52:(r28.2.2 == 2)
  ·rw[c52,cond_false]at j3;try simp only[rnA,Nat.reduceEqDiff,Nat.reduceLT]
   replace j3:=qaa j3; subst j3;exact lfj hT3 rfl (wm0 [] (by exact trivial))
  rw[c52,cond_true]at j3;try simp only[rnA,Nat.reduceEqDiff,Nat.reduceLT]
  cases c53:(r30.2 == 2)
  ·rw[c53,cond_false]at j3;try simp only[rnA,Nat.reduceEqDiff,Nat.reduceLT]
   replace j3:=qaa j3; subst j3;exact lfj hT3 rfl (wm0 [] (by exact trivial))
  rw[c53,cond_true]at j3;try simp only[rnA,Nat.reduceEqDiff,Nat.reduceLT]
  cases c54:(r32.2 == 2)
  ·rw[c54,cond_false]at j3;try simp only[rnA,Nat.reduceEqDiff,Nat.reduceLT]
   replace j3:=qaa j3; subst j3;exact lfj hT3 rfl (wm0 [] (by exact trivial))
  rw[c54,cond_true]at j3;try simp only[rnA,Nat.reduceEqDiff,Nat.reduceLT]
  replace j3:=qaa j3; subst j3;exact lfj hT3 rfl (wm0 [] (by exact trivial))
 rintro v47 rfl;rw[congrFun hT3 v47];refine zaa ?_;try simp only[rnA]
 obtain⟨o4,j4,h⟩:=bind_some h;obtain⟨T4,hT4⟩:=mkT fun a:Bool=>⟨317,[(0,(dB a))],[]⟩
 refine EvL.jn T4 (fun a=>a=o4) ?_ ?_
 ·refine zaa ?_;try simp only[rnA,Nat.reduceEqDiff,Nat.reduceLT]
  cases c55:v47
  ·rw[c55,cond_false]at j4;try simp only[rnA,Nat.reduceEqDiff,Nat.reduceLT]
   refine EvL.dead 70 0 [245] ⟨rfl,qb1⟩ rfl ?_;try simp only[rnA]
   replace j4:=qaa j4; subst j4;exact lfj hT4 rfl (wm0 [] (by exact trivial))
  rw[c55,cond_true]at j4;obtain⟨r56,g57,j4⟩:=bind_some j4;try simp only[rnA,Nat.reduceEqDiff,Nat.reduceLT]
  refine EvL.fn (ze3 g57) rfl rfl (.cons (zad _ _ (fun h=>nomatch h)) (.cons (.lit _) (.cons (.lit _) (.cons (.lit _) (.cons (.lit _) .nil))))) ?_;try simp only[rnA,Nat.reduceEqDiff,Nat.reduceLT]
  cases c58:r56
  ·rw[c58,cond_false]at j4;try simp only[rnA,Nat.reduceEqDiff,Nat.reduceLT]
   refine EvL.dead 65 0 [250] ⟨rfl,qb1⟩ rfl ?_;try simp only[rnA]
   replace j4:=qaa j4; subst j4;exact lfj hT4 rfl (wm0 [] (by exact trivial))
  rw[c58,cond_true]at j4;obtain⟨r59,g60,j4⟩:=bind_some j4;try simp only[rnA,Nat.reduceEqDiff,Nat.reduceLT]
  refine EvL.fn (ze3 g60) rfl rfl (.cons (zad _ _ (fun h=>nomatch h)) (.cons (.lit _) (.cons (.lit _) (.cons (.lit _) (.cons (.lit _) .nil))))) ?_;try simp only[rnA,Nat.reduceEqDiff,Nat.reduceLT]
  cases c61:r59
  ·rw[c61,cond_false]at j4;try simp only[rnA,Nat.reduceEqDiff,Nat.reduceLT]
   refine EvL.dead 60 0 [255] ⟨rfl,qb1⟩ rfl ?_;try simp only[rnA]
   replace j4:=qaa j4; subst j4;exact lfj hT4 rfl (wm0 [] (by exact trivial))
  rw[c61,cond_true]at j4;obtain⟨r62,g63,j4⟩:=bind_some j4;try simp only[rnA,Nat.reduceEqDiff,Nat.reduceLT]
  refine EvL.fn (ze3 g63) rfl rfl (.cons (zad _ _ (fun h=>nomatch h)) (.cons (.lit _) (.cons (.lit _) (.cons (.lit _) (.cons (.lit _) .nil))))) ?_;try simp only[rnA,Nat.reduceEqDiff,Nat.reduceLT]
  cases c64:r62
  ·rw[c64,cond_false]at j4;try simp only[rnA,Nat.reduceEqDiff,Nat.reduceLT]
   refine EvL.skip rfl ?_;try simp only[rnA,Nat.reduceEqDiff,Nat.reduceLT]
   replace j4:=qaa j4; subst j4;exact lfj hT4 rfl (wm0 [] (by exact trivial))
  rw[c64,cond_true]at j4;try simp only[rnA,Nat.reduceEqDiff,Nat.reduceLT]
  cases c65:(r12.2 == 0)
  ·rw[c65,cond_false]at j4;try simp only[rnA,Nat.reduceEqDiff,Nat.reduceLT]
   refine EvL.skip rfl ?_;try simp only[rnA,Nat.reduceEqDiff,Nat.reduceLT]
   replace j4:=qaa j4; subst j4;exact lfj hT4 rfl (wm0 [] (by exact trivial))
  rw[c65,cond_true]at j4;try simp only[rnA,Nat.reduceEqDiff,Nat.reduceLT]
  cases c66:(r12.1 == 7)
  ·rw[c66,cond_false]at j4;try simp only[rnA,Nat.reduceEqDiff,Nat.reduceLT]
   refine EvL.skip rfl ?_;try simp only[rnA,Nat.reduceEqDiff,Nat.reduceLT]
   replace j4:=qaa j4; subst j4;exact lfj hT4 rfl (wm0 [] (by exact trivial))
  rw[c66,cond_true]at j4;try simp only[rnA,Nat.reduceEqDiff,Nat.reduceLT]
  cases c67:(r14.2 == 0)
  ·rw[c67,cond_false]at j4;try simp only[rnA,Nat.reduceEqDiff,Nat.reduceLT]
   refine EvL.skip rfl ?_;try simp only[rnA,Nat.reduceEqDiff,Nat.reduceLT]
   replace j4:=qaa j4; subst j4;exact lfj hT4 rfl (wm0 [] (by exact trivial))
  rw[c67,cond_true]at j4;try simp only[rnA,Nat.reduceEqDiff,Nat.reduceLT]
  cases c68:(r14.1 == 4)
  ·rw[c68,cond_false]at j4;try simp only[rnA,Nat.reduceEqDiff,Nat.reduceLT]
   refine EvL.skip rfl ?_;try simp only[rnA,Nat.reduceEqDiff,Nat.reduceLT]
   replace j4:=qaa j4; subst j4;exact lfj hT4 rfl (wm0 [] (by exact trivial))
  rw[c68,cond_true]at j4;try simp only[rnA,Nat.reduceEqDiff,Nat.reduceLT]
  cases c69:(r16.2 == 0)
  ·rw[c69,cond_false]at j4;try simp only[rnA,Nat.reduceEqDiff,Nat.reduceLT]
   refine EvL.skip rfl ?_;try simp only[rnA,Nat.reduceEqDiff,Nat.reduceLT]
   replace j4:=qaa j4; subst j4;exact lfj hT4 rfl (wm0 [] (by exact trivial))
  rw[c69,cond_true]at j4;try simp only[rnA,Nat.reduceEqDiff,Nat.reduceLT]
  cases c70:(r16.1 == 0)
  ·rw[c70,cond_false]at j4;try simp only[rnA,Nat.reduceEqDiff,Nat.reduceLT]
   refine EvL.skip rfl ?_;try simp only[rnA,Nat.reduceEqDiff,Nat.reduceLT]
   replace j4:=qaa j4; subst j4;exact lfj hT4 rfl (wm0 [] (by exact trivial))
  rw[c70,cond_true]at j4;try simp only[rnA,Nat.reduceEqDiff,Nat.reduceLT]
  cases c71:(r36.2.2 == 0)
  ·rw[c71,cond_false]at j4;try simp only[rnA,Nat.reduceEqDiff,Nat.reduceLT]
   refine EvL.skip rfl ?_;try simp only[rnA,Nat.reduceEqDiff,Nat.reduceLT]
   replace j4:=qaa j4; subst j4;exact lfj hT4 rfl (wm0 [] (by exact trivial))
  rw[c71,cond_true]at j4;try simp only[rnA,Nat.reduceEqDiff,Nat.reduceLT]
  cases c72:(r36.1 == 0)
  ·rw[c72,cond_false]at j4;try simp only[rnA,Nat.reduceEqDiff,Nat.reduceLT]
   refine EvL.skip rfl ?_;try simp only[rnA,Nat.reduceEqDiff,Nat.reduceLT]
   replace j4:=qaa j4; subst j4;exact lfj hT4 rfl (wm0 [] (by exact trivial))
  rw[c72,cond_true]at j4;try simp only[rnA,Nat.reduceEqDiff,Nat.reduceLT]
  cases c73:(r36.2.1 == 1)
  ·rw[c73,cond_false]at j4;try simp only[rnA,Nat.reduceEqDiff,Nat.reduceLT]
   refine EvL.skip rfl ?_;try simp only[rnA,Nat.reduceEqDiff,Nat.reduceLT]
   replace j4:=qaa j4; subst j4;exact lfj hT4 rfl (wm0 [] (by exact trivial))
  rw[c73,cond_true]at j4;obtain⟨r74,g75,j4⟩:=bind_some j4;try simp only[rnA,Nat.reduceEqDiff,Nat.reduceLT]
  refine EvL.fn (ze3 g75) rfl rfl (.cons (zad _ _ (fun h=>nomatch h)) (.cons (.lit _) (.cons (.lit _) (.cons (.lit _) (.cons (.lit _) .nil))))) ?_;try simp only[rnA,Nat.reduceEqDiff,Nat.reduceLT]
  cases c76:r74
  ·rw[c76,cond_false]at j4;try simp only[rnA,Nat.reduceEqDiff,Nat.reduceLT]
   replace j4:=qaa j4; subst j4;exact lfj hT4 rfl (wm0 [] (by exact trivial))
  rw[c76,cond_true]at j4;try simp only[rnA,Nat.reduceEqDiff,Nat.reduceLT]
  cases c77:(r43.1 == 7)
  ·rw[c77,cond_false]at j4;try simp only[rnA,Nat.reduceEqDiff,Nat.reduceLT]
   replace j4:=qaa j4; subst j4;exact lfj hT4 rfl (wm0 [] (by exact trivial))
  rw[c77,cond_true]at j4;try simp only[rnA,Nat.reduceEqDiff,Nat.reduceLT]
  cases c78:(r43.2 == 0)
  ·rw[c78,cond_false]at j4;try simp only[rnA,Nat.reduceEqDiff,Nat.reduceLT]
   replace j4:=qaa j4; subst j4;exact lfj hT4 rfl (wm0 [] (by exact trivial))
  rw[c78,cond_true]at j4;try simp only[rnA,Nat.reduceEqDiff,Nat.reduceLT]
  cases c79:(r45.1 == 1)
  ·rw[c79,cond_false]at j4;try simp only[rnA,Nat.reduceEqDiff,Nat.reduceLT]
   replace j4:=qaa j4; subst j4;exact lfj hT4 rfl (wm0 [] (by exact trivial))
  rw[c79,cond_true]at j4;try simp only[rnA,Nat.reduceEqDiff,Nat.reduceLT]
  replace j4:=qaa j4; subst j4;exact lfj hT4 rfl (wm0 [] (by exact trivial))
 rintro v0 rfl;rw[congrFun hT4 v0];refine zaa ?_;try simp only[rnA]
 replace h:=qaa h; subst h;exact za0.ret rfl (.lit _)
end Go.Dc
