/-
 The plain form of the functions that one law reaches, written down by cbv, but for a few, which are printed and held against the loaded program by the kernel. Conditions: none.
-/
import Derived.Test.YtnfgibomhkbcpaaNfMxH
import Derived.Test.YtnfgibomhkbcpaaRows
set_option linter.unusedSimpArgs false
set_option linter.unusedVariables false
set_option maxRecDepth 100000
set_option maxHeartbeats 4000000
namespace Go.Proofs.Ytnfgibomhkbcpaa.W
open Go Go.Mx
def rg(l:List O):C:=.reg false false l
def oMg(a b g:Nat)(t:Bool):O:=⟨some a,.mov (.s b),some (g,t)⟩
def oLg(a b g:Nat)(t:Bool):O:=⟨some a,.load none (.s b),some (g,t)⟩
def oFg(a n b g:Nat)(t:Bool):O:=⟨some a,.fld n (.s b),some (g,t)⟩
def oW(a b:Nat):O:=⟨some a,.box (.s b),none⟩
def oZ(a b:Nat):O:=⟨some a,.nilck (.s b),none⟩
def oU(a f b:Nat):O:=⟨some a,.call f [.s b],none⟩
def oV(a f b c:Nat):O:=⟨some a,.call f [.s b,.s c],none⟩
def oT(a n k b c:Nat):O:=⟨some a,.app n k (.s b) (.s c),none⟩
def oJ(a:Nat)(t:Bool):O:=⟨some a,.mov (.c (.bool t)),none⟩
def oDg(a:Nat)(p:BinOp)(b:Nat)(n:Int)(g:Nat)(t:Bool):O:=⟨some a,.bin p (.s b) (.c (.int .i64 n)),some (g,t)⟩
def oDu(a:Nat)(p:BinOp)(b:Nat)(n:Int):O:=⟨some a,.bin p (.s b) (.c (.int .u64 n)),none⟩
def oM(a b:Nat):O:=⟨some a,.mov (.s b),none⟩
def oK(a n:Nat):O:=⟨some a,.mov (.c (.int .i64 (.ofNat n))),none⟩
def oL(a b:Nat):O:=⟨some a,.load none (.s b),none⟩
def oN(a n b:Nat):O:=⟨some a,.load (some n) (.s b),none⟩
def oF(a n b:Nat):O:=⟨some a,.fld n (.s b),none⟩
def oI(a n b c:Nat):O:=⟨some a,.idxS n (.s b) (.s c),none⟩
def oS(n b c:Nat):O:=⟨none,.store n (.s b) (.s c),none⟩
def oE(a b:Nat):O:=⟨some a,.len (.s b),none⟩
def oX(a b n:Nat):O:=⟨some a,.ext (.s b) n,none⟩
def oB(a:Nat)(p:BinOp)(b c:Nat):O:=⟨some a,.bin p (.s b) (.s c),none⟩
def oD(a:Nat)(p:BinOp)(b n:Nat):O:=⟨some a,.bin p (.s b) (.c (.int .i64 (.ofNat n))),none⟩
def oO(a b:Nat):O:=⟨some a,.box (.s b),none⟩
def oP(a b c:Nat)(t:Bool):O:=⟨some a,.pick (.s b) (.s c) (.c (.bool t)),none⟩
def pl:List Nat:=[14,51,52,53,54,64,65,66,67,70,92,117,120,123,125,134,145,153,163]
abbrev cF(f:Nat):Type:={ y:Option Mx.Fn // y=zxp Try.prog pl f }
def zAl:Mx.Fn:=⟨185,
 .seq (rg [oJ 0 false])
 (.seq (rg [⟨some 5,.call 55 [],none⟩,
 ⟨some 1,.alloc [(.int .i64 0),(.slice none 0 0)],none⟩,
 oS 2 1 5])
 (.seq (rg [oN 7 2 1,
 oU 8 16 7,
 oM 6 8,
 oX 9 6 0,
 oX 10 6 1,
 oM 2 9,
 oM 3 10])
 (.seq (.seq (rg [oM 11 3,
 oD 12 .neq 11 0,
 oM 13 12,
 oMg 14 2 13 false,
 ⟨some 15,.len (.s 14),some (13,false)⟩,
 oDg 16 .neq 15 3 13 false,
 ⟨some 17,.pick (.s 13) (.c (.bool true)) (.s 16),none⟩,
 oM 18 17,
 oMg 19 2 18 false,
 ⟨some 20,.idxS 3 (.s 19) (.c (.int .i64 1)),some (18,false)⟩,
 oFg 21 0 20 18 false,
 oLg 22 21 18 false,
 ⟨some 23,.bsl 1 2 [(.int .i64 0)] [(0,(.c (.int .i64 0))),(1,(.c (.int .i64 1)))],some (18,false)⟩,
 ⟨some 24,.call 51 [(.s 22),(.s 23)],some (18,false)⟩,
 ⟨some 25,.un .not (.s 24),some (18,false)⟩,
 ⟨some 26,.pick (.s 18) (.c (.bool true)) (.s 25),none⟩,
 oM 27 26,
 oMg 28 2 27 false,
 ⟨some 29,.idxS 3 (.s 28) (.c (.int .i64 1)),some (27,false)⟩,
 oFg 30 2 29 27 false,
 oLg 31 30 27 false,
 ⟨some 32,.bsl 1 4 [(.int .i64 0)] [(0,(.c (.int .i64 10))),(1,(.c (.int .i64 0))),(2,(.c (.int .i64 4))),(3,(.c (.int .i64 6)))],some (27,false)⟩,
 ⟨some 33,.call 51 [(.s 31),(.s 32)],some (27,false)⟩,
 ⟨some 34,.un .not (.s 33),some (27,false)⟩,
 ⟨some 35,.pick (.s 27) (.c (.bool true)) (.s 34),none⟩])
 (.cond (.s 35)
 (.seq (rg [oJ 0 false])
 (.ret))
 (.skip)))
 (.seq (.reg true true [
 oN 37 2 1,
 ⟨some 36,.call 56 [(.c (.int .i64 8))],none⟩,
 oU 38 52 37,
 oX 39 38 0,
 oX 40 38 1,
 ⟨some 41,.callv (.s 36) [(.s 39),(.s 40)],none⟩,
 oM 42 41,
 ⟨some 44,.load (some 2) (.s 1),some (42,true)⟩,
 ⟨some 43,.call 56 [(.c (.int .i64 1000))],some (42,true)⟩,
 ⟨some 45,.call 53 [(.s 44)],some (42,true)⟩,
 ⟨some 46,.ext (.s 45) 0,some (42,true)⟩,
 ⟨some 47,.ext (.s 45) 1,some (42,true)⟩,
 ⟨some 48,.callv (.s 43) [(.s 46),(.s 47)],some (42,true)⟩,
 oP 49 42 48 false,
 oM 50 49,
 ⟨some 53,.load (some 2) (.s 1),some (50,true)⟩,
 ⟨some 51,.bsl 1 3 [(.int .i64 0)] [(0,(.c (.int .i64 1))),(1,(.c (.int .i64 1))),(2,(.c (.int .i64 0)))],some (50,true)⟩,
 ⟨some 52,.call 57 [(.s 51)],some (50,true)⟩,
 ⟨some 54,.call 58 [(.s 53),(.c (.int .i64 6))],some (50,true)⟩,
 ⟨some 55,.ext (.s 54) 0,some (50,true)⟩,
 ⟨some 56,.ext (.s 54) 1,some (50,true)⟩,
 ⟨some 57,.callv (.s 52) [(.s 55),(.s 56)],some (50,true)⟩,
 oP 58 50 57 false,
 oM 59 58,
 ⟨some 61,.load (some 2) (.s 1),some (59,true)⟩,
 ⟨some 60,.call 56 [(.c (.int .i64 0))],some (59,true)⟩,
 ⟨some 62,.call 54 [(.s 61),(.c (.int .i64 6))],some (59,true)⟩,
 ⟨some 63,.ext (.s 62) 0,some (59,true)⟩,
 ⟨some 64,.ext (.s 62) 1,some (59,true)⟩,
 ⟨some 65,.callv (.s 60) [(.s 63),(.s 64)],some (59,true)⟩,
 oP 66 59 65 false,
 oM 67 66,
 ⟨some 69,.load (some 2) (.s 1),some (67,true)⟩,
 ⟨some 68,.call 56 [(.c (.int .i64 252))],some (67,true)⟩,
 ⟨some 70,.call 54 [(.s 69),(.c (.int .i64 4))],some (67,true)⟩,
 ⟨some 71,.ext (.s 70) 0,some (67,true)⟩,
 ⟨some 72,.ext (.s 70) 1,some (67,true)⟩,
 ⟨some 73,.callv (.s 68) [(.s 71),(.s 72)],some (67,true)⟩,
 oP 74 67 73 false,
 oM 75 74,
 ⟨some 78,.load (some 2) (.s 1),some (75,true)⟩,
 ⟨some 76,.bsl 1 3 [(.int .u64 0)] [(0,(.c (.int .u64 0))),(1,(.c (.int .u64 1))),(2,(.c (.int .u64 3)))],some (75,true)⟩,
 ⟨some 77,.call 59 [(.s 76)],some (75,true)⟩,
 ⟨some 79,.call 60 [(.s 78)],some (75,true)⟩,
 ⟨some 80,.ext (.s 79) 0,some (75,true)⟩,
 ⟨some 81,.ext (.s 79) 1,some (75,true)⟩,
 ⟨some 82,.callv (.s 77) [(.s 80),(.s 81)],some (75,true)⟩,
 oP 83 75 82 false,
 oM 84 83,
 ⟨some 87,.load (some 2) (.s 1),some (84,true)⟩,
 ⟨some 85,.bsl 1 3 [(.int .i64 0)] [(0,(.c (.int .i64 0))),(1,(.c (.int .i64 1))),(2,(.c (.int .i64 2)))],some (84,true)⟩,
 ⟨some 86,.call 57 [(.s 85)],some (84,true)⟩,
 ⟨some 88,.call 61 [(.s 87)],some (84,true)⟩,
 ⟨some 89,.ext (.s 88) 0,some (84,true)⟩,
 ⟨some 90,.ext (.s 88) 1,some (84,true)⟩,
 ⟨some 91,.callv (.s 86) [(.s 89),(.s 90)],some (84,true)⟩,
 oP 92 84 91 false,
 oM 93 92,
 ⟨some 96,.load (some 2) (.s 1),some (93,true)⟩,
 ⟨some 94,.bsl 1 3 [(.int .u64 0)] [(0,(.c (.int .u64 6))),(1,(.c (.int .u64 5))),(2,(.c (.int .u64 3)))],some (93,true)⟩,
 ⟨some 95,.call 59 [(.s 94)],some (93,true)⟩,
 ⟨some 97,.call 62 [(.s 96)],some (93,true)⟩,
 ⟨some 98,.ext (.s 97) 0,some (93,true)⟩,
 ⟨some 99,.ext (.s 97) 1,some (93,true)⟩,
 ⟨some 100,.callv (.s 95) [(.s 98),(.s 99)],some (93,true)⟩,
 oP 101 93 100 false,
 oM 4 101])
 (.seq (.reg true true [
 oM 102 4,
 oM 103 102,
 ⟨some 105,.load (some 2) (.s 1),some (103,true)⟩,
 ⟨some 104,.call 63 [(.c (.int .u64 6))],some (103,true)⟩,
 ⟨some 106,.call 64 [(.s 105),(.c (.int .i64 0))],some (103,true)⟩,
 ⟨some 107,.ext (.s 106) 0,some (103,true)⟩,
 ⟨some 108,.ext (.s 106) 1,some (103,true)⟩,
 ⟨some 109,.callv (.s 104) [(.s 107),(.s 108)],some (103,true)⟩,
 oP 110 103 109 false,
 oM 111 110,
 ⟨some 113,.load (some 2) (.s 1),some (111,true)⟩,
 ⟨some 112,.call 63 [(.c (.int .u64 3))],some (111,true)⟩,
 ⟨some 114,.call 65 [(.s 113),(.c (.int .u64 2))],some (111,true)⟩,
 ⟨some 115,.ext (.s 114) 0,some (111,true)⟩,
 ⟨some 116,.ext (.s 114) 1,some (111,true)⟩,
 ⟨some 117,.callv (.s 112) [(.s 115),(.s 116)],some (111,true)⟩,
 oP 118 111 117 false,
 oM 119 118,
 ⟨some 121,.load (some 2) (.s 1),some (119,true)⟩,
 ⟨some 120,.call 63 [(.c (.int .u64 6))],some (119,true)⟩,
 ⟨some 122,.call 66 [(.s 121),(.c (.int .u64 2))],some (119,true)⟩,
 ⟨some 123,.ext (.s 122) 0,some (119,true)⟩,
 ⟨some 124,.ext (.s 122) 1,some (119,true)⟩,
 ⟨some 125,.callv (.s 120) [(.s 123),(.s 124)],some (119,true)⟩,
 oP 126 119 125 false,
 oM 127 126,
 ⟨some 128,.load (some 2) (.s 1),some (127,true)⟩,
 ⟨some 129,.bsl 1 3 [(.int .i64 0)] [(0,(.c (.int .i64 (-1)))),(1,(.c (.int .i64 1))),(2,(.c (.int .i64 (-1))))],some (127,true)⟩,
 ⟨some 130,.call 67 [(.s 128),(.s 129)],some (127,true)⟩,
 oDg 131 .eql 130 0 127 true,
 oP 132 127 131 false,
 oM 133 132,
 ⟨some 134,.load (some 2) (.s 1),some (133,true)⟩,
 ⟨some 135,.bsl 1 3 [(.int .i64 0)] [(0,(.c (.int .i64 0))),(1,(.c (.int .i64 2))),(2,(.c (.int .i64 (-1))))],some (133,true)⟩,
 ⟨some 136,.call 67 [(.s 134),(.s 135)],some (133,true)⟩,
 oDg 137 .eql 136 2 133 true,
 oP 138 133 137 false,
 oM 139 138,
 ⟨some 140,.load (some 2) (.s 1),some (139,true)⟩,
 ⟨some 141,.bsl 1 1 [(.int .i64 0)] [(0,(.c (.int .i64 0)))],some (139,true)⟩,
 ⟨some 142,.call 67 [(.s 140),(.s 141)],some (139,true)⟩,
 oDg 143 .eql 142 2 139 true,
 oP 144 139 143 false,
 oM 145 144,
 ⟨some 147,.load (some 2) (.s 1),some (145,true)⟩,
 ⟨some 146,.call 68 [(.c (.int .i64 2))],some (145,true)⟩,
 ⟨some 148,.call 54 [(.s 147),(.c (.int .i64 8))],some (145,true)⟩,
 ⟨some 149,.ext (.s 148) 0,some (145,true)⟩,
 ⟨some 150,.ext (.s 148) 1,some (145,true)⟩,
 ⟨some 151,.callv (.s 146) [(.s 149),(.s 150)],some (145,true)⟩,
 oP 152 145 151 false,
 oM 153 152,
 ⟨some 155,.load (some 2) (.s 1),some (153,true)⟩,
 ⟨some 154,.call 69 [(.c (.int .i64 2))],some (153,true)⟩,
 ⟨some 156,.call 64 [(.s 155),(.c (.int .i64 3))],some (153,true)⟩,
 ⟨some 157,.ext (.s 156) 0,some (153,true)⟩,
 ⟨some 158,.ext (.s 156) 1,some (153,true)⟩,
 ⟨some 159,.callv (.s 154) [(.s 157),(.s 158)],some (153,true)⟩,
 oP 160 153 159 false,
 oM 161 160,
 ⟨some 163,.load (some 2) (.s 1),some (161,true)⟩,
 ⟨some 162,.call 69 [(.c (.int .i64 2))],some (161,true)⟩,
 ⟨some 164,.call 65 [(.s 163),(.c (.int .u64 8))],some (161,true)⟩,
 ⟨some 165,.ext (.s 164) 0,some (161,true)⟩,
 ⟨some 166,.ext (.s 164) 1,some (161,true)⟩,
 ⟨some 167,.callv (.s 162) [(.s 165),(.s 166)],some (161,true)⟩,
 oP 168 161 167 false,
 oM 4 168])
 (.seq (rg [oM 169 4,
 oM 170 169,
 ⟨some 171,.call 71 [(.f 72)],some (170,true)⟩,
 ⟨some 172,.call 70 [(.s 171)],some (170,true)⟩,
 oDg 173 .eql 172 50 170 true,
 oP 174 170 173 false,
 oM 175 174,
 ⟨some 176,.call 71 [(.f 73)],some (175,true)⟩,
 ⟨some 177,.call 70 [(.s 176)],some (175,true)⟩,
 oDg 178 .eql 177 50 175 true,
 oP 179 175 178 false,
 oM 180 179,
 ⟨some 181,.call 71 [(.f 74)],some (180,true)⟩,
 ⟨some 182,.call 70 [(.s 181)],some (180,true)⟩,
 oDg 183 .eql 182 50 180 true,
 oP 184 180 183 false,
 oM 0 184])
 (.ret))))))),
 [.tmp 0],true⟩
def e14:cF 14:=⟨some zAl,by kernel_rfl⟩
def e16:cF 16:=⟨_,by conv=>rhs; cbv⟩
def e49:cF 49:=⟨_,by conv=>rhs; cbv⟩
def e51:cF 51:=⟨_,by conv=>rhs; cbv⟩
def e52:cF 52:=⟨_,by conv=>rhs; cbv⟩
def e53:cF 53:=⟨_,by conv=>rhs; cbv⟩
def zAe:Mx.Fn:=⟨77,
 .seq (rg [oO 2 0,
 oK 4 0,
 oK 5 0])
 (.seq (rg [oN 16 2 2,
 oU 17 77 16,
 oM 15 17,
 oX 18 15 0,
 oX 19 15 1,
 ⟨some 6,.alloc [(.int .i64 0),(.slice none 0 0),(.slice none 0 0),(.slice none 0 0),(.slice none 0 0)],none⟩,
 oS 5 6 18,
 oM 7 19])
 (.seq (.seq (rg [oM 20 7,
 oD 21 .neq 20 0])
 (.cond (.s 21)
 (.seq (rg [oM 22 7,
 oK 4 0,
 oM 5 22])
 (.ret))
 (.skip)))
 (.seq (rg [oF 24 2 6,
 oL 25 24,
 oM 26 1,
 oV 27 113 25 26,
 oM 23 27,
 oX 28 23 0,
 oX 29 23 1,
 oM 8 28,
 oM 7 29])
 (.seq (.seq (rg [oM 30 7,
 oD 31 .neq 30 0])
 (.cond (.s 31)
 (.seq (rg [oM 32 7,
 oK 4 0,
 oM 5 32])
 (.ret))
 (.skip)))
 (.seq (rg [oK 9 1])
 (.seq (.seq (rg [oF 33 0 6,
 oF 34 1 33,
 oL 35 34,
 oE 36 35,
 oK 37 0])
 (.block 0 (.loop (.seq (rg [oB 38 .lss 37 36])
 (.seq (.cond (.s 38)
 (.skip)
 (.exit 0))
 (.seq (.block 1 (.seq (rg [oM 39 37,
 oI 40 3 35 37,
 oN 41 3 40,
 ⟨some 11,.alloc [(.int .i64 0),(.slice none 0 0),(.slice none 0 0)],none⟩,
 oM 10 39,
 oS 3 11 41])
 (.seq (rg [oK 12 0])
 (.seq (.seq (rg [oF 42 1 11,
 oL 43 42,
 oE 44 43,
 oK 45 0])
 (.block 2 (.loop (.seq (rg [oB 46 .lss 45 44])
 (.seq (.cond (.s 46)
 (.skip)
 (.exit 2))
 (.seq (.block 3 (.seq (rg [oI 47 1 43 45,
 oL 48 47,
 oM 14 48])
 (.reg true false [
 oM 49 12,
 oF 50 2 6,
 oL 51 50,
 oM 52 14,
 oI 53 1 51 52,
 oL 54 53,
 oB 55 .mul 49 54,
 oM 56 8,
 oM 57 14,
 oI 58 1 56 57,
 oL 59 58,
 oB 60 .add 55 59,
 oM 12 60])))
 (rg [oD 61 .add 45 1,
 oM 45 61])))))))
 (.reg true false [
 oM 62 9,
 oF 63 2 11,
 oL 64 63,
 oM 65 12,
 oI 66 1 64 65,
 oL 67 66,
 oM 68 8,
 oM 69 10,
 oI 70 1 68 69,
 oL 71 70,
 oI 72 1 67 71,
 oL 73 72,
 oB 74 .mul 62 73,
 oM 9 74])))))
 (rg [oD 75 .add 37 1,
 oM 37 75])))))))
 (.seq (rg [oM 76 9,
 oM 4 76,
 oK 5 0])
 (.ret)))))))),
 [.tmp 4,.tmp 5],true⟩
def e54:cF 54:=⟨some zAe,by kernel_rfl⟩
def e55:cF 55:=⟨_,by conv=>rhs; cbv⟩
def e56:cF 56:=⟨_,by conv=>rhs; cbv⟩
def e57:cF 57:=⟨_,by conv=>rhs; cbv⟩
def e58:cF 58:=⟨_,by conv=>rhs; cbv⟩
def e59:cF 59:=⟨_,by conv=>rhs; cbv⟩
def e60:cF 60:=⟨_,by conv=>rhs; cbv⟩
def e61:cF 61:=⟨_,by conv=>rhs; cbv⟩
def e62:cF 62:=⟨_,by conv=>rhs; cbv⟩
def e63:cF 63:=⟨_,by conv=>rhs; cbv⟩
def e64:cF 64:=⟨_,by conv=>rhs; cbv⟩
def e65:cF 65:=⟨_,by conv=>rhs; cbv⟩
def e66:cF 66:=⟨_,by conv=>rhs; cbv⟩
def e67:cF 67:=⟨_,by conv=>rhs; cbv⟩
def e68:cF 68:=⟨_,by conv=>rhs; cbv⟩
def e69:cF 69:=⟨_,by conv=>rhs; cbv⟩
def e70:cF 70:=⟨_,by conv=>rhs; cbv⟩
def e71:cF 71:=⟨_,by conv=>rhs; cbv⟩
def e72:cF 72:=⟨_,by conv=>rhs; cbv⟩
def e73:cF 73:=⟨_,by conv=>rhs; cbv⟩
def e74:cF 74:=⟨_,by conv=>rhs; cbv⟩
def zz9:Mx.Fn:=⟨140,
 .seq (rg [oO 1 0,
 ⟨some 2,.alloc [(.int .i64 0),(.slice none 0 0),(.slice none 0 0),(.slice none 0 0),(.slice none 0 0)],none⟩,
 oK 3 0])
 (.seq (.seq (rg [oF 15 0 1,
 oL 16 15,
 oD 17 .lss 16 1,
 oM 18 17,
 oFg 19 0 1 18 false,
 oLg 20 19 18 false,
 oDg 21 .gtr 20 60 18 false,
 ⟨some 22,.pick (.s 18) (.c (.bool true)) (.s 21),none⟩,
 oM 23 22,
 oFg 24 1 1 23 false,
 oLg 25 24 23 false,
 ⟨some 26,.len (.s 25),some (23,false)⟩,
 oDg 27 .lss 26 1 23 false,
 ⟨some 28,.pick (.s 23) (.c (.bool true)) (.s 27),none⟩,
 oM 29 28,
 oFg 30 1 1 29 false,
 oLg 31 30 29 false,
 ⟨some 32,.len (.s 31),some (29,false)⟩,
 oDg 33 .gtr 32 8 29 false,
 ⟨some 34,.pick (.s 29) (.c (.bool true)) (.s 33),none⟩])
 (.cond (.s 34)
 (.seq (rg [⟨some 35,.build [(.int .i64 0),(.slice none 0 0),(.slice none 0 0),(.slice none 0 0),(.slice none 0 0)] [],none⟩,
 oS 5 2 35,
 oK 3 50])
 (.ret))
 (.skip)))
 (.seq (.reg true false [
 oN 36 2 1,
 oF 37 1 1,
 oL 38 37,
 oE 39 38,
 oF 41 1 1,
 oL 42 41,
 oE 43 42,
 ⟨some 40,.mk 1 8 [(.int .i64 0)] (.s 39) (.s 39),none⟩,
 ⟨some 44,.mk 1 8 [(.int .u64 0)] (.s 43) (.s 43),none⟩,
 ⟨some 45,.build [(.int .i64 0),(.slice none 0 0),(.slice none 0 0),(.slice none 0 0),(.slice none 0 0)] [(0,2,(.s 36)),(2,1,(.s 40)),(3,1,(.s 44))],none⟩,
 ⟨some 4,.alloc [(.int .i64 0),(.slice none 0 0),(.slice none 0 0),(.slice none 0 0),(.slice none 0 0)],none⟩,
 oS 5 4 45])
 (.seq (rg [oK 5 1])
 (.seq (.seq (rg [oF 46 0 4,
 oF 47 1 46,
 oL 48 47,
 oE 49 48,
 oK 50 0])
 (.block 0 (.loop (.seq (rg [oB 51 .lss 50 49])
 (.seq (.cond (.s 51)
 (.skip)
 (.exit 0))
 (.seq (.block 1 (.seq (rg [oM 52 50,
 oI 53 3 48 50,
 oN 54 3 53,
 ⟨some 7,.alloc [(.int .i64 0),(.slice none 0 0),(.slice none 0 0)],none⟩,
 oM 6 52,
 oS 3 7 54])
 (.seq (.seq (rg [oF 55 0 7,
 oL 56 55,
 oD 57 .lss 56 1,
 oM 58 57,
 oFg 59 0 7 58 false,
 oLg 60 59 58 false,
 oDg 61 .gtr 60 4 58 false,
 ⟨some 62,.pick (.s 58) (.c (.bool true)) (.s 61),none⟩])
 (.cond (.s 62)
 (.seq (rg [⟨some 63,.build [(.int .i64 0),(.slice none 0 0),(.slice none 0 0),(.slice none 0 0),(.slice none 0 0)] [],none⟩,
 oS 5 2 63,
 oK 3 50])
 (.ret))
 (.skip)))
 (.seq (rg [oF 64 2 4,
 oL 65 64,
 oM 66 6,
 oF 67 0 7,
 oL 68 67,
 oI 69 1 65 66,
 oS 1 69 68])
 (rg [oM 70 5,
 oF 71 0 7,
 oL 72 71,
 oB 73 .mul 70 72,
 oM 5 73])))))
 (rg [oD 74 .add 50 1,
 oM 50 74])))))))
 (.seq (.seq (rg [oM 75 5,
 oD 76 .gtr 75 1024])
 (.cond (.s 76)
 (.seq (rg [⟨some 77,.build [(.int .i64 0),(.slice none 0 0),(.slice none 0 0),(.slice none 0 0),(.slice none 0 0)] [],none⟩,
 oS 5 2 77,
 oK 3 50])
 (.ret))
 (.skip)))
 (.seq (.seq (rg [oF 78 0 4,
 oF 79 1 78,
 oL 80 79,
 oE 81 80,
 oK 82 0])
 (.block 2 (.loop (.seq (rg [oB 83 .lss 82 81])
 (.seq (.cond (.s 83)
 (.skip)
 (.exit 2))
 (.seq (.block 3 (.seq (rg [oM 84 82,
 oI 85 3 80 82,
 oN 86 3 85,
 ⟨some 9,.alloc [(.int .i64 0),(.slice none 0 0),(.slice none 0 0)],none⟩,
 oM 8 84,
 oS 3 9 86])
 (.seq (rg [⟨some 10,.mov (.c (.int .i64 (-1))),none⟩])
 (.seq (.seq (rg [oF 87 1 9,
 oL 88 87,
 oE 89 88,
 oK 90 0])
 (.block 4 (.loop (.seq (rg [oB 91 .lss 90 89])
 (.seq (.cond (.s 91)
 (.skip)
 (.exit 4))
 (.seq (.block 5 (.seq (rg [oI 92 1 88 90,
 oL 93 92,
 oM 12 93])
 (.seq (.seq (rg [oM 94 12,
 oM 95 10,
 oB 96 .leq 94 95,
 oM 97 96,
 oMg 98 12 97 false,
 oFg 99 0 4 97 false,
 oFg 100 1 99 97 false,
 oLg 101 100 97 false,
 ⟨some 102,.len (.s 101),some (97,false)⟩,
 ⟨some 103,.bin .geq (.s 98) (.s 102),some (97,false)⟩,
 ⟨some 104,.pick (.s 97) (.c (.bool true)) (.s 103),none⟩,
 oM 105 104,
 oMg 106 12 105 false,
 oMg 107 8 105 false,
 ⟨some 108,.bin .eql (.s 106) (.s 107),some (105,false)⟩,
 ⟨some 109,.pick (.s 105) (.c (.bool true)) (.s 108),none⟩])
 (.cond (.s 109)
 (.seq (rg [⟨some 110,.build [(.int .i64 0),(.slice none 0 0),(.slice none 0 0),(.slice none 0 0),(.slice none 0 0)] [],none⟩,
 oS 5 2 110,
 oK 3 50])
 (.ret))
 (.skip)))
 (.seq (rg [oM 111 12,
 oM 10 111])
 (.reg true false [
 oF 112 3 4,
 oL 113 112,
 oM 114 8,
 oI 115 1 113 114,
 oL 116 115,
 oM 117 12,
 ⟨some 118,.bin .shl (.c (.int .u64 1)) (.s 117),none⟩,
 oB 119 .or 116 118,
 oI 120 1 113 114,
 oS 1 120 119])))))
 (rg [oD 121 .add 90 1,
 oM 90 121])))))))
 (.seq (rg [oN 122 5 4,
 oN 123 3 9,
 oV 124 123 122 123,
 ⟨some 125,.un .not (.s 124),none⟩])
 (.cond (.s 125)
 (.seq (rg [⟨some 126,.build [(.int .i64 0),(.slice none 0 0),(.slice none 0 0),(.slice none 0 0),(.slice none 0 0)] [],none⟩,
 oS 5 2 126,
 oK 3 50])
 (.ret))
 (.skip)))))))
 (rg [oD 127 .add 82 1,
 oM 82 127])))))))
 (.seq (rg [oF 129 3 4,
 oL 130 129,
 oU 131 124 130,
 oM 128 131,
 oX 132 128 0,
 oX 133 128 1,
 oM 13 132,
 oM 14 133])
 (.seq (.seq (rg [oM 134 14,
 ⟨some 135,.un .not (.s 134),none⟩])
 (.cond (.s 135)
 (.seq (rg [⟨some 136,.build [(.int .i64 0),(.slice none 0 0),(.slice none 0 0),(.slice none 0 0),(.slice none 0 0)] [],none⟩,
 oS 5 2 136,
 oK 3 50])
 (.ret))
 (.skip)))
 (.seq (rg [oM 137 13,
 oF 138 4 4,
 oS 1 138 137])
 (.seq (rg [oN 139 5 4,
 oS 5 2 139,
 oK 3 0])
 (.ret))))))))))),
 [.cell 2 (some 5),.tmp 3],false⟩
def e77:cF 77:=⟨some zz9,by kernel_rfl⟩
def zAg:Mx.Fn:=⟨105,
 .seq (rg [oO 2 0,
 ⟨some 4,.alloc [(.slice none 0 0),(.slice none 0 0),(.slice none 0 0)],none⟩])
 (.seq (rg [oF 16 0 2,
 oF 17 1 16,
 oL 18 17,
 oM 19 1,
 oI 20 3 18 19,
 oN 21 3 20,
 ⟨some 5,.alloc [(.int .i64 0),(.slice none 0 0),(.slice none 0 0)],none⟩,
 oS 3 5 21])
 (.seq (rg [oF 23 1 5,
 oL 24 23,
 oM 25 1,
 oV 26 125 24 25,
 oM 22 26,
 oX 27 22 0,
 oX 28 22 1,
 oM 6 27,
 oM 7 28])
 (.seq (rg [oF 29 1 5,
 oL 30 29,
 oU 31 49 30,
 oM 32 6,
 oM 33 1,
 ⟨some 34,.bsl 1 1 [(.int .i64 0)] [(0,(.s 33))],none⟩,
 ⟨some 35,.call 126 [(.s 31),(.s 32),(.s 34)],none⟩,
 ⟨some 36,.build [(.slice none 0 0),(.slice none 0 0),(.slice none 0 0)] [(0,1,(.s 35))],none⟩,
 ⟨some 8,.alloc [(.slice none 0 0),(.slice none 0 0),(.slice none 0 0)],none⟩,
 oS 3 8 36])
 (.seq (rg [⟨some 9,.alloc [(.int .i64 0)],none⟩,
 ⟨none,.store 1 (.s 9) (.c (.int .i64 1)),none⟩])
 (.seq (.seq (rg [oF 37 0 8,
 oL 38 37,
 oE 39 38,
 oK 40 0])
 (.block 0 (.loop (.seq (rg [oB 41 .lss 40 39])
 (.seq (.cond (.s 41)
 (.skip)
 (.exit 0))
 (.seq (.block 1 (.seq (rg [oM 42 40,
 oI 43 1 38 40,
 oL 44 43,
 oM 10 42,
 oM 11 44])
 (.seq (.reg true false [
 oF 45 1 8,
 oL 46 45,
 oF 47 2 2,
 oL 48 47,
 oM 49 11,
 oI 50 1 48 49,
 oL 51 50,
 ⟨some 52,.bsl 1 1 [(.int .i64 0)] [(0,(.s 51))],none⟩,
 oT 53 1 8 46 52,
 oF 54 1 8,
 oS 1 54 53])
 (.seq (rg [oM 55 10,
 oM 56 6,
 oB 57 .gtr 55 56])
 (.cond (.s 57)
 (.reg true false [
 oL 58 9,
 oF 59 2 2,
 oL 60 59,
 oM 61 11,
 oI 62 1 60 61,
 oL 63 62,
 oB 64 .mul 58 63,
 oS 1 9 64])
 (.skip))))))
 (rg [oD 65 .add 40 1,
 oM 40 65])))))))
 (.seq (rg [oF 66 2 5,
 oL 67 66,
 oE 68 67,
 oF 69 0 5,
 oL 70 69,
 oB 71 .mul 68 70,
 ⟨some 72,.mk 1 8 [(.int .i64 0)] (.s 71) (.s 71),none⟩,
 oF 73 2 8,
 oS 1 73 72])
 (.seq (.seq (rg [oN 74 3 5,
 oU 75 127 74])
 (.block 2 (.zex (.s 75) [76,77] (.seq (rg [oM 12 76])
 (rg [oM 13 77]))
 (.block 3 (.seq (rg [oM 78 13,
 oE 79 78,
 oK 80 0])
 (.block 4 (.loop (.seq (rg [oB 81 .lss 80 79])
 (.seq (.cond (.s 81)
 (.skip)
 (.exit 4))
 (.seq (.block 5 (.seq (rg [oM 82 80,
 oI 83 1 78 80,
 oL 84 83,
 oM 14 82,
 oM 15 84])
 (.reg true false [
 oF 85 2 8,
 oL 86 85,
 oM 87 12,
 oL 88 9,
 oB 89 .quo 87 88,
 oF 90 0 5,
 oL 91 90,
 oB 92 .mul 89 91,
 oM 93 14,
 oB 94 .add 92 93,
 oL 95 9,
 oB 96 .mul 94 95,
 oM 97 12,
 oL 98 9,
 oB 99 .rem 97 98,
 oB 100 .add 96 99,
 oM 101 15,
 oI 102 1 86 100,
 oS 1 102 101])))
 (rg [oD 103 .add 80 1,
 oM 80 103])))))))))))
 (.seq (rg [oN 104 3 8,
 oS 3 4 104])
 (.ret))))))))),
 [.cell 4 (some 3)],false⟩
def e78:cF 78:=⟨some zAg,by kernel_rfl⟩
def e92:cF 92:=⟨_,by conv=>rhs; cbv⟩
def zAA:cF 113:=⟨_,by conv=>rhs; cbv⟩
def zAv:cF 114:=⟨_,by conv=>rhs; cbv⟩
def zAs:cF 115:=⟨_,by conv=>rhs; cbv⟩
def zAw:cF 116:=⟨_,by conv=>rhs; cbv⟩
def zA5:cF 117:=⟨_,by conv=>rhs; cbv⟩
def zz6:cF 118:=⟨_,by conv=>rhs; cbv⟩
def zAR:cF 119:=⟨_,by conv=>rhs; cbv⟩
def zAX:cF 120:=⟨_,by conv=>rhs; cbv⟩
def zAM:cF 121:=⟨_,by conv=>rhs; cbv⟩
def zAN:cF 122:=⟨_,by conv=>rhs; cbv⟩
def zAD:cF 123:=⟨_,by conv=>rhs; cbv⟩
def zzW:cF 124:=⟨_,by conv=>rhs; cbv⟩
def zAn:cF 125:=⟨_,by conv=>rhs; cbv⟩
def zAH:cF 126:=⟨_,by conv=>rhs; cbv⟩
def zAO:cF 127:=⟨_,by conv=>rhs; cbv⟩
def zAp:cF 134:=⟨_,by conv=>rhs; cbv⟩
def zz4:cF 145:=⟨_,by conv=>rhs; cbv⟩
def zAI:cF 150:=⟨_,by conv=>rhs; cbv⟩
def zA1:cF 151:=⟨_,by conv=>rhs; cbv⟩
def zz7:cF 152:=⟨_,by conv=>rhs; cbv⟩
def zAZ:cF 153:=⟨_,by conv=>rhs; cbv⟩
def zA8:cF 155:=⟨_,by conv=>rhs; cbv⟩
def zAm:cF 156:=⟨_,by conv=>rhs; cbv⟩
def zAK:cF 163:=⟨_,by conv=>rhs; cbv⟩
def zA4:cF 164:=⟨_,by conv=>rhs; cbv⟩
def zAi:cF 165:=⟨_,by conv=>rhs; cbv⟩
def zyJ:Mx.Fn:=⟨28,
 .seq (rg [oM 4 0,
 oE 5 4,
 oD 6 .sub 5 1,
 oK 2 0,
 oM 3 6])
 (.block 0 (.loop (.seq (.seq (rg [oM 7 2,
 oM 8 3,
 oB 9 .lss 7 8])
 (.cond (.s 9)
 (.skip)
 (.exit 0)))
 (.seq (.block 1 (.reg true false [
 oM 14 0,
 oM 15 2,
 oM 16 0,
 oM 17 3,
 oM 18 0,
 oM 19 3,
 oI 20 1 18 19,
 oL 21 20,
 oM 22 0,
 oM 23 2,
 oI 24 1 22 23,
 oL 25 24,
 oI 26 1 14 15,
 oS 1 26 21,
 oI 27 1 16 17,
 oS 1 27 25]))
 (rg [oM 10 2,
 oD 11 .add 10 1,
 oM 12 3,
 oD 13 .sub 12 1,
 oM 2 11,
 oM 3 13]))))),
 [],false⟩
def zAS:cF 167:=⟨some zyJ,by kernel_rfl⟩
def tab:List ((f:Nat)×cF f):=[⟨14,e14⟩,⟨16,e16⟩,⟨49,e49⟩,⟨51,e51⟩,⟨52,e52⟩,⟨53,e53⟩,⟨54,e54⟩,⟨55,e55⟩,⟨56,e56⟩,⟨57,e57⟩,⟨58,e58⟩,⟨59,e59⟩,⟨60,e60⟩,⟨61,e61⟩,⟨62,e62⟩,⟨63,e63⟩,⟨64,e64⟩,⟨65,e65⟩,⟨66,e66⟩,⟨67,e67⟩,⟨68,e68⟩,⟨69,e69⟩,⟨70,e70⟩,⟨71,e71⟩,⟨72,e72⟩,⟨73,e73⟩,⟨74,e74⟩,⟨77,e77⟩,⟨78,e78⟩,⟨92,e92⟩,⟨113,zAA⟩,⟨114,zAv⟩,⟨115,zAs⟩,⟨116,zAw⟩,⟨117,zA5⟩,⟨118,zz6⟩,⟨119,zAR⟩,⟨120,zAX⟩,⟨121,zAM⟩,⟨122,zAN⟩,⟨123,zAD⟩,⟨124,zzW⟩,⟨125,zAn⟩,⟨126,zAH⟩,⟨127,zAO⟩,⟨134,zAp⟩,⟨145,zz4⟩,⟨150,zAI⟩,⟨151,zA1⟩,⟨152,zz7⟩,⟨153,zAZ⟩,⟨155,zA8⟩,⟨156,zAm⟩,⟨163,zAK⟩,⟨164,zA4⟩,⟨165,zAi⟩,⟨167,zAS⟩]
end Go.Proofs.Ytnfgibomhkbcpaa.W
