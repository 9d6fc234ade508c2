/-
 The plain form of the functions that the closed check reaches, written down by cbv, but for a few, which are printed and held against the loaded program by the kernel. Conditions: none.
-/
import Derived.Test.YtbjogdohfhdaiaaGreatErMxG
import Derived.Test.YtbjogdohfhdaiaaGreatRows
set_option linter.unusedSimpArgs false
set_option linter.unusedVariables false
set_option maxRecDepth 100000
set_option maxHeartbeats 4000000
namespace Go.Proofs.YtbjogdohfhdaiaaGreat.W
open Go Go.Mx
def rg(l:List O):C:=.reg false false l
def oMg(a b g:Nat)(t:Bool):O:=⟨some a,.mov (.s b),some (g,t)⟩
def oLg(a b g:Nat)(t:Bool):O:=⟨some a,.load none (.s b),some (g,t)⟩
def oFg(a n b g:Nat)(t:Bool):O:=⟨some a,.fld n (.s b),some (g,t)⟩
def oW(a b:Nat):O:=⟨some a,.box (.s b),none⟩
def oZ(a b:Nat):O:=⟨some a,.nilck (.s b),none⟩
def oU(a f b:Nat):O:=⟨some a,.call f [.s b],none⟩
def oV(a f b c:Nat):O:=⟨some a,.call f [.s b,.s c],none⟩
def oT(a n k b c:Nat):O:=⟨some a,.app n k (.s b) (.s c),none⟩
def oJ(a:Nat)(t:Bool):O:=⟨some a,.mov (.c (.bool t)),none⟩
def oDg(a:Nat)(p:BinOp)(b:Nat)(n:Int)(g:Nat)(t:Bool):O:=⟨some a,.bin p (.s b) (.c (.int .i64 n)),some (g,t)⟩
def oDu(a:Nat)(p:BinOp)(b:Nat)(n:Int):O:=⟨some a,.bin p (.s b) (.c (.int .u64 n)),none⟩
def oM(a b:Nat):O:=⟨some a,.mov (.s b),none⟩
def oK(a n:Nat):O:=⟨some a,.mov (.c (.int .i64 (.ofNat n))),none⟩
def oL(a b:Nat):O:=⟨some a,.load none (.s b),none⟩
def oN(a n b:Nat):O:=⟨some a,.load (some n) (.s b),none⟩
def oF(a n b:Nat):O:=⟨some a,.fld n (.s b),none⟩
def oI(a n b c:Nat):O:=⟨some a,.idxS n (.s b) (.s c),none⟩
def oS(n b c:Nat):O:=⟨none,.store n (.s b) (.s c),none⟩
def oE(a b:Nat):O:=⟨some a,.len (.s b),none⟩
def oX(a b n:Nat):O:=⟨some a,.ext (.s b) n,none⟩
def oB(a:Nat)(p:BinOp)(b c:Nat):O:=⟨some a,.bin p (.s b) (.s c),none⟩
def oD(a:Nat)(p:BinOp)(b n:Nat):O:=⟨some a,.bin p (.s b) (.c (.int .i64 (.ofNat n))),none⟩
def oO(a b:Nat):O:=⟨some a,.box (.s b),none⟩
def oP(a b c:Nat)(t:Bool):O:=⟨some a,.pick (.s b) (.s c) (.c (.bool t)),none⟩
def pl:List Nat:=[]
abbrev cF(f:Nat):Type:={ y:Option Mx.Fn // y=zFo Tryz.prog pl f }
def e10:cF 10:=⟨_,by conv=>rhs; cbv⟩
def e14:cF 14:=⟨_,by conv=>rhs; cbv⟩
def e15:cF 15:=⟨_,by conv=>rhs; cbv⟩
def e18:cF 18:=⟨_,by conv=>rhs; cbv⟩
def e20:cF 20:=⟨_,by conv=>rhs; cbv⟩
def e22:cF 22:=⟨_,by conv=>rhs; cbv⟩
def e33:cF 33:=⟨_,by conv=>rhs; cbv⟩
def e34:cF 34:=⟨_,by conv=>rhs; cbv⟩
def e39:cF 39:=⟨_,by conv=>rhs; cbv⟩
def e40:cF 40:=⟨_,by conv=>rhs; cbv⟩
def e41:cF 41:=⟨_,by conv=>rhs; cbv⟩
def e42:cF 42:=⟨_,by conv=>rhs; cbv⟩
def e43:cF 43:=⟨_,by conv=>rhs; cbv⟩
def e50:cF 50:=⟨_,by conv=>rhs; cbv⟩
def e51:cF 51:=⟨_,by conv=>rhs; cbv⟩
def e52:cF 52:=⟨_,by conv=>rhs; cbv⟩
def zH7:Mx.Fn:=⟨140,
 .seq (rg [oO 1 0,
 ⟨some 2,.alloc [(.int .i64 0),(.slice none 0 0),(.slice none 0 0),(.slice none 0 0),(.slice none 0 0)],none⟩,
 oK 3 0])
 (.seq (.seq (rg [oF 15 0 1,
 oL 16 15,
 oD 17 .lss 16 1,
 oM 18 17,
 oFg 19 0 1 18 false,
 oLg 20 19 18 false,
 oDg 21 .gtr 20 60 18 false,
 ⟨some 22,.pick (.s 18) (.c (.bool true)) (.s 21),none⟩,
 oM 23 22,
 oFg 24 1 1 23 false,
 oLg 25 24 23 false,
 ⟨some 26,.len (.s 25),some (23,false)⟩,
 oDg 27 .lss 26 1 23 false,
 ⟨some 28,.pick (.s 23) (.c (.bool true)) (.s 27),none⟩,
 oM 29 28,
 oFg 30 1 1 29 false,
 oLg 31 30 29 false,
 ⟨some 32,.len (.s 31),some (29,false)⟩,
 oDg 33 .gtr 32 8 29 false,
 ⟨some 34,.pick (.s 29) (.c (.bool true)) (.s 33),none⟩])
 (.cond (.s 34)
 (.seq (rg [⟨some 35,.build [(.int .i64 0),(.slice none 0 0),(.slice none 0 0),(.slice none 0 0),(.slice none 0 0)] [],none⟩,
 oS 5 2 35,
 oK 3 50])
 (.ret))
 (.skip)))
 (.seq (.reg true false [
 oN 36 2 1,
 oF 37 1 1,
 oL 38 37,
 oE 39 38,
 oF 41 1 1,
 oL 42 41,
 oE 43 42,
 ⟨some 40,.mk 1 8 [(.int .i64 0)] (.s 39) (.s 39),none⟩,
 ⟨some 44,.mk 1 8 [(.int .u64 0)] (.s 43) (.s 43),none⟩,
 ⟨some 45,.build [(.int .i64 0),(.slice none 0 0),(.slice none 0 0),(.slice none 0 0),(.slice none 0 0)] [(0,2,(.s 36)),(2,1,(.s 40)),(3,1,(.s 44))],none⟩,
 ⟨some 4,.alloc [(.int .i64 0),(.slice none 0 0),(.slice none 0 0),(.slice none 0 0),(.slice none 0 0)],none⟩,
 oS 5 4 45])
 (.seq (rg [oK 5 1])
 (.seq (.seq (rg [oF 46 0 4,
 oF 47 1 46,
 oL 48 47,
 oE 49 48,
 oK 50 0])
 (.block 0 (.loop (.seq (rg [oB 51 .lss 50 49])
 (.seq (.cond (.s 51)
 (.skip)
 (.exit 0))
 (.seq (.block 1 (.seq (rg [oM 52 50,
 oI 53 3 48 50,
 oN 54 3 53,
 ⟨some 7,.alloc [(.int .i64 0),(.slice none 0 0),(.slice none 0 0)],none⟩,
 oM 6 52,
 oS 3 7 54])
 (.seq (.seq (rg [oF 55 0 7,
 oL 56 55,
 oD 57 .lss 56 1,
 oM 58 57,
 oFg 59 0 7 58 false,
 oLg 60 59 58 false,
 oDg 61 .gtr 60 4 58 false,
 ⟨some 62,.pick (.s 58) (.c (.bool true)) (.s 61),none⟩])
 (.cond (.s 62)
 (.seq (rg [⟨some 63,.build [(.int .i64 0),(.slice none 0 0),(.slice none 0 0),(.slice none 0 0),(.slice none 0 0)] [],none⟩,
 oS 5 2 63,
 oK 3 50])
 (.ret))
 (.skip)))
 (.seq (rg [oF 64 2 4,
 oL 65 64,
 oM 66 6,
 oF 67 0 7,
 oL 68 67,
 oI 69 1 65 66,
 oS 1 69 68])
 (rg [oM 70 5,
 oF 71 0 7,
 oL 72 71,
 oB 73 .mul 70 72,
 oM 5 73])))))
 (rg [oD 74 .add 50 1,
 oM 50 74])))))))
 (.seq (.seq (rg [oM 75 5,
 oD 76 .gtr 75 1024])
 (.cond (.s 76)
 (.seq (rg [⟨some 77,.build [(.int .i64 0),(.slice none 0 0),(.slice none 0 0),(.slice none 0 0),(.slice none 0 0)] [],none⟩,
 oS 5 2 77,
 oK 3 50])
 (.ret))
 (.skip)))
 (.seq (.seq (rg [oF 78 0 4,
 oF 79 1 78,
 oL 80 79,
 oE 81 80,
 oK 82 0])
 (.block 2 (.loop (.seq (rg [oB 83 .lss 82 81])
 (.seq (.cond (.s 83)
 (.skip)
 (.exit 2))
 (.seq (.block 3 (.seq (rg [oM 84 82,
 oI 85 3 80 82,
 oN 86 3 85,
 ⟨some 9,.alloc [(.int .i64 0),(.slice none 0 0),(.slice none 0 0)],none⟩,
 oM 8 84,
 oS 3 9 86])
 (.seq (rg [⟨some 10,.mov (.c (.int .i64 (-1))),none⟩])
 (.seq (.seq (rg [oF 87 1 9,
 oL 88 87,
 oE 89 88,
 oK 90 0])
 (.block 4 (.loop (.seq (rg [oB 91 .lss 90 89])
 (.seq (.cond (.s 91)
 (.skip)
 (.exit 4))
 (.seq (.block 5 (.seq (rg [oI 92 1 88 90,
 oL 93 92,
 oM 12 93])
 (.seq (.seq (rg [oM 94 12,
 oM 95 10,
 oB 96 .leq 94 95,
 oM 97 96,
 oMg 98 12 97 false,
 oFg 99 0 4 97 false,
 oFg 100 1 99 97 false,
 oLg 101 100 97 false,
 ⟨some 102,.len (.s 101),some (97,false)⟩,
 ⟨some 103,.bin .geq (.s 98) (.s 102),some (97,false)⟩,
 ⟨some 104,.pick (.s 97) (.c (.bool true)) (.s 103),none⟩,
 oM 105 104,
 oMg 106 12 105 false,
 oMg 107 8 105 false,
 ⟨some 108,.bin .eql (.s 106) (.s 107),some (105,false)⟩,
 ⟨some 109,.pick (.s 105) (.c (.bool true)) (.s 108),none⟩])
 (.cond (.s 109)
 (.seq (rg [⟨some 110,.build [(.int .i64 0),(.slice none 0 0),(.slice none 0 0),(.slice none 0 0),(.slice none 0 0)] [],none⟩,
 oS 5 2 110,
 oK 3 50])
 (.ret))
 (.skip)))
 (.seq (rg [oM 111 12,
 oM 10 111])
 (.reg true false [
 oF 112 3 4,
 oL 113 112,
 oM 114 8,
 oI 115 1 113 114,
 oL 116 115,
 oM 117 12,
 ⟨some 118,.bin .shl (.c (.int .u64 1)) (.s 117),none⟩,
 oB 119 .or 116 118,
 oI 120 1 113 114,
 oS 1 120 119])))))
 (rg [oD 121 .add 90 1,
 oM 90 121])))))))
 (.seq (rg [oN 122 5 4,
 oN 123 3 9,
 oV 124 87 122 123,
 ⟨some 125,.un .not (.s 124),none⟩])
 (.cond (.s 125)
 (.seq (rg [⟨some 126,.build [(.int .i64 0),(.slice none 0 0),(.slice none 0 0),(.slice none 0 0),(.slice none 0 0)] [],none⟩,
 oS 5 2 126,
 oK 3 50])
 (.ret))
 (.skip)))))))
 (rg [oD 127 .add 82 1,
 oM 82 127])))))))
 (.seq (rg [oF 129 3 4,
 oL 130 129,
 oU 131 88 130,
 oM 128 131,
 oX 132 128 0,
 oX 133 128 1,
 oM 13 132,
 oM 14 133])
 (.seq (.seq (rg [oM 134 14,
 ⟨some 135,.un .not (.s 134),none⟩])
 (.cond (.s 135)
 (.seq (rg [⟨some 136,.build [(.int .i64 0),(.slice none 0 0),(.slice none 0 0),(.slice none 0 0),(.slice none 0 0)] [],none⟩,
 oS 5 2 136,
 oK 3 50])
 (.ret))
 (.skip)))
 (.seq (rg [oM 137 13,
 oF 138 4 4,
 oS 1 138 137])
 (.seq (rg [oN 139 5 4,
 oS 5 2 139,
 oK 3 0])
 (.ret))))))))))),
 [.cell 2 (some 5),.tmp 3],false⟩
def e59:cF 59:=⟨some zH7,by kernel_rfl⟩
def e60:cF 60:=⟨_,by conv=>rhs; cbv⟩
def e67:cF 67:=⟨_,by conv=>rhs; cbv⟩
def e68:cF 68:=⟨_,by conv=>rhs; cbv⟩
def e69:cF 69:=⟨_,by conv=>rhs; cbv⟩
def e70:cF 70:=⟨_,by conv=>rhs; cbv⟩
def e71:cF 71:=⟨_,by conv=>rhs; cbv⟩
def e74:cF 74:=⟨_,by conv=>rhs; cbv⟩
def e75:cF 75:=⟨_,by conv=>rhs; cbv⟩
def e76:cF 76:=⟨_,by conv=>rhs; cbv⟩
def zIg:Mx.Fn:=⟨100,
 .seq (rg [oO 3 0,
 oO 5 2,
 ⟨some 6,.alloc [(.slice none 0 0),(.slice none 0 0),(.slice none 0 0)],none⟩,
 oK 7 0])
 (.seq (rg [oN 17 3 3,
 oU 18 93 17,
 oM 16 18,
 oX 19 16 0,
 oX 20 16 1,
 ⟨some 8,.alloc [(.slice none 0 0),(.slice none 0 0),(.slice none 0 0),(.slice none 0 0)],none⟩,
 oS 4 8 19,
 oM 9 20])
 (.seq (.seq (rg [oM 21 9,
 oD 22 .neq 21 0])
 (.cond (.s 22)
 (.seq (rg [⟨some 23,.build [(.slice none 0 0),(.slice none 0 0),(.slice none 0 0)] [],none⟩,
 oM 24 9,
 oS 3 6 23,
 oM 7 24])
 (.ret))
 (.skip)))
 (.seq (rg [oN 25 4 8,
 oM 26 1,
 oV 27 107 25 26,
 ⟨some 10,.alloc [(.int .i64 0)],none⟩,
 oS 1 10 27])
 (.seq (.seq (rg [oL 28 10,
 oD 29 .lss 28 0])
 (.cond (.s 29)
 (.seq (rg [⟨some 30,.build [(.slice none 0 0),(.slice none 0 0),(.slice none 0 0)] [],none⟩,
 oS 3 6 30,
 oK 7 4])
 (.ret))
 (.skip)))
 (.seq (.seq (.reg true false [
 oL 31 5,
 oD 32 .lss 31 0,
 oM 33 32,
 oLg 34 5 33 false,
 oFg 35 0 8 33 false,
 oFg 36 1 35 33 false,
 oLg 37 36 33 false,
 oLg 38 10 33 false,
 ⟨some 39,.idxS 1 (.s 37) (.s 38),some (33,false)⟩,
 oLg 40 39 33 false,
 ⟨some 41,.bin .geq (.s 34) (.s 40),some (33,false)⟩,
 ⟨some 42,.pick (.s 33) (.c (.bool true)) (.s 41),none⟩])
 (.cond (.s 42)
 (.seq (rg [⟨some 43,.build [(.slice none 0 0),(.slice none 0 0),(.slice none 0 0)] [],none⟩,
 oS 3 6 43,
 oK 7 2])
 (.ret))
 (.skip)))
 (.seq (.reg true false [
 oF 44 0 8,
 oF 45 0 44,
 oL 46 45,
 oL 48 10,
 oL 49 10,
 oD 50 .add 49 1,
 oU 47 109 46,
 ⟨some 51,.call 108 [(.s 47),(.s 48),(.s 50)],none⟩,
 oM 11 51])
 (.seq (.reg true false [
 oF 52 0 8,
 oF 53 1 52,
 oL 54 53,
 oL 56 10,
 oL 57 10,
 oD 58 .add 57 1,
 oU 55 109 54,
 ⟨some 59,.call 108 [(.s 55),(.s 56),(.s 58)],none⟩,
 oM 12 59])
 (.seq (.reg true false [
 oF 60 0 8,
 oF 61 2 60,
 oL 62 61,
 oE 63 62,
 oF 64 0 8,
 oF 65 1 64,
 oL 66 65,
 oL 67 10,
 oI 68 1 66 67,
 oL 69 68,
 oB 70 .quo 63 69,
 ⟨some 71,.mk 1 8 [(.int .i64 0)] (.s 70) (.s 70),none⟩,
 ⟨some 13,.alloc [(.slice none 0 0)],none⟩,
 oS 1 13 71])
 (.seq (.seq (rg [oM 72 12,
 oN 73 4 8,
 oM 74 11,
 oV 75 111 73 74,
 oV 76 110 72 75])
 (.block 0 (.zey (.s 76) [77,78] (.seq (rg [oM 14 77])
 (rg [oM 15 78]))
 (.block 1 (.reg true false [
 oL 79 13,
 oM 80 14,
 oF 81 0 8,
 oF 82 2 81,
 oL 83 82,
 oM 84 15,
 oL 85 5,
 oF 86 3 8,
 oL 87 86,
 oL 88 10,
 oI 89 1 87 88,
 oL 90 89,
 oB 91 .mul 85 90,
 oB 92 .add 84 91,
 oI 93 1 83 92,
 oL 94 93,
 oI 95 1 79 80,
 oS 1 95 94])))))
 (.seq (rg [oM 96 11,
 oM 97 12,
 oL 98 13,
 ⟨some 99,.build [(.slice none 0 0),(.slice none 0 0),(.slice none 0 0)] [(0,1,(.s 96)),(1,1,(.s 97)),(2,1,(.s 98))],none⟩,
 oS 3 6 99,
 oK 7 0])
 (.ret))))))))))),
 [.cell 6 (some 3),.tmp 7],false⟩
def e77:cF 77:=⟨some zIg,by kernel_rfl⟩
def e78:cF 78:=⟨_,by conv=>rhs; cbv⟩
def e79:cF 79:=⟨_,by conv=>rhs; cbv⟩
def e80:cF 80:=⟨_,by conv=>rhs; cbv⟩
def e81:cF 81:=⟨_,by conv=>rhs; cbv⟩
def e82:cF 82:=⟨_,by conv=>rhs; cbv⟩
def e87:cF 87:=⟨_,by conv=>rhs; cbv⟩
def e88:cF 88:=⟨_,by conv=>rhs; cbv⟩
def e89:cF 89:=⟨_,by conv=>rhs; cbv⟩
def e93:cF 93:=⟨_,by conv=>rhs; cbv⟩
def zIV:Mx.Fn:=⟨112,
 .seq (rg [oO 3 0,
 oO 5 2,
 ⟨some 6,.alloc [(.slice none 0 0),(.slice none 0 0),(.slice none 0 0)],none⟩,
 oK 7 0])
 (.scope (.seq (rg [oM 19 1,
 oE 20 19,
 ⟨some 21,.mk 1 8 [(.int .i64 0)] (.s 20) (.s 20),none⟩,
 oM 8 21,
 oK 9 1])
 (.seq (.seq (rg [oM 22 1,
 oE 23 22,
 oK 24 0])
 (.block 0 (.loop (.seq (rg [oB 25 .lss 24 23])
 (.seq (.cond (.s 25)
 (.skip)
 (.exit 0))
 (.seq (.block 1 (.seq (rg [oM 26 24,
 oI 27 1 22 24,
 oL 28 27,
 oM 10 26,
 oM 11 28])
 (.seq (.reg true true [
 oM 29 8,
 oM 30 10,
 oF 31 0 3,
 oF 32 1 31,
 oL 33 32,
 oN 34 4 3,
 oM 35 11,
 oV 36 107 34 35,
 oI 37 1 33 36,
 oL 38 37,
 oI 39 1 29 30,
 oS 1 39 38])
 (rg [oM 40 9,
 oM 41 8,
 oM 42 10,
 oI 43 1 41 42,
 oL 44 43,
 oB 45 .mul 40 44,
 oM 9 45]))))
 (rg [oD 46 .add 24 1,
 oM 24 46])))))))
 (.seq (.reg true false [
 oM 47 9,
 oF 49 0 3,
 oF 50 0 49,
 oL 51 50,
 oE 52 51,
 ⟨some 48,.mk 1 8 [(.int .i64 0)] (.s 47) (.s 47),none⟩,
 ⟨some 12,.alloc [(.slice none 0 0)],none⟩,
 ⟨none,.avo [(.s 50)] (.s 12),none⟩,
 oS 1 12 48,
 ⟨some 53,.mk 1 8 [(.int .i64 0)] (.s 52) (.s 52),none⟩,
 oM 13 53,
 oK 14 1])
 (.seq (.seq (rg [oM 54 1,
 oE 55 54,
 oD 56 .sub 55 1,
 oM 15 56])
 (.block 2 (.loop (.seq (.seq (rg [oM 57 15,
 oD 58 .geq 57 0])
 (.cond (.s 58)
 (.skip)
 (.exit 2)))
 (.seq (.block 3 (.seq (.reg true false [
 oM 61 13,
 oN 62 4 3,
 oM 63 1,
 oM 64 15,
 oI 65 1 63 64,
 oL 66 65,
 oM 68 14,
 oV 67 107 62 66,
 oI 69 1 61 67,
 oS 1 69 68])
 (rg [oM 70 14,
 oM 71 8,
 oM 72 15,
 oI 73 1 71 72,
 oL 74 73,
 oB 75 .mul 70 74,
 oM 14 75])))
 (rg [oM 59 15,
 oD 60 .sub 59 1,
 oM 15 60]))))))
 (.seq (rg [⟨some 16,.alloc [(.bool false)],none⟩,
 ⟨none,.store 1 (.s 16) (.c (.bool true)),none⟩])
 (.seq (.label 0)
 (.seq (.seq (rg [oF 76 0 3,
 oF 77 1 76,
 oL 78 77,
 oM 79 13,
 oV 80 110 78 79])
 (.block 4 (.zey (.s 80) [81,82] (.seq (rg [oM 17 81])
 (rg [oM 18 82]))
 (.block 5 (.seq (.reg true true [
 oL 84 12,
 oM 85 18,
 oF 86 0 5,
 oL 87 86,
 oL 88 12,
 oM 89 18,
 oI 90 1 88 89,
 oL 91 90,
 oF 92 0 3,
 oF 93 2 92,
 oL 94 93,
 oM 95 17,
 oI 96 1 94 95,
 oL 97 96,
 ⟨some 98,.zd8 (.s 87) [(.s 91),(.s 97)],none⟩,
 oM 83 98,
 oX 99 83 0,
 oX 100 83 1,
 oI 101 1 84 85,
 oS 1 101 99,
 oS 1 16 100])
 (.block 6 (.seq (rg [oL 103 16,
 ⟨some 104,.un .not (.s 103),none⟩,
 oM 102 104])
 (.cond (.s 102)
 (.exit 4)
 (.skip)))))))))
 (.seq (.seq (rg [oL 105 16,
 ⟨some 106,.un .not (.s 105),none⟩])
 (.cond (.s 106)
 (.seq (rg [⟨some 107,.build [(.slice none 0 0),(.slice none 0 0),(.slice none 0 0)] [],none⟩,
 oS 3 6 107,
 oK 7 6])
 (.ret))
 (.skip)))
 (.seq (rg [oM 108 1,
 oM 109 8,
 oL 110 12,
 ⟨some 111,.build [(.slice none 0 0),(.slice none 0 0),(.slice none 0 0)] [(0,1,(.s 108)),(1,1,(.s 109)),(2,1,(.s 110))],none⟩,
 oS 3 6 111,
 oK 7 0])
 (.ret))))))))))),
 [.cell 6 (some 3),.tmp 7],false⟩
def e94:cF 94:=⟨some zIV,by kernel_rfl⟩
def e95:cF 95:=⟨_,by conv=>rhs; cbv⟩
def e96:cF 96:=⟨_,by conv=>rhs; cbv⟩
def zIZ:Mx.Fn:=⟨25,
 .seq (rg [⟨some 2,.alloc [(.int .i64 0),(.int .i64 0)],none⟩])
 (.seq (.reg true true [
 oL 4 0,
 oL 6 1,
 oU 5 99 4,
 oU 7 99 6,
 oV 8 98 5 7,
 oM 3 8])
 (.seq (.reg true true [
 oL 9 0,
 oD 10 .lss 9 0,
 oL 11 1,
 oD 12 .lss 11 0,
 ⟨some 13,.eqb true (.s 10) (.s 12),none⟩,
 oL 14 0,
 oM 16 3,
 oL 19 1,
 oM 21 3,
 oU 15 99 14,
 oB 17 .quo 15 16,
 ⟨some 18,.build [(.int .u64 0),(.int .u64 0)] [(0,1,(.c (.int .u64 0))),(1,1,(.s 17))],none⟩,
 oU 20 99 19,
 oB 22 .quo 20 21,
 ⟨some 23,.build [(.int .u64 0),(.int .u64 0)] [(0,1,(.c (.int .u64 0))),(1,1,(.s 22))],none⟩,
 ⟨some 24,.call 100 [(.s 13),(.s 18),(.s 23)],none⟩,
 oS 2 2 24])
 (.ret))),
 [.cell 2 (some 2)],false⟩
def e97:cF 97:=⟨some zIZ,by kernel_rfl⟩
def e98:cF 98:=⟨_,by conv=>rhs; cbv⟩
def e99:cF 99:=⟨_,by conv=>rhs; cbv⟩
def zIX:cF 100:=⟨_,by conv=>rhs; cbv⟩
def zIv:cF 102:=⟨_,by conv=>rhs; cbv⟩
def zIk:cF 103:=⟨_,by conv=>rhs; cbv⟩
def zGp:Mx.Fn:=⟨105,
 .seq (rg [oO 2 0,
 ⟨some 4,.alloc [(.slice none 0 0),(.slice none 0 0),(.slice none 0 0)],none⟩])
 (.seq (rg [oF 16 0 2,
 oF 17 1 16,
 oL 18 17,
 oM 19 1,
 oI 20 3 18 19,
 oN 21 3 20,
 ⟨some 5,.alloc [(.int .i64 0),(.slice none 0 0),(.slice none 0 0)],none⟩,
 oS 3 5 21])
 (.seq (rg [oF 23 1 5,
 oL 24 23,
 oM 25 1,
 oV 26 122 24 25,
 oM 22 26,
 oX 27 22 0,
 oX 28 22 1,
 oM 6 27,
 oM 7 28])
 (.seq (rg [oF 29 1 5,
 oL 30 29,
 oU 31 109 30,
 oM 32 6,
 oM 33 1,
 ⟨some 34,.bsl 1 1 [(.int .i64 0)] [(0,(.s 33))],none⟩,
 ⟨some 35,.call 123 [(.s 31),(.s 32),(.s 34)],none⟩,
 ⟨some 36,.build [(.slice none 0 0),(.slice none 0 0),(.slice none 0 0)] [(0,1,(.s 35))],none⟩,
 ⟨some 8,.alloc [(.slice none 0 0),(.slice none 0 0),(.slice none 0 0)],none⟩,
 oS 3 8 36])
 (.seq (rg [⟨some 9,.alloc [(.int .i64 0)],none⟩,
 ⟨none,.store 1 (.s 9) (.c (.int .i64 1)),none⟩])
 (.seq (.seq (rg [oF 37 0 8,
 oL 38 37,
 oE 39 38,
 oK 40 0])
 (.block 0 (.loop (.seq (rg [oB 41 .lss 40 39])
 (.seq (.cond (.s 41)
 (.skip)
 (.exit 0))
 (.seq (.block 1 (.seq (rg [oM 42 40,
 oI 43 1 38 40,
 oL 44 43,
 oM 10 42,
 oM 11 44])
 (.seq (.reg true false [
 oF 45 1 8,
 oL 46 45,
 oF 47 2 2,
 oL 48 47,
 oM 49 11,
 oI 50 1 48 49,
 oL 51 50,
 ⟨some 52,.bsl 1 1 [(.int .i64 0)] [(0,(.s 51))],none⟩,
 oT 53 1 8 46 52,
 oF 54 1 8,
 oS 1 54 53])
 (.seq (rg [oM 55 10,
 oM 56 6,
 oB 57 .gtr 55 56])
 (.cond (.s 57)
 (.reg true false [
 oL 58 9,
 oF 59 2 2,
 oL 60 59,
 oM 61 11,
 oI 62 1 60 61,
 oL 63 62,
 oB 64 .mul 58 63,
 oS 1 9 64])
 (.skip))))))
 (rg [oD 65 .add 40 1,
 oM 40 65])))))))
 (.seq (rg [oF 66 2 5,
 oL 67 66,
 oE 68 67,
 oF 69 0 5,
 oL 70 69,
 oB 71 .mul 68 70,
 ⟨some 72,.mk 1 8 [(.int .i64 0)] (.s 71) (.s 71),none⟩,
 oF 73 2 8,
 oS 1 73 72])
 (.seq (.seq (rg [oN 74 3 5,
 oU 75 114 74])
 (.block 2 (.zey (.s 75) [76,77] (.seq (rg [oM 12 76])
 (rg [oM 13 77]))
 (.block 3 (.seq (rg [oM 78 13,
 oE 79 78,
 oK 80 0])
 (.block 4 (.loop (.seq (rg [oB 81 .lss 80 79])
 (.seq (.cond (.s 81)
 (.skip)
 (.exit 4))
 (.seq (.block 5 (.seq (rg [oM 82 80,
 oI 83 1 78 80,
 oL 84 83,
 oM 14 82,
 oM 15 84])
 (.reg true false [
 oF 85 2 8,
 oL 86 85,
 oM 87 12,
 oL 88 9,
 oB 89 .quo 87 88,
 oF 90 0 5,
 oL 91 90,
 oB 92 .mul 89 91,
 oM 93 14,
 oB 94 .add 92 93,
 oL 95 9,
 oB 96 .mul 94 95,
 oM 97 12,
 oL 98 9,
 oB 99 .rem 97 98,
 oB 100 .add 96 99,
 oM 101 15,
 oI 102 1 86 100,
 oS 1 102 101])))
 (rg [oD 103 .add 80 1,
 oM 80 103])))))))))))
 (.seq (rg [oN 104 3 8,
 oS 3 4 104])
 (.ret))))))))),
 [.cell 4 (some 3)],false⟩
def zIU:cF 104:=⟨some zGp,by kernel_rfl⟩
def zIJ:cF 105:=⟨_,by conv=>rhs; cbv⟩
def zIL:cF 106:=⟨_,by conv=>rhs; cbv⟩
def zJa:cF 107:=⟨_,by conv=>rhs; cbv⟩
def zIM:cF 110:=⟨_,by conv=>rhs; cbv⟩
def zIl:cF 111:=⟨_,by conv=>rhs; cbv⟩
def zHg:Mx.Fn:=⟨113,
 .seq (rg [oO 2 0,
 oO 3 1,
 ⟨some 4,.alloc [(.slice none 0 0),(.slice none 0 0),(.slice none 0 0)],none⟩,
 ⟨some 5,.alloc [(.int .i64 0)],none⟩])
 (.seq (rg [oN 20 3 2,
 oU 21 93 20,
 oM 19 21,
 oX 22 19 0,
 oX 23 19 1,
 ⟨some 6,.alloc [(.slice none 0 0),(.slice none 0 0),(.slice none 0 0),(.slice none 0 0)],none⟩,
 oS 4 6 22,
 oM 7 23])
 (.seq (.seq (rg [oM 24 7,
 oD 25 .neq 24 0])
 (.cond (.s 25)
 (.seq (rg [⟨some 26,.build [(.slice none 0 0),(.slice none 0 0),(.slice none 0 0)] [],none⟩,
 oM 27 7,
 oS 3 4 26,
 oS 1 5 27])
 (.ret))
 (.skip)))
 (.seq (rg [oN 29 3 3,
 oU 30 93 29,
 oM 28 30,
 oX 31 28 0,
 oX 32 28 1,
 ⟨some 8,.alloc [(.slice none 0 0),(.slice none 0 0),(.slice none 0 0),(.slice none 0 0)],none⟩,
 oS 4 8 31,
 oM 7 32])
 (.seq (.seq (rg [oM 33 7,
 oD 34 .neq 33 0])
 (.cond (.s 34)
 (.seq (rg [⟨some 35,.build [(.slice none 0 0),(.slice none 0 0),(.slice none 0 0)] [],none⟩,
 oM 36 7,
 oS 3 4 35,
 oS 1 5 36])
 (.ret))
 (.skip)))
 (.seq (.seq (rg [oN 37 4 6,
 oN 38 4 8,
 oV 39 126 37 38,
 ⟨some 40,.un .not (.s 39),none⟩])
 (.cond (.s 40)
 (.seq (rg [⟨some 41,.build [(.slice none 0 0),(.slice none 0 0),(.slice none 0 0)] [],none⟩,
 oS 3 4 41,
 ⟨none,.store 1 (.s 5) (.c (.int .i64 2)),none⟩])
 (.ret))
 (.skip)))
 (.seq (rg [oN 43 4 6,
 oN 44 4 8,
 oV 45 127 43 44,
 oM 42 45,
 oX 46 42 0,
 oX 47 42 1,
 oM 9 46,
 oM 10 47])
 (.seq (rg [oM 49 10,
 oU 50 60 49,
 oM 48 50,
 oX 51 48 0,
 oX 52 48 1,
 oM 11 51,
 oM 7 52])
 (.seq (.seq (rg [oM 53 7,
 oD 54 .neq 53 0])
 (.cond (.s 54)
 (.seq (rg [⟨some 55,.build [(.slice none 0 0),(.slice none 0 0),(.slice none 0 0)] [],none⟩,
 oS 3 4 55,
 ⟨none,.store 1 (.s 5) (.c (.int .i64 3)),none⟩])
 (.ret))
 (.skip)))
 (.seq (rg [oM 56 11,
 ⟨some 57,.mk 1 8 [(.int .i64 0)] (.s 56) (.s 56),none⟩,
 ⟨some 12,.alloc [(.slice none 0 0)],none⟩,
 oS 1 12 57])
 (.seq (.seq (rg [oM 58 10,
 oN 59 4 6,
 oM 60 9,
 oV 61 111 59 60,
 oV 62 110 58 61])
 (.block 0 (.zey (.s 62) [63,64] (.seq (rg [oM 13 63])
 (rg [oM 14 64]))
 (.block 1 (.reg true false [
 oL 65 12,
 oM 66 13,
 oF 67 0 6,
 oF 68 2 67,
 oL 69 68,
 oM 70 14,
 oI 71 1 69 70,
 oL 72 71,
 oI 73 1 65 66,
 oS 1 73 72])))))
 (.seq (.seq (rg [oM 74 10,
 oN 75 4 8,
 oM 76 9,
 oV 77 111 75 76,
 oV 78 110 74 77])
 (.block 2 (.zey (.s 78) [79,80] (.seq (rg [oM 15 79])
 (rg [oM 16 80]))
 (.block 3 (.seq (.reg true false [
 oL 82 12,
 oM 83 15,
 oI 84 1 82 83,
 oL 85 84,
 ⟨some 86,.conv .u64 (.s 85),none⟩,
 oF 87 0 8,
 oF 88 2 87,
 oL 89 88,
 oM 90 16,
 oI 91 1 89 90,
 oL 92 91,
 ⟨some 93,.conv .u64 (.s 92),none⟩,
 oV 94 128 86 93,
 oM 81 94,
 oX 95 81 0,
 oX 96 81 1,
 oM 17 95,
 oM 18 96])
 (.seq (.seq (rg [oM 97 17,
 oDu 98 .neq 97 0,
 oM 99 98,
 oMg 100 18 99 false,
 ⟨some 101,.bin .gtr (.s 100) (.c (.int .u64 4611686018427387903)),some (99,false)⟩,
 ⟨some 102,.pick (.s 99) (.c (.bool true)) (.s 101),none⟩])
 (.cond (.s 102)
 (.seq (rg [⟨some 103,.build [(.slice none 0 0),(.slice none 0 0),(.slice none 0 0)] [],none⟩,
 oS 3 4 103,
 ⟨none,.store 1 (.s 5) (.c (.int .i64 6)),none⟩])
 (.ret))
 (.skip)))
 (rg [oL 104 12,
 oM 105 15,
 oM 106 18,
 ⟨some 107,.conv .i64 (.s 106),none⟩,
 oI 108 1 104 105,
 oS 1 108 107])))))))
 (.seq (rg [oM 109 9,
 oM 110 10,
 oL 111 12,
 ⟨some 112,.build [(.slice none 0 0),(.slice none 0 0),(.slice none 0 0)] [(0,1,(.s 109)),(1,1,(.s 110)),(2,1,(.s 111))],none⟩,
 oS 3 4 112,
 ⟨none,.store 1 (.s 5) (.c (.int .i64 0)),none⟩])
 (.ret))))))))))))),
 [.cell 4 (some 3),.cell 5 none],false⟩
def zJg:cF 112:=⟨some zHg,by kernel_rfl⟩
def zIQ:cF 113:=⟨_,by conv=>rhs; cbv⟩
def zI9:cF 114:=⟨_,by conv=>rhs; cbv⟩
def zIY:cF 118:=⟨_,by conv=>rhs; cbv⟩
def zI6:cF 119:=⟨_,by conv=>rhs; cbv⟩
def zIH:cF 120:=⟨_,by conv=>rhs; cbv⟩
def zIh:cF 121:=⟨_,by conv=>rhs; cbv⟩
def zIp:cF 122:=⟨_,by conv=>rhs; cbv⟩
def zJe:cF 124:=⟨_,by conv=>rhs; cbv⟩
def zHs:Mx.Fn:=⟨65,
 .seq (rg [oL 8 1,
 oE 9 8,
 ⟨some 10,.mk 1 8 [(.int .i64 0)] (.s 9) (.s 9),none⟩,
 oM 4 10,
 oK 5 0,
 oK 6 0])
 (.block 0 (.loop (.block 1 (.seq (.seq (rg [oM 11 0,
 oM 12 5,
 oM 13 6,
 ⟨some 14,.zd8 (.s 11) [(.s 12),(.s 13)],none⟩,
 ⟨some 15,.un .not (.s 14),none⟩])
 (.cond (.s 15)
 (.ret)
 (.skip)))
 (.seq (rg [oL 16 1,
 oE 17 16,
 oD 18 .sub 17 1,
 oM 7 18])
 (.seq (.block 2 (.loop (.seq (.seq (.reg true false [
 oM 19 7,
 oD 20 .geq 19 0,
 oM 21 20,
 oMg 22 4 21 true,
 oMg 23 7 21 true,
 ⟨some 24,.idxS 1 (.s 22) (.s 23),some (21,true)⟩,
 oLg 25 24 21 true,
 oLg 26 1 21 true,
 oMg 27 7 21 true,
 ⟨some 28,.idxS 1 (.s 26) (.s 27),some (21,true)⟩,
 oLg 29 28 21 true,
 oDg 30 .sub 29 1 21 true,
 ⟨some 31,.bin .eql (.s 25) (.s 30),some (21,true)⟩,
 oP 32 21 31 false])
 (.cond (.s 32)
 (.skip)
 (.exit 2)))
 (.block 3 (.seq (.reg true false [
 oM 33 6,
 oM 34 4,
 oM 35 7,
 oI 36 1 34 35,
 oL 37 36,
 oL 38 2,
 oM 39 7,
 oI 40 1 38 39,
 oL 41 40,
 oB 42 .mul 37 41,
 oB 43 .sub 33 42,
 oM 6 43])
 (.seq (rg [oM 44 4,
 oM 45 7,
 oI 46 1 44 45,
 ⟨none,.store 1 (.s 46) (.c (.int .i64 0)),none⟩])
 (rg [oM 47 7,
 oD 48 .sub 47 1,
 oM 7 48])))))))
 (.seq (.seq (rg [oM 49 7,
 oD 50 .lss 49 0])
 (.cond (.s 50)
 (.ret)
 (.skip)))
 (.seq (rg [oM 51 4,
 oM 52 7,
 oI 53 1 51 52,
 oL 54 53,
 oD 55 .add 54 1,
 oI 56 1 51 52,
 oS 1 56 55])
 (.seq (rg [oM 57 6,
 oL 58 2,
 oM 59 7,
 oI 60 1 58 59,
 oL 61 60,
 oB 62 .add 57 61,
 oM 6 62])
 (rg [oM 63 5,
 oD 64 .add 63 1,
 oM 5 64])))))))))),
 [],false⟩
def zI1:cF 125:=⟨some zHs,by kernel_rfl⟩
def zIG:cF 126:=⟨_,by conv=>rhs; cbv⟩
def zI2:cF 127:=⟨_,by conv=>rhs; cbv⟩
def zJi:cF 128:=⟨_,by conv=>rhs; cbv⟩
def zIa:cF 129:=⟨_,by conv=>rhs; cbv⟩
def zIf:cF 130:=⟨_,by conv=>rhs; cbv⟩
def zIW:cF 131:=⟨_,by conv=>rhs; cbv⟩
def zII:cF 132:=⟨_,by conv=>rhs; cbv⟩
def zIn:cF 133:=⟨_,by conv=>rhs; cbv⟩
def zJc:cF 134:=⟨_,by conv=>rhs; cbv⟩
def zIc:cF 135:=⟨_,by conv=>rhs; cbv⟩
def zIA:cF 140:=⟨_,by conv=>rhs; cbv⟩
def tab:List ((f:Nat)×cF f):=[⟨10,e10⟩,⟨14,e14⟩,⟨15,e15⟩,⟨18,e18⟩,⟨20,e20⟩,⟨22,e22⟩,⟨33,e33⟩,⟨34,e34⟩,⟨39,e39⟩,⟨40,e40⟩,⟨41,e41⟩,⟨42,e42⟩,⟨43,e43⟩,⟨50,e50⟩,⟨51,e51⟩,⟨52,e52⟩,⟨59,e59⟩,⟨60,e60⟩,⟨67,e67⟩,⟨68,e68⟩,⟨69,e69⟩,⟨70,e70⟩,⟨71,e71⟩,⟨74,e74⟩,⟨75,e75⟩,⟨76,e76⟩,⟨77,e77⟩,⟨78,e78⟩,⟨79,e79⟩,⟨80,e80⟩,⟨81,e81⟩,⟨82,e82⟩,⟨87,e87⟩,⟨88,e88⟩,⟨89,e89⟩,⟨93,e93⟩,⟨94,e94⟩,⟨95,e95⟩,⟨96,e96⟩,⟨97,e97⟩,⟨98,e98⟩,⟨99,e99⟩,⟨100,zIX⟩,⟨102,zIv⟩,⟨103,zIk⟩,⟨104,zIU⟩,⟨105,zIJ⟩,⟨106,zIL⟩,⟨107,zJa⟩,⟨110,zIM⟩,⟨111,zIl⟩,⟨112,zJg⟩,⟨113,zIQ⟩,⟨114,zI9⟩,⟨118,zIY⟩,⟨119,zI6⟩,⟨120,zIH⟩,⟨121,zIh⟩,⟨122,zIp⟩,⟨124,zJe⟩,⟨125,zI1⟩,⟨126,zIG⟩,⟨127,zI2⟩,⟨128,zJi⟩,⟨129,zIa⟩,⟨130,zIf⟩,⟨131,zIW⟩,⟨132,zII⟩,⟨133,zIn⟩,⟨134,zJc⟩,⟨135,zIc⟩,⟨140,zIA⟩]
end Go.Proofs.YtbjogdohfhdaiaaGreat.W
