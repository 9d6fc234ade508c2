/-
 The plain form of the functions that one law reaches, written down by cbv, but for a few, which are printed and held against the loaded program by the kernel. Conditions: none.
-/
import Derived.Test.YtbjogdohfhdaiaaCfMxH
import Derived.Test.YtbjogdohfhdaiaaRows
set_option linter.unusedSimpArgs false
set_option linter.unusedVariables false
set_option maxRecDepth 100000
set_option maxHeartbeats 4000000
namespace Go.Proofs.Ytbjogdohfhdaiaa.W
open Go Go.Mx
def rg(l:List O):C:=.reg false false l
def oMg(a b g:Nat)(t:Bool):O:=⟨some a,.mov (.s b),some (g,t)⟩
def oLg(a b g:Nat)(t:Bool):O:=⟨some a,.load none (.s b),some (g,t)⟩
def oFg(a n b g:Nat)(t:Bool):O:=⟨some a,.fld n (.s b),some (g,t)⟩
def oW(a b:Nat):O:=⟨some a,.box (.s b),none⟩
def oZ(a b:Nat):O:=⟨some a,.nilck (.s b),none⟩
def oU(a f b:Nat):O:=⟨some a,.call f [.s b],none⟩
def oV(a f b c:Nat):O:=⟨some a,.call f [.s b,.s c],none⟩
def oT(a n k b c:Nat):O:=⟨some a,.app n k (.s b) (.s c),none⟩
def oJ(a:Nat)(t:Bool):O:=⟨some a,.mov (.c (.bool t)),none⟩
def oDg(a:Nat)(p:BinOp)(b:Nat)(n:Int)(g:Nat)(t:Bool):O:=⟨some a,.bin p (.s b) (.c (.int .i64 n)),some (g,t)⟩
def oDu(a:Nat)(p:BinOp)(b:Nat)(n:Int):O:=⟨some a,.bin p (.s b) (.c (.int .u64 n)),none⟩
def oM(a b:Nat):O:=⟨some a,.mov (.s b),none⟩
def oK(a n:Nat):O:=⟨some a,.mov (.c (.int .i64 (.ofNat n))),none⟩
def oL(a b:Nat):O:=⟨some a,.load none (.s b),none⟩
def oN(a n b:Nat):O:=⟨some a,.load (some n) (.s b),none⟩
def oF(a n b:Nat):O:=⟨some a,.fld n (.s b),none⟩
def oI(a n b c:Nat):O:=⟨some a,.idxS n (.s b) (.s c),none⟩
def oS(n b c:Nat):O:=⟨none,.store n (.s b) (.s c),none⟩
def oE(a b:Nat):O:=⟨some a,.len (.s b),none⟩
def oX(a b n:Nat):O:=⟨some a,.ext (.s b) n,none⟩
def oB(a:Nat)(p:BinOp)(b c:Nat):O:=⟨some a,.bin p (.s b) (.s c),none⟩
def oD(a:Nat)(p:BinOp)(b n:Nat):O:=⟨some a,.bin p (.s b) (.c (.int .i64 (.ofNat n))),none⟩
def oO(a b:Nat):O:=⟨some a,.box (.s b),none⟩
def oP(a b c:Nat)(t:Bool):O:=⟨some a,.pick (.s b) (.s c) (.c (.bool t)),none⟩
def pl:List Nat:=[8,11,12,13,20,48,49,54,56,86,92,110,112]
abbrev cF(f:Nat):Type:={ y:Option Mx.Fn // y=zA6 Try.prog pl f }
def e8:cF 8:=⟨_,by conv=>rhs; cbv⟩
def e11:cF 11:=⟨_,by conv=>rhs; cbv⟩
def zDo:Mx.Fn:=⟨78,
 .seq (rg [oO 1 0,
 oJ 2 false,
 oJ 3 false,
 oJ 4 false,
 oK 5 0])
 (.seq (.seq (rg [oN 12 2 1,
 oU 13 11 12,
 oM 5 13])
 (.seq (rg [oM 14 5,
 oD 15 .neq 14 0])
 (.cond (.s 15)
 (.seq (rg [oM 16 5,
 oJ 2 false,
 oJ 3 false,
 oJ 4 false,
 oM 5 16])
 (.ret))
 (.skip))))
 (.seq (rg [oJ 2 true,
 oJ 3 true])
 (.seq (rg [oN 17 2 1,
 oU 18 55 17,
 oM 6 18])
 (.seq (.seq (rg [oF 19 1 1,
 oL 20 19,
 oE 21 20,
 oK 22 0])
 (.block 0 (.loop (.seq (rg [oB 23 .lss 22 21])
 (.seq (.cond (.s 23)
 (.skip)
 (.exit 0))
 (.seq (.block 1 (.seq (rg [oI 24 5 20 22,
 oN 25 5 24,
 ⟨some 8,.alloc [(.int .i64 0),(.int .i64 0),(.int .i64 0),(.int .i64 0),(.slice none 0 0)],none⟩,
 oS 5 8 25])
 (.seq (rg [⟨some 9,.mov (.c (.int .u64 0)),none⟩])
 (.seq (rg [oF 26 4 8,
 oL 27 26,
 oE 28 27,
 oK 29 0])
 (.block 2 (.loop (.seq (rg [oB 30 .lss 29 28])
 (.seq (.cond (.s 30)
 (.skip)
 (.exit 2))
 (.seq (.block 3 (.seq (rg [oI 31 1 27 29,
 oL 32 31,
 oM 11 32])
 (.seq (.seq (rg [oF 33 0 8,
 oL 34 33,
 oD 35 .eql 34 3])
 (.cond (.s 35)
 (.reg true false [
 oM 36 2,
 oM 37 36,
 oMg 38 6 37 true,
 oMg 39 11 37 true,
 ⟨some 40,.idxS 1 (.s 38) (.s 39),some (37,true)⟩,
 oLg 41 40 37 true,
 oMg 42 6 37 true,
 oFg 43 4 8 37 true,
 oLg 44 43 37 true,
 ⟨some 45,.idxS 1 (.s 44) (.c (.int .i64 0)),some (37,true)⟩,
 oLg 46 45 37 true,
 ⟨some 47,.idxS 1 (.s 42) (.s 46),some (37,true)⟩,
 oLg 48 47 37 true,
 ⟨some 49,.bin .eql (.s 41) (.s 48),some (37,true)⟩,
 oP 50 37 49 false,
 oM 2 50])
 (rg [oM 51 3,
 oM 52 51,
 oMg 53 6 52 true,
 oMg 54 11 52 true,
 ⟨some 55,.idxS 1 (.s 53) (.s 54),some (52,true)⟩,
 oLg 56 55 52 true,
 oMg 57 9 52 true,
 ⟨some 58,.bin .and (.s 56) (.s 57),some (52,true)⟩,
 ⟨some 59,.bin .eql (.s 58) (.c (.int .u64 0)),some (52,true)⟩,
 oP 60 52 59 false,
 oM 3 60])))
 (rg [oM 61 9,
 oM 62 6,
 oM 63 11,
 oI 64 1 62 63,
 oL 65 64,
 ⟨some 66,.bsl 1 2 [(.int .u64 0)] [(0,(.s 61)),(1,(.s 65))],none⟩,
 oU 67 56 66,
 oM 9 67]))))
 (rg [oD 68 .add 29 1,
 oM 29 68]))))))))))
 (rg [oD 69 .add 22 1,
 oM 22 69])))))))
 (.seq (rg [oN 71 2 1,
 oU 72 57 71,
 oM 70 72,
 oX 73 70 0,
 oX 74 70 1,
 oM 4 74])
 (.seq (rg [oM 75 2,
 oM 76 3,
 oM 77 4,
 oM 2 75,
 oM 3 76,
 oM 4 77,
 oK 5 0])
 (.ret))))))),
 [.tmp 2,.tmp 3,.tmp 4,.tmp 5],true⟩
def e12:cF 12:=⟨some zDo,by kernel_rfl⟩
def e13:cF 13:=⟨_,by conv=>rhs; cbv⟩
def e20:cF 20:=⟨_,by conv=>rhs; cbv⟩
def e21:cF 21:=⟨_,by conv=>rhs; cbv⟩
def e47:cF 47:=⟨_,by conv=>rhs; cbv⟩
def e48:cF 48:=⟨_,by conv=>rhs; cbv⟩
def e49:cF 49:=⟨_,by conv=>rhs; cbv⟩
def zD9:Mx.Fn:=⟨117,
 .seq (rg [oO 3 0,
 oO 5 2,
 oJ 6 false])
 (.seq (.seq (rg [oF 10 0 5,
 oL 11 10])
 (.block 0 (.seq (rg [oD 13 .eql 11 1,
 oM 12 13])
 (.cond (.s 12)
 (.seq (rg [oF 14 3 5,
 oL 15 14,
 oD 16 .geq 15 0,
 oM 17 16,
 oFg 18 3 5 17 true,
 oLg 19 18 17 true,
 oDg 20 .leq 19 4611686018427387903 17 true,
 oP 21 17 20 false,
 oM 22 21,
 oFg 23 1 5 22 true,
 oLg 24 23 22 true,
 oDg 25 .eql 24 0 22 true,
 oP 26 22 25 false,
 oM 27 26,
 oFg 28 2 5 27 true,
 oLg 29 28 27 true,
 oDg 30 .eql 29 0 27 true,
 oP 31 27 30 false,
 oM 32 31,
 oFg 33 4 5 32 true,
 oLg 34 33 32 true,
 ⟨some 35,.len (.s 34),some (32,true)⟩,
 oDg 36 .eql 35 0 32 true,
 oP 37 32 36 false,
 oM 6 37])
 (.ret))
 (.seq (rg [oD 39 .eql 11 2,
 oM 38 39])
 (.cond (.s 38)
 (.seq (.reg true false [
 oF 40 1 5,
 oL 41 40,
 oD 42 .geq 41 0,
 oM 43 42,
 oFg 44 1 5 43 true,
 oLg 45 44 43 true,
 oFg 46 0 3 43 true,
 oLg 47 46 43 true,
 ⟨some 48,.len (.s 47),some (43,true)⟩,
 ⟨some 49,.bin .lss (.s 45) (.s 48),some (43,true)⟩,
 oP 50 43 49 false,
 oM 51 50,
 oFg 52 2 5 51 true,
 oLg 53 52 51 true,
 oDg 54 .geq 53 0 51 true,
 oP 55 51 54 false,
 oM 56 55,
 oFg 57 2 5 56 true,
 oLg 58 57 56 true,
 oFg 59 0 3 56 true,
 oLg 60 59 56 true,
 oFg 61 1 5 56 true,
 oLg 62 61 56 true,
 ⟨some 63,.idxS 1 (.s 60) (.s 62),some (56,true)⟩,
 oLg 64 63 56 true,
 ⟨some 65,.bin .lss (.s 58) (.s 64),some (56,true)⟩,
 oP 66 56 65 false,
 oM 67 66,
 oFg 68 3 5 67 true,
 oLg 69 68 67 true,
 oDg 70 .eql 69 0 67 true,
 oP 71 67 70 false,
 oM 72 71,
 oFg 73 4 5 72 true,
 oLg 74 73 72 true,
 ⟨some 75,.len (.s 74),some (72,true)⟩,
 oDg 76 .eql 75 0 72 true,
 oP 77 72 76 false,
 oM 6 77])
 (.ret))
 (.seq (.seq (rg [oD 79 .eql 11 3,
 oM 78 79])
 (.cond (.s 78)
 (.skip)
 (rg [oD 80 .eql 11 4,
 oM 78 80])))
 (.cond (.s 78)
 (.seq (.seq (rg [oF 81 1 5,
 oL 82 81,
 oD 83 .neq 82 0,
 oM 84 83,
 oFg 85 2 5 84 false,
 oLg 86 85 84 false,
 oDg 87 .neq 86 0 84 false,
 ⟨some 88,.pick (.s 84) (.c (.bool true)) (.s 87),none⟩,
 oM 89 88,
 oFg 90 3 5 89 false,
 oLg 91 90 89 false,
 oDg 92 .neq 91 0 89 false,
 ⟨some 93,.pick (.s 89) (.c (.bool true)) (.s 92),none⟩,
 oM 94 93,
 oFg 95 4 5 94 false,
 oLg 96 95 94 false,
 ⟨some 97,.len (.s 96),some (94,false)⟩,
 oDg 98 .eql 97 0 94 false,
 ⟨some 99,.pick (.s 94) (.c (.bool true)) (.s 98),none⟩])
 (.cond (.s 99)
 (.seq (rg [oJ 6 false])
 (.ret))
 (.skip)))
 (.seq (rg [⟨some 7,.mov (.c (.int .i64 (-1))),none⟩])
 (.seq (.seq (rg [oF 100 4 5,
 oL 101 100,
 oE 102 101,
 oK 103 0])
 (.block 1 (.loop (.seq (rg [oB 104 .lss 103 102])
 (.seq (.cond (.s 104)
 (.skip)
 (.exit 1))
 (.seq (.block 2 (.seq (rg [oI 105 1 101 103,
 oL 106 105,
 oM 9 106])
 (.seq (.seq (rg [oM 107 9,
 oM 108 7,
 oB 109 .leq 107 108,
 oM 110 109,
 oMg 111 9 110 false,
 oMg 112 1 110 false,
 ⟨some 113,.bin .geq (.s 111) (.s 112),some (110,false)⟩,
 ⟨some 114,.pick (.s 110) (.c (.bool true)) (.s 113),none⟩])
 (.cond (.s 114)
 (.seq (rg [oJ 6 false])
 (.ret))
 (.skip)))
 (rg [oM 115 9,
 oM 7 115]))))
 (rg [oD 116 .add 103 1,
 oM 103 116])))))))
 (.seq (rg [oJ 6 true])
 (.ret)))))
 (.skip)))))))))
 (.seq (rg [oJ 6 false])
 (.ret))),
 [.tmp 6],true⟩
def e54:cF 54:=⟨some zD9,by kernel_rfl⟩
def e55:cF 55:=⟨_,by conv=>rhs; cbv⟩
def e56:cF 56:=⟨_,by conv=>rhs; cbv⟩
def zEg:Mx.Fn:=⟨139,
 .seq (rg [oO 1 0,
 ⟨some 2,.mov (.c (.slice none 0 0)),none⟩,
 oJ 3 false])
 (.seq (rg [oF 16 0 1,
 oL 17 16,
 oU 18 102 17,
 oM 4 18])
 (.seq (rg [oF 19 1 1,
 oL 20 19,
 oE 21 20,
 ⟨some 22,.mk 16 128 [(.int .u64 0),(.int .u64 0),(.int .u64 0),(.int .u64 0),(.int .u64 0),(.int .u64 0),(.int .u64 0),(.int .u64 0),(.int .u64 0),(.int .u64 0),(.int .u64 0),(.int .u64 0),(.int .u64 0),(.int .u64 0),(.int .u64 0),(.int .u64 0)] (.s 21) (.s 21),none⟩,
 oM 2 22,
 oJ 3 true])
 (.seq (.seq (rg [oF 23 1 1,
 oL 24 23,
 oE 25 24,
 oK 26 0])
 (.block 0 (.loop (.seq (rg [oB 27 .lss 26 25])
 (.seq (.cond (.s 27)
 (.skip)
 (.exit 0))
 (.seq (.block 1 (.seq (rg [oM 28 26,
 oI 29 5 24 26,
 oN 30 5 29,
 ⟨some 6,.alloc [(.int .i64 0),(.int .i64 0),(.int .i64 0),(.int .i64 0),(.slice none 0 0)],none⟩,
 oM 5 28,
 oS 5 6 30])
 (.seq (rg [oM 31 2,
 oM 32 5,
 oI 33 16 31 32,
 oM 7 33])
 (.seq (.block 2 (.seq (rg [oF 35 0 6,
 oL 36 35,
 oD 37 .eql 36 2,
 oM 34 37])
 (.cond (.s 34)
 (.reg true false [
 oM 38 7,
 oM 39 4,
 oF 40 1 6,
 oL 41 40,
 oI 42 1 39 41,
 oL 43 42,
 oF 44 2 6,
 oL 45 44,
 oI 46 16 43 45,
 oN 47 16 46,
 oZ 48 38,
 oS 16 48 47])
 (.seq (rg [oF 50 0 6,
 oL 51 50,
 oD 52 .eql 51 4,
 oM 53 52,
 oFg 54 0 6 53 false,
 oLg 55 54 53 false,
 oDg 56 .eql 55 1 53 false,
 oMg 57 56 53 false,
 oFg 58 3 6 57 true,
 oLg 59 58 57 true,
 oDg 60 .gtr 59 0 57 true,
 ⟨some 61,.pick (.s 57) (.s 60) (.c (.bool false)),some (53,false)⟩,
 ⟨some 62,.pick (.s 53) (.c (.bool true)) (.s 61),none⟩,
 oM 49 62])
 (.cond (.s 49)
 (.seq (rg [oM 63 4,
 ⟨some 64,.idxS 1 (.s 63) (.c (.int .i64 0)),none⟩,
 oL 65 64,
 oE 66 65,
 oK 67 0])
 (.block 3 (.loop (.seq (rg [oB 68 .lss 67 66])
 (.seq (.cond (.s 68)
 (.skip)
 (.exit 3))
 (.seq (.block 4 (.seq (rg [oI 69 16 65 67,
 oN 70 16 69,
 ⟨some 9,.alloc [(.int .u64 0),(.int .u64 0),(.int .u64 0),(.int .u64 0),(.int .u64 0),(.int .u64 0),(.int .u64 0),(.int .u64 0),(.int .u64 0),(.int .u64 0),(.int .u64 0),(.int .u64 0),(.int .u64 0),(.int .u64 0),(.int .u64 0),(.int .u64 0)],none⟩,
 oS 16 9 70])
 (.seq (rg [oN 71 16 9,
 oK 72 0])
 (.block 5 (.loop (.seq (rg [oD 73 .lss 72 16])
 (.seq (.cond (.s 73)
 (.skip)
 (.exit 5))
 (.seq (.block 6 (.seq (rg [oM 74 72,
 ⟨some 75,.idxV none 16 (.s 71) (.s 72),none⟩,
 oM 10 74,
 oM 11 75])
 (.reg true false [
 oM 76 7,
 oM 77 10,
 oZ 78 76,
 ⟨some 79,.idxA 1 16 (.s 78) (.s 77),none⟩,
 oL 80 79,
 oM 81 11,
 oB 82 .or 80 81,
 oZ 83 76,
 ⟨some 84,.idxA 1 16 (.s 83) (.s 77),none⟩,
 oS 1 84 82])))
 (rg [oD 85 .add 72 1,
 oM 72 85])))))))))
 (rg [oD 86 .add 67 1,
 oM 67 86])))))))
 (.skip))))))
 (.seq (rg [oF 87 4 6,
 oL 88 87,
 oE 89 88,
 oK 90 0])
 (.block 7 (.loop (.seq (rg [oB 91 .lss 90 89])
 (.seq (.cond (.s 91)
 (.skip)
 (.exit 7))
 (.seq (.block 8 (.seq (rg [oI 92 1 88 90,
 oL 93 92,
 oM 13 93])
 (.seq (rg [oM 94 2,
 oM 95 13,
 oI 96 16 94 95,
 oN 97 16 96,
 oK 98 0])
 (.block 9 (.loop (.seq (rg [oD 99 .lss 98 16])
 (.seq (.cond (.s 99)
 (.skip)
 (.exit 9))
 (.seq (.block 10 (.seq (rg [oM 100 98,
 ⟨some 101,.idxV none 16 (.s 97) (.s 98),none⟩,
 oM 14 100,
 oM 15 101])
 (.seq (.seq (rg [oF 102 0 6,
 oL 103 102,
 oD 104 .eql 103 4])
 (.cond (.s 104)
 (.seq (.reg true false [
 oM 105 7,
 oM 106 14,
 oZ 107 105,
 ⟨some 108,.idxA 1 16 (.s 107) (.s 106),none⟩,
 oL 109 108,
 oM 110 15,
 oB 111 .and 109 110,
 oZ 112 105,
 ⟨some 113,.idxA 1 16 (.s 112) (.s 106),none⟩,
 oS 1 113 111])
 (.exit 10))
 (.skip)))
 (.seq (rg [oM 114 3,
 oM 115 114,
 oMg 116 7 115 true,
 oMg 117 14 115 true,
 ⟨some 118,.nilck (.s 116),some (115,true)⟩,
 ⟨some 119,.idxA 1 16 (.s 118) (.s 117),some (115,true)⟩,
 oLg 120 119 115 true,
 oMg 121 15 115 true,
 ⟨some 122,.bin .and (.s 120) (.s 121),some (115,true)⟩,
 ⟨some 123,.bin .eql (.s 122) (.c (.int .u64 0)),some (115,true)⟩,
 oP 124 115 123 false,
 oM 3 124])
 (.reg true false [
 oM 125 7,
 oM 126 14,
 oZ 127 125,
 ⟨some 128,.idxA 1 16 (.s 127) (.s 126),none⟩,
 oL 129 128,
 oM 130 15,
 oB 131 .or 129 130,
 oZ 132 125,
 ⟨some 133,.idxA 1 16 (.s 132) (.s 126),none⟩,
 oS 1 133 131])))))
 (rg [oD 134 .add 98 1,
 oM 98 134])))))))))
 (rg [oD 135 .add 90 1,
 oM 90 135])))))))))))
 (rg [oD 136 .add 26 1,
 oM 26 136])))))))
 (.seq (rg [oM 137 2,
 oM 138 3,
 oM 2 137,
 oM 3 138])
 (.ret))))),
 [.tmp 2,.tmp 3],false⟩
def e57:cF 57:=⟨some zEg,by kernel_rfl⟩
def e61:cF 61:=⟨_,by conv=>rhs; cbv⟩
def e62:cF 62:=⟨_,by conv=>rhs; cbv⟩
def e63:cF 63:=⟨_,by conv=>rhs; cbv⟩
def e64:cF 64:=⟨_,by conv=>rhs; cbv⟩
def zDv:Mx.Fn:=⟨157,
 .seq (rg [⟨some 2,.mov (.c (.slice none 0 0)),none⟩])
 (.seq (rg [oM 16 0,
 oZ 17 16,
 oF 18 0 17,
 oF 19 0 18,
 oL 20 19,
 oE 21 20,
 ⟨some 22,.mk 1 24 [(.slice none 0 0)] (.s 21) (.s 21),none⟩,
 oM 3 22])
 (.seq (.seq (rg [oM 23 0,
 oZ 24 23,
 oF 25 0 24,
 oF 26 0 25,
 oL 27 26,
 oE 28 27,
 oK 29 0])
 (.block 0 (.loop (.seq (rg [oB 30 .lss 29 28])
 (.seq (.cond (.s 30)
 (.skip)
 (.exit 0))
 (.seq (.block 1 (.seq (rg [oM 31 29,
 oI 32 1 27 29,
 oL 33 32,
 oM 4 31,
 oM 5 33])
 (rg [oM 34 3,
 oM 35 4,
 oM 36 5,
 ⟨some 37,.mk 1 8 [(.int .i64 0)] (.s 36) (.s 36),none⟩,
 oI 38 1 34 35,
 oS 1 38 37])))
 (rg [oD 39 .add 29 1,
 oM 29 39])))))))
 (.seq (rg [oM 40 0,
 oZ 41 40,
 oF 42 0 41,
 oF 43 1 42,
 oL 44 43,
 oE 45 44,
 oD 46 .sub 45 1,
 oM 6 46])
 (.seq (rg [oM 47 0,
 oZ 48 47,
 oF 49 0 48,
 oF 50 1 49,
 oL 51 50,
 oE 52 51,
 ⟨some 53,.mk 1 8 [(.int .i64 0)] (.s 52) (.s 52),none⟩,
 oM 7 53])
 (.seq (rg [oM 54 7,
 oM 55 6,
 oI 56 1 54 55,
 ⟨none,.store 1 (.s 56) (.c (.int .i64 1)),none⟩])
 (.seq (.seq (rg [oM 57 6,
 oM 8 57])
 (.block 2 (.loop (.seq (.seq (rg [oM 58 8,
 oD 59 .geq 58 0])
 (.cond (.s 59)
 (.skip)
 (.exit 2)))
 (.seq (.block 3 (.seq (rg [oM 62 7,
 oM 63 8,
 oI 64 1 62 63,
 oL 65 64,
 oM 9 65])
 (.seq (.seq (rg [oM 66 9,
 oD 67 .eql 66 4611686018427387904])
 (.cond (.s 67)
 (rg [oM 68 8,
 ⟨some 69,.build [(.int .i64 0)] [(0,1,(.s 68))],none⟩,
 ⟨some 70,.mkI 185 (.s 69),none⟩,
 ⟨none,.panic (.s 70),none⟩])
 (.skip)))
 (.seq (rg [oM 71 0,
 oZ 72 71,
 oF 73 0 72,
 oF 74 1 73,
 oL 75 74,
 oM 76 8,
 oI 77 5 75 76,
 oN 78 5 77,
 ⟨some 10,.alloc [(.int .i64 0),(.int .i64 0),(.int .i64 0),(.int .i64 0),(.slice none 0 0)],none⟩,
 oS 5 10 78])
 (.seq (rg [oF 79 0 10,
 oL 80 79])
 (.block 4 (.seq (rg [oD 82 .eql 80 2,
 oM 81 82])
 (.cond (.s 81)
 (.seq (.reg true false [
 oM 83 3,
 oF 84 1 10,
 oL 85 84,
 oI 86 1 83 85,
 oL 87 86,
 oF 88 2 10,
 oL 89 88,
 oI 90 1 87 89,
 oM 11 90])
 (.seq (rg [oM 91 11,
 oM 92 11,
 oZ 93 92,
 oL 94 93,
 oM 95 9,
 oV 96 110 94 95,
 oZ 97 91,
 oS 1 97 96])
 (.seq (rg [oM 98 11,
 oZ 99 98,
 oL 100 99,
 oD 101 .eql 100 4611686018427387904])
 (.cond (.s 101)
 (rg [oM 102 8,
 ⟨some 103,.build [(.int .i64 0)] [(0,1,(.s 102))],none⟩,
 ⟨some 104,.mkI 185 (.s 103),none⟩,
 ⟨none,.panic (.s 104),none⟩])
 (.skip)))))
 (.seq (rg [oD 106 .eql 80 3,
 oM 105 106])
 (.cond (.s 105)
 (.seq (rg [oF 107 4 10,
 oL 108 107,
 oE 109 108,
 oK 110 0])
 (.block 5 (.loop (.seq (rg [oB 111 .lss 110 109])
 (.seq (.cond (.s 111)
 (.skip)
 (.exit 5))
 (.seq (.block 6 (.seq (rg [oI 112 1 108 110,
 oL 113 112,
 oM 13 113])
 (rg [oM 114 7,
 oM 115 13,
 oM 116 7,
 oM 117 13,
 oI 118 1 116 117,
 oL 119 118,
 oM 120 9,
 oV 121 110 119 120,
 oI 122 1 114 115,
 oS 1 122 121])))
 (rg [oD 123 .add 110 1,
 oM 110 123])))))))
 (.seq (rg [oD 125 .eql 80 4,
 oM 124 125])
 (.cond (.s 124)
 (.seq (rg [oM 126 0,
 oF 127 4 10,
 oL 128 127,
 oV 129 111 126 128,
 oE 130 129,
 oK 131 0])
 (.block 7 (.loop (.seq (rg [oB 132 .lss 131 130])
 (.seq (.cond (.s 132)
 (.skip)
 (.exit 7))
 (.seq (.block 8 (.seq (rg [oM 133 131,
 oI 134 1 129 131,
 oL 135 134,
 oM 14 133,
 oM 15 135])
 (.reg true true [
 oM 136 7,
 oF 137 4 10,
 oL 138 137,
 oM 139 14,
 oI 140 1 138 139,
 oL 141 140,
 oM 142 7,
 oF 143 4 10,
 oL 144 143,
 oM 145 14,
 oI 146 1 144 145,
 oL 147 146,
 oI 148 1 142 147,
 oL 149 148,
 oM 150 9,
 oM 151 15,
 oV 152 112 150 151,
 oV 153 110 149 152,
 oI 154 1 136 141,
 oS 1 154 153])))
 (rg [oD 155 .add 131 1,
 oM 131 155])))))))
 (.skip)))))))))))))
 (rg [oM 60 8,
 oD 61 .sub 60 1,
 oM 8 61]))))))
 (.seq (rg [oM 156 3,
 oM 2 156])
 (.ret)))))))),
 [.tmp 2],false⟩
def e65:cF 65:=⟨some zDv,by kernel_rfl⟩
def e70:cF 70:=⟨_,by conv=>rhs; cbv⟩
def e74:cF 74:=⟨_,by conv=>rhs; cbv⟩
def e75:cF 75:=⟨_,by conv=>rhs; cbv⟩
def e76:cF 76:=⟨_,by conv=>rhs; cbv⟩
def e86:cF 86:=⟨_,by conv=>rhs; cbv⟩
def e92:cF 92:=⟨_,by conv=>rhs; cbv⟩
def zCO:Mx.Fn:=⟨55,
 .seq (rg [⟨some 2,.mov (.c (.slice none 0 0)),none⟩])
 (.seq (rg [oM 10 0,
 oE 11 10,
 ⟨some 12,.mk 1 24 [(.slice none 0 0)] (.s 11) (.s 11),none⟩,
 ⟨some 3,.alloc [(.slice none 0 0)],none⟩,
 oS 1 3 12])
 (.seq (.seq (rg [oM 13 0,
 oE 14 13,
 oK 15 0])
 (.block 0 (.loop (.seq (rg [oB 16 .lss 15 14])
 (.seq (.cond (.s 16)
 (.skip)
 (.exit 0))
 (.seq (.block 1 (.seq (rg [oM 17 15,
 oI 18 1 13 15,
 oL 19 18,
 oM 4 17,
 oM 5 19])
 (.reg true false [
 oL 20 3,
 oM 21 4,
 oM 22 5,
 ⟨some 23,.mk 16 128 [(.int .u64 0),(.int .u64 0),(.int .u64 0),(.int .u64 0),(.int .u64 0),(.int .u64 0),(.int .u64 0),(.int .u64 0),(.int .u64 0),(.int .u64 0),(.int .u64 0),(.int .u64 0),(.int .u64 0),(.int .u64 0),(.int .u64 0),(.int .u64 0)] (.s 22) (.s 22),none⟩,
 oI 24 1 20 21,
 oS 1 24 23])))
 (rg [oD 25 .add 15 1,
 oM 15 25])))))))
 (.seq (.seq (rg [oM 26 0,
 oU 27 132 26])
 (.block 2 (.zeG (.s 27) [28,29] (.seq (rg [oM 6 28])
 (rg [oM 7 29]))
 (.block 3 (.seq (rg [oM 30 7,
 oE 31 30,
 oK 32 0])
 (.block 4 (.loop (.seq (rg [oB 33 .lss 32 31])
 (.seq (.cond (.s 33)
 (.skip)
 (.exit 4))
 (.seq (.block 5 (.seq (rg [oM 34 32,
 oI 35 1 30 32,
 oL 36 35,
 oM 8 34,
 oM 9 36])
 (.reg true false [
 oL 37 3,
 oM 38 8,
 oI 39 1 37 38,
 oL 40 39,
 oM 41 9,
 oM 42 6,
 oD 43 .quo 42 64,
 oI 44 16 40 41,
 ⟨some 45,.idxA 1 16 (.s 44) (.s 43),none⟩,
 oL 46 45,
 oM 47 6,
 oD 48 .rem 47 64,
 ⟨some 49,.bin .shl (.c (.int .u64 1)) (.s 48),none⟩,
 oB 50 .or 46 49,
 oI 51 16 40 41,
 ⟨some 52,.idxA 1 16 (.s 51) (.s 43),none⟩,
 oS 1 52 50])))
 (rg [oD 53 .add 32 1,
 oM 32 53])))))))))))
 (.seq (rg [oL 54 3,
 oM 2 54])
 (.ret))))),
 [.tmp 2],false⟩
def zDH:cF 102:=⟨some zCO,by kernel_rfl⟩
def zDM:cF 105:=⟨_,by conv=>rhs; cbv⟩
def zDI:cF 106:=⟨_,by conv=>rhs; cbv⟩
def zDA:cF 107:=⟨_,by conv=>rhs; cbv⟩
def zEa:cF 108:=⟨_,by conv=>rhs; cbv⟩
def zEf:cF 109:=⟨_,by conv=>rhs; cbv⟩
def zDL:cF 110:=⟨_,by conv=>rhs; cbv⟩
def zDE:cF 111:=⟨_,by conv=>rhs; cbv⟩
def zDn:cF 112:=⟨_,by conv=>rhs; cbv⟩
def zDT:cF 132:=⟨_,by conv=>rhs; cbv⟩
def zEh:cF 149:=⟨_,by conv=>rhs; cbv⟩
def tab:List ((f:Nat)×cF f):=[⟨8,e8⟩,⟨11,e11⟩,⟨12,e12⟩,⟨13,e13⟩,⟨20,e20⟩,⟨21,e21⟩,⟨47,e47⟩,⟨48,e48⟩,⟨49,e49⟩,⟨54,e54⟩,⟨55,e55⟩,⟨56,e56⟩,⟨57,e57⟩,⟨61,e61⟩,⟨62,e62⟩,⟨63,e63⟩,⟨64,e64⟩,⟨65,e65⟩,⟨70,e70⟩,⟨74,e74⟩,⟨75,e75⟩,⟨76,e76⟩,⟨86,e86⟩,⟨92,e92⟩,⟨102,zDH⟩,⟨105,zDM⟩,⟨106,zDI⟩,⟨107,zDA⟩,⟨108,zEa⟩,⟨109,zEf⟩,⟨110,zDL⟩,⟨111,zDE⟩,⟨112,zDn⟩,⟨132,zDT⟩,⟨149,zEh⟩]
end Go.Proofs.Ytbjogdohfhdaiaa.W
