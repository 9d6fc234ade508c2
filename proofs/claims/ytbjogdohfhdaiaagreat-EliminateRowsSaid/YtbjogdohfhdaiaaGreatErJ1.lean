/-
 Plain laws: numbers and sets of bits. Conditions: none.
-/
import Derived.Test.YtbjogdohfhdaiaaGreatErDm
set_option linter.unusedSimpArgs false
set_option linter.unusedVariables false
set_option maxRecDepth 100000
set_option maxHeartbeats 4000000
namespace Go.Dc
open Go Go.Mx Go.Lx
variable{n:Nat}
theorem zaC(h:n<9223372036854775808):w64 (n:Int)=(n:Int):=wrap64 (by omega) (by omega)
theorem zgh{n:Int}(h1:-9223372036854775808<=n)(h2:n<9223372036854775808):w64 n=n:=wrap64 h1 h2
theorem zai(h:n+1<9223372036854775808):w64 ((n:Int)+1)=((n+1:Nat):Int):=by
 rw[zgh (by omega) (by omega)]; omega
theorem zyF(n:Nat):IntKind.u64.wrap (n:Int)=((n % 18446744073709551616:Nat):Int):=by
 simp only[IntKind.wrap,IntKind.bits,IntKind.signed]; simp
theorem zbY(h:n<18446744073709551616):IntKind.u64.wrap (n:Int)=(n:Int):=by
 rw[zyF,qbb h]
variable{a b:Nat}
theorem zGO(ha:a<18446744073709551616)(hb:b<18446744073709551616):ziv .u64 (a:Int) (b:Int)=((a &&& b:Nat):Int):=by
 have h:(BitVec.ofInt 64 (a:Int) &&& BitVec.ofInt 64 (b:Int)).toNat=a &&& b:=by
  simp only[qcV,BitVec.toNat_and,BitVec.toNat_ofNat];rw[qbb ha,qbb hb]
 show IntKind.u64.wrap ((BitVec.ofInt 64 (a:Int) &&& BitVec.ofInt 64 (b:Int)).toNat:Int)=_;rw[h];exact zbY (qbT Nat.and_le_left ha)
theorem orU(ha:a<18446744073709551616)(hb:b<18446744073709551616):orI .u64 (a:Int) (b:Int)=((a ||| b:Nat):Int):=by
 have h:(BitVec.ofInt 64 (a:Int)||| BitVec.ofInt 64 (b:Int)).toNat=a ||| b:=by
  simp only[qcV,BitVec.toNat_or,BitVec.toNat_ofNat];rw[qbb ha,qbb hb]
 show IntKind.u64.wrap ((BitVec.ofInt 64 (a:Int)||| BitVec.ofInt 64 (b:Int)).toNat:Int)=_;rw[h];exact zbY (qbu (n:=64) ha hb)
def diff(a b:Nat):Nat:=(BitVec.ofNat 64 a &&& ~~~ BitVec.ofNat 64 b).toNat
theorem zkc(a b:Nat):diff a b<18446744073709551616:=(BitVec.ofNat 64 a &&& ~~~ BitVec.ofNat 64 b).isLt
theorem zGl(a b:Nat):zBd .u64 (a:Int) (b:Int)=((diff a b:Nat):Int):=by
 show IntKind.u64.wrap ((BitVec.ofInt 64 (a:Int) &&& ~~~ BitVec.ofInt 64 (b:Int)).toNat:Int)=_;rw[qcV,qcV];exact zbY (zkc a b)
theorem ziL{i:Nat}(ha:a<18446744073709551616)(hb:b<18446744073709551616):(diff a b).testBit i=(a.testBit i && !b.testBit i):=by
 unfold diff;rw[BitVec.testBit_toNat,BitVec.getLsbD_and,BitVec.getLsbD_not,BitVec.getLsbD_ofNat,BitVec.getLsbD_ofNat];by_cases hi:i<64
 .simp[hi]
 have:a.testBit i=false:=Nat.testBit_lt_two_pow (qb2 ha (qbP (n:=2) (by decide) (show 64<=i by omega)));simp[hi,this]
theorem zx5{v:Nat}(hv:v<64):zpp .u64 1 (v:Int)=some ((2 ^ v:Nat):Int):=by
 unfold zpp;rw[if_pos (by omega)];congr 1
 have h1:min (v:Int).toNat IntKind.u64.bits=v:=by
  rw[show IntKind.u64.bits=64 from rfl,qax]; exact qcm (by omega)
 rw[h1,Int.one_mul];have h2:((2:Int) ^ v)=((2 ^ v:Nat):Int):=by simp
 rw[h2];exact zbY (qbj (by decide) hv)
theorem zGu{v:Nat}(hv:v<64):ziN .u64 (a:Int) (v:Int)=some ((a >>> v:Nat):Int):=by
 unfold ziN;rw[if_pos (by omega)];congr 1
 have h1:min (v:Int).toNat IntKind.u64.bits=v:=by
  rw[show IntKind.u64.bits=64 from rfl,qax]; exact qcm (by omega)
 rw[h1,qcb];have h2:((2:Int) ^ v)=((2 ^ v:Nat):Int):=by simp
 rw[h2,Int.fdiv_eq_ediv_of_nonneg _ (qbR _)];rfl
theorem zIu(a v:Nat):((a >>> v) &&& 1)=(a.testBit v).toNat:=by
 rw[Nat.and_one_is_mod,Nat.testBit_eq_decide_div_mod_eq,qcb];have h:=Nat.mod_two_eq_zero_or_one (a / 2 ^ v);rcases h with h | h<;>simp[h]
theorem zyN{v:Nat}(ha:a<18446744073709551616)(hv:v<64):∃ q:Int,ziN .u64 (a:Int) (v:Int)=some q/\ziv .u64 q 1=((a.testBit v).toNat:Int):=by
 refine⟨_,zGu hv,?_⟩;rw[show(1:Int)=((1:Nat):Int)from rfl,zGO (qbT (by rw[qcb]; exact qcC _ _) ha) (by decide),zIu]
variable {α:Type}
variable{xs:List α}
theorem zyo{i:Nat}:zaE xs (i:Int)=xs[i]?:=by
 unfold zaE;rw[if_pos (qbR i),qax]
theorem zba{i:Nat}(h:i<xs.length):zaE xs (i:Int)=some (xs[i]'h):=by
 rw[zyo,qac h]
theorem zfr{i:Nat}{v:α}(h:i<xs.length):zeT xs (i:Int) v=some (xs.set i v):=by
 unfold zeT;rw[if_pos (by omega),qax]
theorem zcU{ys:List α}(h:(xs.length+ys.length)* b<=70368744177664):zdE b xs ys=some (xs ++ ys):=by
 unfold zdE;rw[if_pos (by simp only[zah]; omega)]
theorem zdn{z:α}(h:n * b<=70368744177664):zd7 b (n:Int) z=some (List.replicate n z):=by
 have h2:(n:Int)* (b:Int)<=zah:=by
  rw[<- qaZ]; simp only[zah]; omega
 unfold zd7;rw[if_pos ⟨qbR n,h2⟩,qax]
theorem zg4(h:xs.length * b<=70368744177664):zex b xs=some xs:=by
 unfold zex;rw[if_pos (by simp only[zah]; omega)]
theorem zaT{i:Nat}:decide ((i:Int)<(n:Int))=decide (i<n):=by simp
theorem zaK(n:Nat):((n:Int) - 0+2).toNat=n+2:=by omega
def iL(xs:List Nat):List Int:=xs.map (λx:Nat=>(x:Int))
theorem zal(xs:List Nat):(iL xs).length=xs.length:=by simp[iL]
theorem zAM{xs:List Nat}{i:Nat}(h:i<xs.length):(iL xs)[i]'(by rw[zal]; exact h)=((xs[i]:Nat):Int):=by simp[iL]
theorem za5{xs:List Nat}{i:Nat}(h:i<xs.length):zaE (iL xs) (i:Int)=some ((xs[i]:Nat):Int):=by
 rw[zba (by rw[zal]; exact h),zAM h]
def zac(xs:List Nat):Nat:=xs.foldr (· * ·) 1
theorem zdV{xs:List Nat}(h:∀ x∈xs,1<=x):1<=zac xs:=by
 induction xs with
 | nil=>exact qap 1
 | cons x xs ih=>exact qbi (h x qaj) (ih λy hy=>h y (qah _ hy))
theorem zA7{i:Nat}(h:i<n):decide ((i:Int)<(n:Int))=true:=qdv (by omega)
theorem zGa(n:Nat):decide ((n:Int)<(n:Int))=false:=qdw (by omega)
theorem zqW(a b:List Nat):iL (a ++ b)=iL a ++ iL b:=by simp[iL]
theorem zgG(k:Nat):iL (List.replicate k 0)=List.replicate k 0:=by simp[iL]
end Go.Dc
namespace Go.Dc
open Go Go.Mx Go.Lx Go.Proofs
def zek(p0:(List Int)):Nat->Int->Int->Option Int
 | 0,_,_=>none
 | n+1,v3,v4=>(
bif (decide (v4<(p0.length:Int)))then(
(zaE p0 v4).bind λx2=>
zek p0 n (w64 (v3 * x2)) (w64 (v4+1)))
else(
some v3))
def zfE(p0:(List Int)):Option Int:=
((zek p0 ((p0.length:Int) - 0+2:Int).toNat 1 0:Option Int)).bind λv3=>
some v3
variable{p0:(List Int)}
theorem zqs{r:Int}(h:zfE p0=some r):Lx.Fn mC 36 [(fzE false (eI .i64) p0)] (dI r):=by
 refine gnO ?_;unfold zfE at h;refine wSM ?_;obtain⟨o1,j1,h⟩:=bsM h;refine usM [] 0 (λa:Int=>([(3,(dI a))],[],[])) λT1 hT1=>?_
 refine EvL.jn T1 (λa=>a=o1) ?_ ?_
 .refine wSM ?_;refine usM [0] 0 (λa:(Int×Int)=>([(3,(dI a.1)),(4,(dI a.2))],[],[])) λT2 hT2=>?_
  refine rdM hT2 (λn a=>zek p0 n a.1 a.2=some o1) (1,0) j1 ?_;rintro n ⟨v3,v4⟩ j1;simp only[zek]at j1;refine wTM hT2 ?_;refine cBM j1 (λ_ j1=>?_) λ_ j1=>?_
  .exact zde j1 hT1
  obtain⟨x2,g3,j1⟩:=bsM j1;refine sXM (ixM g3) ?_;exact zcz hT2 ((w64 (v3 * x2)),(w64 (v4+1))) j1
 rintro v3 rfl;refine wTM hT1 ?_;exact rHM h
def zfH(p1:(List Int))(p0:(List Int)):Nat->Int->(List Int)->Option (List Int)
 | 0,_,_=>none
 | n+1,v6,l0=>(
bif (decide (v6<(p1.length:Int)))then(
(zaE p1 v6).bind λx2=>
(zaE p0 x2).bind λx4=>
(zdE 8 l0 [x4]).bind λy6=>
zfH p1 p0 n (w64 (v6+1)) y6)
else(
some l0))
def zim(p0:(List Int))(p1:(List Int)):Option (List Int):=
((zfH p1 p0 ((p1.length:Int) - 0+2:Int).toNat 0 []:Option (List Int))).bind λl0=>
some l0
variable{r:(List Int)}
theorem zxH{p1:(List Int)}(h:zim p0 p1=some r):Lx.Fn mC 65 [(fzE false (eI .i64) p0),(fzE false (eI .i64) p1)] (fzE true (eI .i64) r):=by
 refine gnO ?_;unfold zim at h;refine wSM ?_;obtain⟨o1,j1,h⟩:=bsM h;refine usM [] 0 (λa:(List Int)=>([(5,(.sl 0 0 1 a.length none a.length))],[],[.grow 1 (a.map ((eI .i64).c true))])) λT1 hT1=>?_
 refine EvL.jn T1 (λa=>a=o1) ?_ ?_
 .refine wSM ?_;refine usM [0,1] 0 (λa:(Int×(List Int))=>([(5,(.sl 0 0 1 a.2.length none a.2.length)),(6,(dI a.1))],[],[.grow 1 (a.2.map ((eI .i64).c true))])) λT2 hT2=>?_
  refine EvL.zgB (zbi.ghost (n:=1) (k:=5) (by decide) rfl) ?_;refine EvL.rounds (α:=(Int×(List Int))) T2 (λn a=>zfH p1 p0 n a.1 a.2=some o1) ((p1.length:Int) - 0+2:Int).toNat (0,[]) (by rw[hT2]; exact wm0 [.k] ⟨MB.gs (eI .i64) true [],qds⟩) j1 (λ_ h=>nomatch (show(none:Option (List Int))=some o1 from h)) ?_;rintro n ⟨v6,l0⟩ j1;simp only[zfH]at j1;refine wTM hT2 ?_;refine cBM j1 (λ_ j1=>?_) λ_ j1=>?_
  .exact zde j1 hT1
  obtain⟨x2,g3,x4,g5,y6,g7,j1⟩:=zjp j1;refine sXM (anM (ixM g3) (anM (ixM g5) (anM (zb9 g7) (anM (plM g7) (piM g7))))) ?_;exact zcz hT2 ((w64 (v6+1)),y6) j1
 rintro l0 rfl;refine wTM hT1 ?_;exact rHM h
def zdS(p0:S_api_Net):Nat->Int->(List Int)->Option (List Int)
 | 0,_,_=>none
 | n+1,v4,l1=>(
bif (decide (v4<(p0.nodes.length:Int)))then(
(zaE p0.nodes v4).bind λx2=>
(zdE 8 l1 [x2.zaF]).bind λy4=>
zdS p0 n (w64 (v4+1)) y4)
else(
some l1))
def zfc(p0:S_api_Net):Option (List Int):=
((zdS p0 ((p0.nodes.length:Int) - 0+2:Int).toNat 0 []:Option (List Int))).bind λl1=>
some l1
theorem zpl{p0:S_api_Net}(h:zfc p0=some r):Lx.Fn mC 66 [(.agg [(dI p0.grain),(fzE false zab p0.nodes)])] (fzE true (eI .i64) r):=by
 refine gnO ?_;unfold zfc at h;refine wSM ?_;obtain⟨o1,j1,h⟩:=bsM h;refine usM [] 1 (λa:(List Int)=>([(3,(.sl 1 0 1 a.length none a.length))],[(0,.gone)],[.grow 1 (a.map ((eI .i64).c true))])) λT1 hT1=>?_
 refine EvL.jn T1 (λa=>a=o1) ?_ ?_
 .refine wSM ?_;refine usM [1] 1 (λa:(Int×(List Int))=>([(3,(.sl 1 0 1 a.2.length none a.2.length)),(4,(dI a.1))],[],[.grow 1 (a.2.map ((eI .i64).c true))])) λT2 hT2=>?_
  refine EvL.zgB (zbi.ghost (n:=1) (k:=3) (by decide) rfl) ?_;refine EvL.rounds (α:=(Int×(List Int))) T2 (λn a=>zdS p0 n a.1 a.2=some o1) ((p0.nodes.length:Int) - 0+2:Int).toNat (0,[]) (by rw[hT2]; exact wm0 [.k,.k] ⟨MB.cs ⟨qds,qds,qds⟩,⟨MB.gs (eI .i64) true [],qds⟩⟩) j1 (λ_ h=>nomatch (show(none:Option (List Int))=some o1 from h)) ?_;rintro n ⟨v4,l1⟩ j1;simp only[zdS]at j1;refine wTM hT2 ?_;refine cBM j1 (λ_ j1=>?_) λ_ j1=>?_
  .exact zde j1 hT1
  obtain⟨x2,g3,y4,g5,j1⟩:=zgs j1;refine sXM (anM @zaj (anM (zaz (n:=3) (e:=zab) rfl g3) (anM (zb9 g5) (anM (plM g5) (piM g5))))) ?_;exact zcz hT2 ((w64 (v4+1)),y4) j1
 rintro l1 rfl;refine wTM hT1 ?_;exact rHM h
end Go.Dc
namespace Go.Dc
open Go Go.Mx Go.Lx
theorem zxs{p0:S_api_Net}(hl:p0.nodes.length<=8):∀(n i:Nat) (acc:List Int),i<=p0.nodes.length->acc.length<=i->p0.nodes.length - i<n ->
  zdS p0 n (i:Int) acc=some (acc ++ (p0.nodes.drop i).map (·.zaF))
 | 0,_,_,_,_,h=>absurd h (qam _)
 | n+1,i,acc,h1,h2,h3=>by
  unfold zdS;by_cases hi:i<p0.nodes.length
  .rw[zaT,qdv hi,qdt,zba hi,qaa,zcU (by simp; omega),qaa,zai (by omega),
    zxs hl n (i+1) _ hi (by simp; omega) (by omega),qay hi]
   rw[qaE]; rfl
  rw[zaT,qdw hi,qdu,qbn (by omega)];simp
theorem zys{p0:S_api_Net}(hl:p0.nodes.length<=8):zfc p0=some (p0.nodes.map (·.zaF)):=by
 unfold zfc;rw[zaK];have h:=zxs hl (p0.nodes.length+2) 0 [] (qau _) (qap _) (by omega);rw[show((0:Nat):Int)=0 from rfl]at h;rw[h];simp
def Pl(n:Nat)(xs:List Nat):Prop:=∀ x∈xs,x<n
theorem zH2{cs:List Int}{ps:List Nat}(hp:Pl cs.length ps)(hl:ps.length<=8):∀(n i:Nat) (acc:List Int),i<=ps.length->acc.length<=i->ps.length - i<n ->
  zfH (iL ps) cs n (i:Int) acc=some (acc ++ (ps.drop i).map λp=>cs.getD p 0)
 | 0,_,_,_,_,h=>absurd h (qam _)
 | n+1,i,acc,h1,h2,h3=>by
  unfold zfH;rw[zal];by_cases hi:i<ps.length
  .have hb:ps[i]<cs.length:=hp _ (qao hi)
   rw[zaT,qdv hi,qdt,za5 hi,qaa,zba hb,qaa,zcU (by simp; omega),qaa,zai (by omega),
    zH2 hp hl n (i+1) _ hi (by simp; omega) (by omega),qay hi]
   rw[qaE,qaL,show cs.getD ps[i] 0=cs[ps[i]] by simp[hb]]; rfl
  rw[zaT,qdw hi,qdu,qbn (by omega)];simp
theorem zGs{cs:List Int}{ps:List Nat}(hp:Pl cs.length ps)(hl:ps.length<=8):zim cs (iL ps)=some (ps.map λp=>cs.getD p 0):=by
 unfold zim;rw[zal,zaK];have h:=zH2 hp hl (ps.length+2) 0 [] (qau _) (qap _) (by omega);rw[show((0:Nat):Int)=0 from rfl]at h;rw[h];simp
theorem zAt{cs:List Nat}(hc:∀ x∈cs,1<=x)(hl:cs.length<=8):∀(n i a:Nat),i<=cs.length->a * zac (cs.drop i)<=65536->cs.length - i<n ->
  zek (iL cs) n (a:Int) (i:Int)=some ((a * zac (cs.drop i):Nat):Int)
 | 0,_,_,_,_,h=>absurd h (qam _)
 | n+1,i,a,h1,h2,h3=>by
  unfold zek;rw[zal];by_cases hi:i<cs.length
  .have e:cs.drop i=cs[i]:: cs.drop (i+1):=qay hi;have e2:a * zac (cs.drop i)=a * cs[i] * zac (cs.drop (i+1)):=by rw[e]; exact(qa3 _ _ _).symm
   rw[e2]at h2;have hq:1<=zac (cs.drop (i+1)):=zdV λx hx=>hc x (qcB hx)
   have hle:a * cs[i]<=65536:=qaq (qaI _ hq) h2
   rw[zaT,qdv hi,qdt,za5 hi,qaa,zai (by omega),show((a:Int)* ((cs[i]:Nat):Int))=((a * cs[i]:Nat):Int) by simp,
    zaC (by omega),zAt hc hl n (i+1) _ hi h2 (by omega),e2]
  rw[zaT,qdw hi,qdu,qbn (by omega)];simp[zac]
theorem zCY{cs:List Nat}(hc:∀ x∈cs,1<=x)(hl:cs.length<=8)(hp:zac cs<=65536):zfE (iL cs)=some ((zac cs:Nat):Int):=by
 unfold zfE;rw[zal,zaK];have h:=zAt hc hl (cs.length+2) 0 1 (qau _) (by simpa using hp) (by omega);rw[show((0:Nat):Int)=0 from rfl,show((1:Nat):Int)=1 from rfl]at h;rw[h];simp
end Go.Dc
namespace Go.Dc
open Go Go.Mx Go.Lx Go.Proofs
def zya(num:List Int)(ps8 u k:Int)(ps:List Int):Option Bool:=
 (zaE num k).bind λx=>bif x == u then((ziN .u8 ps8 (IntKind.u64.wrap k)).bind λq=>bif ziv .u8 q 1 == 1 then some (decide ((ps.length:Int)<3))else some false)else some false
def zqz(num:List Int)(i ps8 u:Int):Nat->Int->List Int->Option (List Int)
 | 0,_,_=>none
 | n+1,k,ps=>bif decide (k<i)then((zya num ps8 u k ps).bind λb=>bif b then((zdE 8 ps [u]).bind λps2=>zqz num i ps8 u n (w64 (k+1)) ps2)else zqz num i ps8 u n (w64 (k+1)) ps)else some ps
def zt4(num:List Int)(i ps8 count:Int):Nat->Int->List Int->Option (List Int)
 | 0,_,_=>none
 | n+1,u,ps=>bif decide (u<count)then((zqz num i ps8 u (i.toNat+2) 0 ps).bind λps2=>zt4 num i ps8 count n (w64 (u+1)) ps2)else some ps
def zqV(num:List Int)(i v count ps8:Int)(nodes:List S_api_Node):Option (List S_api_Node):=
 (zaE nodes v).bind λx=>bif x.parents.isEmpty then((zt4 num i ps8 count (count.toNat+2) 0 []).bind λps=>zeT nodes v ⟨x.zaF,ps,x.rows⟩)else none
def zz3:C:=
 (.seq (.seq (rg [oM 101 14,
 oM 102 10,
 oB 103 .lss 101 102])
 (.cond (.s 103) (.skip)
 (.exit 6)))
 (.seq (.block 7 (.seq (.scope (rg [oM 106 5,
 oM 107 14,
 oI 108 1 106 107,
 oL 109 108,
 oM 110 13,
 oB 111 .eql 109 110,
 oM 112 111,
 oFg 113 1 11 112 true,
 oLg 114 113 112 true,
 oMg 115 14 112 true,
 ⟨some 116,.conv .u64 (.s 115),some (112,true)⟩,
 ⟨some 117,.bin .shr (.s 114) (.s 116),some (112,true)⟩,
 ⟨some 118,.bin .and (.s 117) (.c (.int .u8 1)),some (112,true)⟩,
 ⟨some 119,.bin .eql (.s 118) (.c (.int .u8 1)),some (112,true)⟩,
 ⟨some 120,.pick (.s 112) (.s 119) (.c (.bool false)),none⟩,
 oM 121 120,
 oFg 122 1 4 121 true,
 oLg 123 122 121 true,
 oMg 124 12 121 true,
 ⟨some 125,.idxS 3 (.s 123) (.s 124),some (121,true)⟩,
 oFg 126 1 125 121 true,
 oLg 127 126 121 true,
 ⟨some 128,.len (.s 127),some (121,true)⟩,
 oDg 129 .lss 128 3 121 true,
 ⟨some 130,.pick (.s 121) (.s 129) (.c (.bool false)),none⟩]))
 (.scope (.cond (.s 130) (.reg true false [oF 131 1 4,
 oL 132 131,
 oM 133 12,
 oF 134 1 4,
 oL 135 134,
 oM 136 12,
 oI 137 3 135 136,
 oF 138 1 137,
 oL 139 138,
 oM 140 13,
 ⟨some 141,.bsl 1 1 [(.int .i64 0)] [(0,(.s 140))],none⟩,
 ⟨none,.avo [(.s 131)] (.s 139),none⟩,
 oT 142 1 8 139 141,
 oI 143 3 132 133,
 oF 144 1 143,
 oS 1 144 142])
 (.skip)))))
 (rg [oM 104 14,
 oD 105 .add 104 1,
 oM 14 105])))
def zAI:C:=
 (.seq (.seq (rg [oM 96 13,
 oM 97 3,
 oB 98 .lss 96 97])
 (.cond (.s 98) (.skip)
 (.exit 4)))
 (.seq (.block 5 (.seq (rg [oK 14 0])
 (.scope (.block 6 (.loop zz3)))))
 (rg [oM 99 13,
 oD 100 .add 99 1,
 oM 13 100])))
section
variable (b0 b1:LB) (c40 c42:D) (num:List Int) (i v count ps8 grain:Int) (cnt:Nat) (nodes:List S_api_Node) (x:S_api_Node)
end
variable{nodes':List S_api_Node}
theorem zFu{k:List K}{Q:LX->LSt->Prop}{b0 b1:LB}{c40 c42:D}{num:List Int}{i v count ps8 grain:Int}{cnt:Nat}{nodes:List S_api_Node}(g:zqV num i v count ps8 nodes=some nodes')(hb0:∀ kp,LB.kin kp b0)(hb1:∀ kp,LB.kin kp b1)(hc0:∀ kp,D.kin kp c40)(hc2:∀ kp,D.kin kp c42)(hl:nodes.length=cnt)(hk:EvL mC 0 k ⟨187,[(1,.ptr 0 0),(2,.ptr 1 0),(3,dI count),(4,.ptr 3 0),(5,fzE true (eI .i64) num),(10,dI i),(11,.ptr 4 0),(12,dI v)],[b0,b1,.els 3 (nodes'.map (zao.c true)),.cells [dI grain,.sl 2 0 3 cnt (some cnt) cnt],.cells [c40,dU8 ps8,c42]]⟩ Q):
  EvL mC 0 (.code (.scope (.block 4 (.loop zAI))):: k) ⟨187,[(1,.ptr 0 0),(2,.ptr 1 0),(3,dI count),(4,.ptr 3 0),(5,fzE true (eI .i64) num),(10,dI i),(11,.ptr 4 0),(12,dI v),(13,dI 0)],[b0,b1,.els 3 (nodes.map (zao.c true)),.cells [dI grain,.sl 2 0 3 cnt (some cnt) cnt],.cells [c40,dU8 ps8,c42]]⟩ Q:=by
 unfold zqV at g;obtain⟨x,gx,g⟩:=bsM g;cases hp:x.parents.isEmpty with
 | false=>rw[hp]at g; cases g
 | true=>
 rw[hp,qdt]at g;obtain⟨ps,gu,g⟩:=bsM g;have hv0:=za2 gx;have hv1:v<((cnt:Nat):Int):=hl ▸ zeh gx;have hxe:=zcn gx (zao.c true);have hxl:=(qab.1 (zj0 gx)).1;have hgs:∀ C:List D,((nodes.map (zao.c true)).set v.toNat C)[v.toNat]? = some C:=λC=>by rw[qa1 (by simpa using hxl)]
 obtain⟨HP,hHP⟩:∃ HP:List Int->List LB,HP=(λa=>[b0,b1,.els 3 ((nodes.map (zao.c true)).set v.toNat [dI x.zaF,.sl 5 0 1 a.length none a.length,nE true (eL (eI .i64)) x.rows]),.cells [dI grain,.sl 2 0 3 cnt (some cnt) cnt],.cells [c40,dU8 ps8,c42],.grow 1 (a.map ((eI .i64).c true))]):=⟨_,rfl⟩;refine EvL.jn (α:=Unit) (λ_=>⟨187,[(1,.ptr 0 0),(2,.ptr 1 0),(3,dI count),(4,.ptr 3 0),(5,fzE true (eI .i64) num),(10,dI i),(11,.ptr 4 0),(12,dI v)],[b0,b1,.els 3 (nodes'.map (zao.c true)),.cells [dI grain,.sl 2 0 3 cnt (some cnt) cnt],.cells [c40,dU8 ps8,c42]]⟩) (λ_=>True) ?_ (λ_ _=>hk);refine wSM ?_;refine EvL.zgB (zbi.zzX (n:=1) (b:=2) (i:=v.toNat) (o:=1) (by decide) rfl hxe (by rw[zfx,zAu _ _ hp]; rfl)) ?_;obtain⟨T,hT⟩:∃ T:Int×List Int->LSt,T=(λa=>⟨187,[(1,.ptr 0 0),(2,.ptr 1 0),(3,dI count),(4,.ptr 3 0),(5,fzE true (eI .i64) num),(10,dI i),(11,.ptr 4 0),(12,dI v),(13,dI a.1)],HP a.2⟩):=⟨_,rfl⟩;refine EvL.rounds T (λn a=>zt4 num i ps8 count n a.1 a.2=some ps) (count.toNat+2) (0,[]) (by rw[hT,hHP]; exact zbi.sub ⟨rfl,rfl,rfl,rfl,rfl,rfl,rfl,rfl,rfl,qds⟩) gu (λ_ h=>nomatch h) ?_;rintro n ⟨u,a⟩ h;simp only[zt4]at h;rw[congrFun hT (u,a),congrFun hHP a];simp only[zAI,zCX];refine zad ?_;cases c1:decide (u<count)with
 | false=>
  rw[c1,qdu]at h;cases h;refine sXM c1 ?_;exact⟨(),qds,wm0 [.k,.k,.k,.k,.k,.f] ⟨.same (hb0 _),.same (hb1 _),MB.close g (.cons (.same trivial) (.cons (.fr (zxP (t:=true) rfl rfl rfl rfl (λh=>by cases h<;>rfl))) (.cons (.same (zpq _ _ _ _)) .nil))),MB.cs ⟨qds,rfl,qds⟩,MB.cs ⟨hc0 _,qds,hc2 _,qds⟩,qds⟩⟩
 | true=>
  rw[c1,qdt]at h;obtain⟨a2,gk,h⟩:=bsM h;refine sXM c1 ?_;refine EvL.scope (zad ?_);refine sSM ?_;obtain⟨TK,hTK⟩:∃ TK:Int×List Int->LSt,TK=(λa=>⟨187,[(1,.ptr 0 0),(2,.ptr 1 0),(3,dI count),(4,.ptr 3 0),(5,fzE true (eI .i64) num),(10,dI i),(11,.ptr 4 0),(12,dI v),(13,dI u),(14,dI a.1)],HP a.2⟩):=⟨_,rfl⟩;refine EvL.rounds TK (λn a=>zqz num i ps8 u n a.1 a.2=some a2) (i.toNat+2) (0,a) (by rw[hTK,hHP]; exact zbi.sub ⟨rfl,rfl,rfl,rfl,rfl,rfl,rfl,rfl,rfl,rfl,qds⟩) gk (λ_ h=>nomatch h) ?_;rintro m ⟨kk,b⟩ hk2;simp only[zqz]at hk2;rw[congrFun hTK (kk,b),congrFun hHP b];simp only[zz3,zCX];refine zad ?_;cases c2:decide (kk<i)with
  | false=>
   rw[c2,qdu]at hk2;obtain rfl:=qaf hk2;refine sXM c2 ?_;exact⟨(w64 (u+1),b),h,by rw[hT,hHP]; exact zbi.sub ⟨rfl,rfl,rfl,rfl,rfl,rfl,rfl,rfl,rfl,qds⟩⟩
  | true=>
   rw[c2,qdt]at hk2;obtain⟨t,gc,hk2⟩:=bsM hk2;unfold zya at gc;obtain⟨y,gy,gc⟩:=bsM gc;refine sXM c2 ?_;refine EvL.scope (zad ?_);cases c3:(y == u)with
   | false=>
    rw[c3,qdu]at gc;obtain rfl:=qaf gc;rw[qdu]at hk2;refine sXM (anM c3 (ixM gy)) ?_;refine EvL.scope (zad ?_);refine sSM ?_;exact⟨(w64 (kk+1),b),hk2,by rw[hTK,hHP]; exact zbi.sub ⟨rfl,rfl,rfl,rfl,rfl,rfl,rfl,rfl,rfl,rfl,qds⟩⟩
   | true=>
    rw[c3,qdt]at gc;obtain⟨q,gq,gc⟩:=bsM gc;cases c4:(ziv .u8 q 1 == 1)with
    | false=>
     rw[c4,qdu]at gc;obtain rfl:=qaf gc;rw[qdu]at hk2;refine sXM (anM c3 (anM c4 (anM (ixM gy) (anM ((zaX gq).1) ((zaX gq).2))))) ?_;refine EvL.scope (zad ?_);refine sSM ?_;exact⟨(w64 (kk+1),b),hk2,by rw[hTK,hHP]; exact zbi.sub ⟨rfl,rfl,rfl,rfl,rfl,rfl,rfl,rfl,rfl,rfl,qds⟩⟩
    | true=>
     rw[c4,qdt]at gc;obtain rfl:=qaf gc;simp only[rnA,Nat.reduceEqDiff,Nat.reduceLT,c3,c4,zaz (n:=1) (e:=(eI .i64)) rfl gy,(zaX gq).1,(zaX gq).2,hv0,hv1,qaw,hl,hgs];refine EvL.scope (zad ?_);cases c5:decide ((b.length:Int)<3)with
     | false=>
      rw[c5,qdu]at hk2;refine sSM ?_;exact⟨(w64 (kk+1),b),hk2,by rw[hTK,hHP]; exact zbi.sub ⟨rfl,rfl,rfl,rfl,rfl,rfl,rfl,rfl,rfl,rfl,qds⟩⟩
     | true=>
      rw[c5,qdt]at hk2;obtain⟨b2,gb,hk2⟩:=bsM hk2;simp only[rnA,Nat.reduceEqDiff,Nat.reduceLT,Nat.reduceAdd,Nat.reduceLeDiff,Nat.reduceBEq,hv0,hv1,qaw,hl,hgs,qc4,zb9 gb,(plM gb),(piM gb)];exact⟨(w64 (kk+1),b2),hk2,by rw[hTK,hHP]; exact wm0 [.k,.k,.k,.k,.k,.k] ⟨.same (hb0 _),.same (hb1 _),MB.opn ⟨qds,rfl,zpq _ _ _ _,qds⟩,MB.cs ⟨qds,rfl,qds⟩,MB.cs ⟨hc0 _,qds,hc2 _,qds⟩,MB.gs (eI .i64) true b2,qds⟩⟩
theorem zlx{num:List Int}{i v count ps8:Int}{nodes:List S_api_Node}(g:zqV num i v count ps8 nodes=some nodes'):nodes'.length=nodes.length:=by
 unfold zqV at g;obtain⟨x,gx,g⟩:=bsM g;cases hp:x.parents.isEmpty with
 | false=>rw[hp]at g; cases g
 | true=>
 rw[hp,qdt]at g;obtain⟨ps,gu,g⟩:=bsM g;exact zaS g
def zb3(p0:S_api_Net)(p1:Int):Option (List Int):=
(zaE p0.nodes p1).bind λx1=>
(zfc p0).bind λr3=>
(zim r3 x1.parents).bind λr5=>
some r5
theorem zhS{p0:S_api_Net}{p1:Int}{r:(List Int)}(h:zb3 p0 p1=some r):Lx.Fn mC 37 [(.agg [(dI p0.grain),(fzE false zab p0.nodes)]),(dI p1)] (fzE true (eI .i64) r):=by
 refine gnO ?_;unfold zb3 at h;refine zad ?_;obtain⟨x1,g2,r3,g4,h⟩:=zgs h;refine sXM (anM @zaj (zaz (n:=3) (e:=zab) rfl g2)) ?_;refine fCM (zpl g4) ?_;obtain⟨r5,g6,h⟩:=bsM h;refine sSM ?_;refine fCM (zxH g6) ?_;exact rHM h
end Go.Dc
namespace Go.Dc
open Go Go.Mx Go.Lx
def dig:List Nat->Nat->List Nat
 | [],_=>[]
 | _ :: cs,i=>i / zac cs :: dig cs (i % zac cs)
theorem zf8:∀(cs:List Nat) (i:Nat),(dig cs i).length=cs.length
 | [],_=>rfl
 | _ :: cs,i=>by simp[dig,zf8 cs]
def zc6:List Nat->List Nat->Prop
 | [],[]=>True
 | c :: cs,x :: xs=>x<c/\c<=8/\zc6 cs xs
 | _,_=>False
theorem zc6.len:∀ {cs xs:List Nat},zc6 cs xs->xs.length=cs.length
 | [],[],_=>rfl
 | c :: cs,x :: xs,h=>by simp[h.2.2.len]
theorem zc6.snoc:∀ {cs xs:List Nat} {c x:Nat},zc6 (cs ++ [c]) (xs ++ [x])->xs.length=cs.length->zc6 cs xs/\x<c/\c<=8
 | [],[],c,x,h,_=>⟨qds,h.1,h.2.1⟩
 | c :: cs,x :: xs,_,_,h,hl=>by
  obtain⟨h1,h2,h3⟩:=h;obtain⟨g1,g2⟩:=h3.snoc (by simpa using hl);exact⟨⟨h1,h2,g1⟩,g2⟩
theorem zcr{cs:List Nat}(h:∀ c∈cs,1<=c/\c<=8):0<zac cs:=zdV λc hc=>(h c hc).1
theorem zfA:∀ {cs:List Nat} {i:Nat},(∀ c∈cs,1<=c/\c<=8)->i<zac cs->zc6 cs (dig cs i)
 | [],_,_,_=>trivial
 | c :: cs,i,h,hi=>by
  have hc:=h c qaj;have hp:=zcr λd hd=>h d (qah c hd)
  refine⟨?_,hc.2,zfA (λd hd=>h d (qah c hd)) (qa7 _ hp)⟩;have h1:i<c * zac cs:=hi;exact qbQ (by rw[qaS]; exact h1)
def nxt:List Nat->List Nat->Option (List Nat)
 | c :: cs,v :: vs=>match nxt cs vs with
  | some vs'=>some (v :: vs')
  | none=>if v+1<c then some ((v+1):: List.replicate vs.length 0)else none
 | _,_=>none
theorem zlc:∀ {cs vs:List Nat} {c v:Nat},vs.length=cs.length->v+1<c->nxt (cs ++ [c]) (vs ++ [v])=some (vs ++ [v+1])
 | [],[],c,v,_,h=>by simp[nxt,h]
 | d :: cs,u :: vs,c,v,hl,h=>by
  simp only[qbc,nxt,zlc (show vs.length=cs.length by simpa using hl) h]
theorem zjs:∀ {cs vs:List Nat} {c v:Nat},vs.length=cs.length->¬ v+1<c->nxt (cs ++ [c]) (vs ++ [v])=(nxt cs vs).map (· ++ [0])
 | [],[],c,v,_,h=>by simp[nxt,h]
 | d :: cs,u :: vs,c,v,hl,h=>by
  simp only[qbc,nxt,zjs (show vs.length=cs.length by simpa using hl) h];cases hn:nxt cs vs with
  | some vs'=>rfl
  | none=>
   simp only[qdo];by_cases hu:u+1<d
   .rw[if_pos hu,if_pos hu];simp[List.replicate_succ']
   rw[if_neg hu,if_neg hu]; rfl
theorem znG:∀(cs:List Nat),dig cs 0=List.replicate cs.length 0
 | []=>rfl
 | c :: cs=>by simp[dig,znG cs,qaX]
theorem zxi:∀ {cs:List Nat} {i:Nat},(∀ c∈cs,1<=c/\c<=8)->i<zac cs->nxt cs (dig cs i)=if i+1<zac cs then some (dig cs (i+1))else none
 | [],i,_,hi=>by
  have:i=0:=by simpa [zac]using hi
  subst this;simp[nxt,zac]
 | c :: cs,i,h,hi=>by
  have hp:=zcr λd hd=>h d (qah c hd)
  have hm:=qa7 i hp;have ih:=zxi (λd hd=>h d (qah c hd)) hm;have hi':i<c * zac cs:=hi;simp only[dig,nxt,ih];have hdm:=qcd i (zac cs);generalize hq:i / zac cs=q at *;generalize hr:i % zac cs=r at *;have hprod:zac (c :: cs)=c * zac cs:=rfl;by_cases h1:r+1<zac cs
  .rw[if_pos h1];have e1:(i+1) / zac cs=q:=by
    rw[<- hdm,qb1,Nat.mul_add_div hp,qb6 h1,qbH]
   have e2:(i+1) % zac cs=r+1:=by
    rw[<- hdm,qb1,Nat.mul_add_mod,qbb h1]
   have hqc:q<c:=by rw[<- hq]; exact qbQ (by rw[qaS]; exact hi')
   have h2:i+1<zac (c :: cs):=by
    rw[hprod];have:(q+1)* zac cs<=c * zac cs:=qas _ hqc;rw[qaQ,qa2,qaS q]at this;omega
   rw[if_pos h2,e1,e2]
  rw[if_neg h1];have hr1:r+1=zac cs:=by omega
  have hi1:i+1=zac cs * (q+1):=by rw[qdc,qb7]; omega
  simp only;have h4:(q+1<c)↔(i+1<zac (c :: cs)):=by
   rw[hprod,hi1,qaS c];exact(Nat.mul_lt_mul_left hp).symm
  by_cases h5:q+1<c
  .rw[if_pos h5,if_pos (h4.1 h5),hi1,Nat.mul_div_cancel_left _ hp,Nat.mul_mod_right,znG,zf8]
  rw[if_neg h5,if_neg (λh=>h5 (h4.2 h))]
variable{xs ys:List Nat}{k:Nat}
theorem zdf{x:Nat}(h:xs.length=k):zaE (iL (xs ++ x :: ys)) (k:Int)=some (x:Int):=by
 subst h;rw[za5 (by simp)];simp
theorem zeS{x y:Nat}(h:xs.length=k):zeT (iL (xs ++ x :: ys)) (k:Int) (y:Int)=some (iL (xs ++ y :: ys)):=by
 subst h;rw[zfr (by rw[zal]; simp)];simp[iL]
theorem zrm(h:xs.length=k+1):∃ ys y,xs=ys ++ [y]/\ys.length=k:=by
 have hne:xs≠[]:=by rintro rfl; simp at h
 exact⟨xs.dropLast,xs.getLast hne,(List.dropLast_concat_getLast hne).symm,by simp[h]⟩
theorem zwn(cs:List Nat):∀ a:Nat,(iL cs).foldl (· * ·) (a:Int)=((a * zac cs:Nat):Int):=by
 induction cs with
 | nil=>intro a; simp[iL,zac]
 | cons c cs ih=>
  intro a;show(iL cs).foldl (· * ·) ((a:Int)* (c:Int))=_;rw[<- qaZ,ih,qa3];rfl
theorem zIw(k:Nat):decide ((0:Int)<=(k:Int))=true:=qdv (qbR k)
theorem pred_succ(k:Nat):((k+1:Nat):Int) - 1=(k:Int):=by omega
end Go.Dc
namespace Go.Dc
open Go Go.Mx Go.Lx Go.Proofs
def zeC(p0:Int)(p1:Int):Option (Int×Int):=
(ziN .u64 p0 32).bind λq1=>
(ziN .u64 p1 32).bind λq3=>
(ziN .u64 (IntKind.u64.wrap ((ziv .u64 p0 4294967295)* (ziv .u64 p1 4294967295))) 32).bind λq5=>
(ziN .u64 (IntKind.u64.wrap ((IntKind.u64.wrap (q1 * (ziv .u64 p1 4294967295)))+q5)) 32).bind λq7=>
(ziN .u64 (IntKind.u64.wrap ((ziv .u64 (IntKind.u64.wrap ((IntKind.u64.wrap (q1 * (ziv .u64 p1 4294967295)))+q5)) 4294967295)+(IntKind.u64.wrap ((ziv .u64 p0 4294967295)* q3)))) 32).bind λq9=>
some ((IntKind.u64.wrap ((IntKind.u64.wrap ((IntKind.u64.wrap (q1 * q3))+q7))+q9)),(IntKind.u64.wrap (p0 * p1)))
theorem zmy{p0:Int}{p1:Int}{r:(Int×Int)}(h:zeC p0 p1=some r):Lx.Fn mC 128 [(dU p0),(dU p1)] (.tup [(dU r.1),(dU r.2)]):=by
 refine gnO ?_;unfold zeC at h;refine zad ?_;obtain⟨q1,g2,q3,g4,q5,g6,h⟩:=zjp h;obtain⟨q7,g8,q9,g10,h⟩:=zgs h;try simp only[rnA,Nat.reduceEqDiff,Nat.reduceLT,Nat.reduceAdd,reduceCtorEq,(zaX g2).1,(zaX g2).2,(zaX g4).2,(zaX g6).2,(zaX g8).2,(zaX g10).2]
 replace h:=qaf h; subst h;exact zjI.ret rfl (Snp.zDB (.cons (.lit _) (.cons (.lit _) .nil)))
end Go.Dc
namespace Go.Dc
open Go Go.Mx Go.Lx
theorem zCq{a:Nat}(ha:a<18446744073709551616):ziv .u64 (a:Int) 4294967295=((a % 4294967296:Nat):Int):=by
 rw[show(4294967295:Int)=((4294967295:Nat):Int)from rfl,zGO ha (by omega)];congr 1
 exact Nat.and_two_pow_sub_one_eq_mod a 32
theorem zwQ(a:Nat):ziN .u64 (a:Int) 32=some ((a / 4294967296:Nat):Int):=by
 have h:=zGu (a:=a) (v:=32) (by omega);rw[show((32:Nat):Int)=32 from rfl]at h;rw[h,qcb]
theorem zHf{x y:Nat}(hx:x<18446744073709551616)(hy:y<18446744073709551616):zeC (x:Int) (y:Int)=some (((x * y / 18446744073709551616:Nat):Int),((x * y % 18446744073709551616:Nat):Int)):=by
 unfold zeC;rw[zwQ,qaa,zwQ,qaa,zCq hx,zCq hy];have ex:x=x / 4294967296 * 4294967296+x % 4294967296:=by omega
 have ey:y=y / 4294967296 * 4294967296+y % 4294967296:=by omega
 have exy:x * y=(x / 4294967296)* (y / 4294967296)* 18446744073709551616+((x / 4294967296)* (y % 4294967296)+(x % 4294967296)* (y / 4294967296))* 4294967296+(x % 4294967296)* (y % 4294967296):=by
  have:∀ a b c d:Nat,(a * 4294967296+b)* (c * 4294967296+d)=a * c * 18446744073709551616+(a * d+b * c)* 4294967296+b * d:=by
   intro a b c d;rw[qaQ,qdc,qdc,Nat.mul_mul_mul_comm,show b * (c * 4294967296)=b * c * 4294967296 from(qa3 _ _ _).symm,show a * 4294967296 * d=a * d * 4294967296 by rw[qa3,qaS 4294967296 d,qa3]];omega
  calc x * y=(x / 4294967296 * 4294967296+x % 4294967296)* (y / 4294967296 * 4294967296+y % 4294967296):=by rw[<- ex,<- ey]
   _=_:=this _ _ _ _
 rw[show(x:Int)* (y:Int)=((x * y:Nat):Int)from(qaZ x y).symm,zyF];have ha:x / 4294967296<=4294967295:=by omega
 have hb:x % 4294967296<=4294967295:=by omega
 have hc:y / 4294967296<=4294967295:=by omega
 have hd:y % 4294967296<=4294967295:=by omega
 rw[exy];generalize x / 4294967296=a at *;generalize x % 4294967296=b at *;generalize y / 4294967296=c at *;generalize y % 4294967296=d at *;have h1:a * c<=4294967295 * 4294967295:=qbi ha hc;have h2:a * d<=4294967295 * 4294967295:=qbi ha hd;have h3:b * c<=4294967295 * 4294967295:=qbi hb hc;have h4:b * d<=4294967295 * 4294967295:=qbi hb hd;rw[<- qaZ,<- qaZ,<- qaZ,<- qaZ];generalize a * c=p at *;generalize a * d=q at *;generalize b * c=r at *;generalize b * d=s at *
 rw[zbY (n:=s) (by omega),zwQ,qaa,zbY (n:=q) (by omega),<- qb3,zbY (n:=q+s / 4294967296) (by omega),zwQ,qaa,zCq (by omega),zbY (n:=r) (by omega),<- qb3,zbY (n:=(q+s / 4294967296) % 4294967296+r) (by omega),zwQ,qaa,
  zbY (n:=p) (by omega),<- qb3,zbY (n:=p+(q+s / 4294967296) / 4294967296) (by omega),<- qb3,zbY (n:=p+(q+s / 4294967296) / 4294967296+((q+s / 4294967296) % 4294967296+r) / 4294967296) (by omega)]
 congr 2
 congr 1
 omega
end Go.Dc
namespace Go.Dc
open Go Go.Mx Go.Lx Go.Proofs
def zdZ(p0:Int):Option Bool:=
some false
variable{p0:Int}{r:Bool}
theorem zgi(h:zdZ p0=some r):Lx.Fn mC 140 [(dI p0)] (dB r):=by
 refine gnO ?_;unfold zdZ at h;refine wSM ?_;exact rHM h
def zes(p0:Int)(p1:Int):Option Bool:=
(((zdZ p0).bind λr1=>
bif r1 then(
(zdZ p1).bind λr4=>
bif r4 then(
some (decide (p0<p1)))
else(
some true))
else(
some (decide (p0<p1))):Option Bool)).bind λv4=>
some v4
theorem zlh{p1:Int}(h:zes p0 p1=some r):Lx.Fn mC 134 [(dI p0),(dI p1)] (dB r):=by
 refine gnO ?_;unfold zes at h;refine wSM ?_;obtain⟨o1,j1,h⟩:=bsM h;refine usM [] 0 (λa:Bool=>([(4,(dB a))],[],[])) λT1 hT1=>?_
 refine EvL.jn T1 (λa=>a=o1) ?_ ?_
 .refine zad ?_;obtain⟨r1,g2,j1⟩:=bsM j1;refine sSM ?_;refine fCM (zgi g2) ?_;refine cBM j1 (λ_ j1=>?_) λ_ j1=>?_
  .refine EvL.skip rfl ?_;refine sSM ?_;exact zde j1 hT1
  obtain⟨r4,g5,j1⟩:=bsM j1;refine sSM ?_;refine fCM (zgi g5) ?_;refine cBM j1 (λ_ j1=>?_) λ_ j1=>?_
  .exact zde j1 hT1
  exact zde j1 hT1
 rintro v4 rfl;refine wTM hT1 ?_;exact rHM h
def zeF(p0:Int)(p1:Int):Option (Int×Bool):=
some ((w64 (p0+p1)),(decide ((w64 (p0+p1))<=4611686018427387903)))
theorem znW{p1:Int}{r:(Int×Bool)}(h:zeF p0 p1=some r):Lx.Fn mC 95 [(dI p0),(dI p1)] (.tup [(dI r.1),(dB r.2)]):=by
 refine gnO ?_;unfold zeF at h;refine wSM ?_;exact rHM h
def zdN:Option S_api_Factor:=
some (S_api_Factor.mk [] [] [1])
theorem ziy{r:S_api_Factor}(h:zdN=some r):Lx.Fn mC 68 [] (.agg [(fzE true (eI .i64) r.vars),(fzE true (eI .i64) r.zaf),(fzE true (eI .i64) r.w)]):=by
 refine gnO ?_;unfold zdN at h;refine wSM ?_;exact rHM h
def zaZ(p1:(List Int))(v11:Int)(v12:Int)(p3:Int)(p2:(List Int))(p4:Int):Nat->Int->Option (Out3 Unit (Int×Int) Int)
 | 0,_=>none
 | n+1,v20=>(
bif (decide (v20<(p1.length:Int)))then(
(ziN .u64 (zBd .u64 (orI .u64 v11 v12) p3) v20).bind λq4=>
((bif ((ziv .u64 q4 1)== 1)then(
(zaE p2 v20).bind λx7=>
some (orI .u64 v11 x7))
else(
some v11):Option Int)).bind λv14=>
(ziN .u64 (orI .u64 (ziv .u64 v11 p4) (zBd .u64 v12 p3)) v20).bind λq9=>
((bif ((ziv .u64 q9 1)== 1)then(
(zaE p1 v20).bind λx12=>
some (orI .u64 v12 x12))
else(
some v12):Option Int)).bind λv15=>
((bif (v14 == v11)then(
some (!(v15 == v12)))
else(
some true):Option Bool)).bind λv64=>
bif v64 then(
some (.brk (v14,v15)))
else(
zaZ p1 v11 v12 p3 p2 p4 n (w64 (v20+1))))
else(
some (.go ())))
def zbq(p1:(List Int))(p3:Int)(p2:(List Int))(p4:Int):Nat->Int->Int->Option (Out Unit Int)
 | 0,_,_=>none
 | n+1,v11,v12=>(
((zaZ p1 v11 v12 p3 p2 p4 ((p1.length:Int) - 0+2:Int).toNat 0:Option (Out3 Unit (Int×Int) Int))).bind λo=>match o with
| .go _=>(
some (.ret (zBd .u64 (orI .u64 v11 v12) p3)))
| .brk (v11',v12')=>(
zbq p1 p3 p2 p4 n v11' v12')
| .ret r=>some (.ret r))
def zcd(N:Nat)(p0:Int)(p1:(List Int))(p2:(List Int))(p3:Int)(p4:Int):Option Int:=
(zpp .u64 1 p0).bind λq1=>
((zbq p1 p3 p2 p4 N q1 0:Option (Out Unit Int))).bind λo=>match o with
| .go _=>(
none)
| .ret r=>some r
theorem zhA{N:Nat}{p1:(List Int)}{p2:(List Int)}{p3:Int}{p4:Int}{r:Int}(h:zcd N p0 p1 p2 p3 p4=some r):Lx.Fn mC 71 [(dI p0),(fzE false (eI .u64) p1),(fzE false (eI .u64) p2),(dU p3),(dU p4)] (dU r):=by
 refine gnO ?_;unfold zcd at h;refine wSM ?_;refine EvL.scope (zad ?_);obtain⟨q1,g2,h⟩:=bsM h;refine sXM (anM ((zbK g2).1) ((zbK g2).2)) ?_;obtain⟨o210,j210,h⟩:=bsM h;refine usM [] 0 (λa:Unit=>([],[],[])) λT210 hT210=>?_
 refine EvL.jn T210 (λa=>o210=.go a) ?_ ?_
 .refine wSM ?_;refine usM [1,2,3,4] 0 (λa:(Int×Int)=>([(11,(dU a.1)),(12,(dU a.2))],[],[])) λT257 hT257=>?_
  refine rdM hT257 (λn a=>zbq p1 p3 p2 p4 n a.1 a.2=some o210) (q1,0) j210 ?_;rintro n ⟨v11,v12⟩ j210;simp only[zbq]at j210;refine wTM hT257 ?_;obtain⟨o270,j270,j210⟩:=bsM j210;refine usM [3,11,12] 0 (λa:Unit=>([],[],[])) λT270 hT270=>?_
  obtain⟨TB270,hTB270⟩:=zdp hT257 λa:(Int×Int)=>uDM (T257 (v11,v12)) [11,12] [(11,(dU a.1)),(12,(dU a.2))] [] []
  refine EvL.jn2 (id:=1) T270 (λa=>o270=.go a) TB270 (λa=>o270=.brk a) (λid S hx=>by first | (rcases hx with⟨hx | hx,_⟩<;> cases hx)| exact hx.elim) ?_ ?_ ?_
  .refine wSM ?_;obtain⟨T277,hT277⟩:=zdp hT257 λa:Int=>uDM (T257 (v11,v12)) [] [(19,(dI (p1.length:Int))),(20,(dI a))] [] []
   refine rdM hT277 (λn a=>zaZ p1 v11 v12 p3 p2 p4 n a=some o270) 0 j270 ?_;rintro n v20 j270;simp only[zaZ]at j270;refine wTM hT277 ?_;refine cBM j270 (λ_ j270=>?_) λ_ j270=>?_
   .obtain rfl:=qaf j270;exact zcz hT270 _ rfl
   obtain⟨q4,g5,j270⟩:=bsM j270;refine sXM (anM ((zaX g5).1) ((zaX g5).2)) ?_;obtain⟨o278,j278,j270⟩:=bsM j270;obtain⟨T278,hT278⟩:=zdp hT277 λa:Int=>uDM (T277 v20) [] [(13,(dI v20)),(14,(dU a)),(15,(dU v12))] [] []
   refine EvL.jn T278 (λa=>a=o278) ?_ ?_
   .refine wSM ?_;refine cBM j278 (λ_ j278=>?_) λ_ j278=>?_
    .exact zde j278 hT278
    obtain⟨x7,g8,j278⟩:=bsM j278;refine sXM (zaz (n:=1) (e:=(eI .u64)) rfl g8) ?_;exact zde j278 hT278
   rintro v14 rfl;refine wTM hT278 ?_;obtain⟨q9,g10,j270⟩:=bsM j270;refine sXM (anM ((zaX g10).1) ((zaX g10).2)) ?_;obtain⟨o279,j279,j270⟩:=bsM j270;obtain⟨T279,hT279⟩:=zdp hT278 λa:Int=>uDM (T278 v14) [13,15] [(15,(dU a))] [] []
   refine EvL.jn T279 (λa=>a=o279) ?_ ?_
   .refine wSM ?_;refine cBM j279 (λ_ j279=>?_) λ_ j279=>?_
    .exact zde j279 hT279
    obtain⟨x12,g13,j279⟩:=bsM j279;refine sXM (zaz (n:=1) (e:=(eI .u64)) rfl g13) ?_;exact zde j279 hT279
   rintro v15 rfl;refine wTM hT279 ?_;obtain⟨o280,j280,j270⟩:=bsM j270;obtain⟨T280,hT280⟩:=zdp hT279 λa:Bool=>uDM (T279 v15) [] [(64,(dB a))] [] []
   refine EvL.jn T280 _ (bJM j280 hT280) ?_;rintro v64 rfl;refine wTM hT280 ?_;refine cBM j270 (λ_ j270=>?_) λ_ j270=>?_
   .exact zcz hT277 (w64 (v20+1)) j270
   obtain rfl:=qaf j270;exact zcz hTB270 _ rfl
  .rintro⟨⟩ rfl;dsimp only at j210;refine wTM hT270 ?_;obtain rfl:=qaf j210;exact rHM h
  rintro⟨v11',v12'⟩ rfl;dsimp only at j210;refine wTM hTB270 ?_;exact zcz hT257 (v11',v12') j210
 rintro⟨⟩ rfl;dsimp only at h;exact nomatch h
def zfU(p0:(List S_api_Q))(p1:(List S_api_Q)):Nat->Int->Option (Out Unit Bool)
 | 0,_=>none
 | n+1,v13=>(
bif (decide (v13<(p0.length:Int)))then(
(zaE p0 v13).bind λx3=>
(zaE p1 v13).bind λx5=>
bif ((x3.n == x5.n) && (x3.d == x5.d))then(
zfU p0 p1 n (w64 (v13+1)))
else(
some (.ret false)))
else(
some (.go ())))
def zkS(p0:(List S_api_Q))(p1:(List S_api_Q)):Option Bool:=
bif ((p0.length:Int)==(p1.length:Int))then(
((zfU p0 p1 ((p0.length:Int) - 0+2:Int).toNat 0:Option (Out Unit Bool))).bind λo=>match o with
| .go _=>(
some true)
| .ret r=>some r)
else(
some false)
theorem zyK{p0:(List S_api_Q)}{p1:(List S_api_Q)}(h:zkS p0 p1=some r):Lx.Fn mC 30 [(fzE false zbZ p0),(fzE false zbZ p1)] (dB r):=by
 refine gnO ?_;unfold zkS at h;refine wSM ?_;refine cBM h (λ_ h=>?_) λ_ h=>?_
 .exact rHM h
 obtain⟨o1,j1,h⟩:=bsM h;refine usM [] 0 (λa:Unit=>([],[],[])) λT1 hT1=>?_
 refine EvL.jn T1 (λa=>o1=.go a) ?_ ?_
 .refine wSM ?_;refine usM [0,1,12] 0 (λa:Int=>([(13,(dI a))],[],[])) λT2 hT2=>?_
  refine rdM hT2 (λn a=>zfU p0 p1 n a=some o1) 0 j1 ?_;rintro n v13 j1;simp only[zfU]at j1;refine wTM hT2 ?_;refine cBM j1 (λ_ j1=>?_) λ_ j1=>?_
  .exact zsT j1 hT1
  obtain⟨x3,g4,x5,g6,j1⟩:=zgs j1;try simp only[rnA,Nat.reduceEqDiff,Nat.reduceLT,Nat.reduceAdd,Nat.reduceLeDiff,reduceCtorEq,zg7,zaz (n:=2) (e:=zbZ) rfl g4,zaz (n:=2) (e:=zbZ) rfl g6,zCV,Nat.beq_refl]
  refine cBM j1 (λ_ j1=>?_) λ_ j1=>?_
  .obtain rfl:=qaf j1;exact rHM h
  exact zcz hT2 (w64 (v13+1)) j1
 rintro⟨⟩ rfl;dsimp only at h;refine wTM hT1 ?_;exact rHM h
end Go.Dc
