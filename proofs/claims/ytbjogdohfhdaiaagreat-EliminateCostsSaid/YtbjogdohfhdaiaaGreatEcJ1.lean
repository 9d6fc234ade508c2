/-
 Plain laws: numbers and sets of bits. Conditions: none.
-/
import Derived.Test.YtbjogdohfhdaiaaGreatEcDm
import Derived.Test.YtbjogdohfhdaiaaGreatEcLi
set_option linter.unusedSimpArgs false
set_option linter.unusedVariables false
set_option maxRecDepth 100000
set_option maxHeartbeats 4000000
namespace Go.Dc
open Go Go.Mx Go.Lx
variable{n:Nat}
theorem zar(h:n<9223372036854775808):w64 (n:Int)=(n:Int):=wrap64 (by omega) (by omega)
theorem zed{n:Int}(h1:-9223372036854775808<=n)(h2:n<9223372036854775808):w64 n=n:=wrap64 h1 h2
theorem zaf(h:n+1<9223372036854775808):w64 ((n:Int)+1)=((n+1:Nat):Int):=by
 rw[zed (by omega) (by omega)]; omega
theorem zxX(n:Nat):IntKind.u64.wrap (n:Int)=((n % 18446744073709551616:Nat):Int):=by
 simp only[IntKind.wrap,IntKind.bits,IntKind.signed]; simp
theorem zbH(h:n<18446744073709551616):IntKind.u64.wrap (n:Int)=(n:Int):=by
 rw[zxX,qa7 h]
variable{a b:Nat}
theorem zG1(ha:a<18446744073709551616)(hb:b<18446744073709551616):zkZ .u64 (a:Int) (b:Int)=((a &&& b:Nat):Int):=by
 have h:(BitVec.ofInt 64 (a:Int) &&& BitVec.ofInt 64 (b:Int)).toNat=a &&& b:=by
  simp only[qcX,BitVec.toNat_and,BitVec.toNat_ofNat];rw[qa7 ha,qa7 hb]
 show IntKind.u64.wrap ((BitVec.ofInt 64 (a:Int) &&& BitVec.ofInt 64 (b:Int)).toNat:Int)=_;rw[h];exact zbH (qb8 Nat.and_le_left ha)
theorem orU(ha:a<18446744073709551616)(hb:b<18446744073709551616):orI .u64 (a:Int) (b:Int)=((a ||| b:Nat):Int):=by
 have h:(BitVec.ofInt 64 (a:Int)||| BitVec.ofInt 64 (b:Int)).toNat=a ||| b:=by
  simp only[qcX,BitVec.toNat_or,BitVec.toNat_ofNat];rw[qa7 ha,qa7 hb]
 show IntKind.u64.wrap ((BitVec.ofInt 64 (a:Int)||| BitVec.ofInt 64 (b:Int)).toNat:Int)=_;rw[h];exact zbH (qbZ (n:=64) ha hb)
def diff(a b:Nat):Nat:=(BitVec.ofNat 64 a &&& ~~~ BitVec.ofNat 64 b).toNat
theorem zCI(a b:Nat):diff a b<18446744073709551616:=(BitVec.ofNat 64 a &&& ~~~ BitVec.ofNat 64 b).isLt
theorem zGC(a b:Nat):zCZ .u64 (a:Int) (b:Int)=((diff a b:Nat):Int):=by
 show IntKind.u64.wrap ((BitVec.ofInt 64 (a:Int) &&& ~~~ BitVec.ofInt 64 (b:Int)).toNat:Int)=_;rw[qcX,qcX];exact zbH (zCI a b)
theorem zjp{i:Nat}(ha:a<18446744073709551616)(hb:b<18446744073709551616):(diff a b).testBit i=(a.testBit i && !b.testBit i):=by
 unfold diff;rw[BitVec.testBit_toNat,BitVec.getLsbD_and,BitVec.getLsbD_not,BitVec.getLsbD_ofNat,BitVec.getLsbD_ofNat];by_cases hi:i<64
 .simp[hi]
 have:a.testBit i=false:=Nat.testBit_lt_two_pow (qbV ha (qbs (n:=2) (by decide) (show 64<=i by omega)));simp[hi,this]
theorem zt7{v:Nat}(hv:v<64):zpr .u64 1 (v:Int)=some ((2 ^ v:Nat):Int):=by
 unfold zpr;rw[if_pos (by omega)];congr 1
 have h1:min (v:Int).toNat IntKind.u64.bits=v:=by
  rw[show IntKind.u64.bits=64 from rfl,qay]; exact qcj (by omega)
 rw[h1,Int.one_mul];have h2:((2:Int) ^ v)=((2 ^ v:Nat):Int):=by simp
 rw[h2];exact zbH (qbh (by decide) hv)
theorem zGq{v:Nat}(hv:v<64):zku .u64 (a:Int) (v:Int)=some ((a >>> v:Nat):Int):=by
 unfold zku;rw[if_pos (by omega)];congr 1
 have h1:min (v:Int).toNat IntKind.u64.bits=v:=by
  rw[show IntKind.u64.bits=64 from rfl,qay]; exact qcj (by omega)
 rw[h1,qb1];have h2:((2:Int) ^ v)=((2 ^ v:Nat):Int):=by simp
 rw[h2,Int.fdiv_eq_ediv_of_nonneg _ (qbN _)];rfl
theorem zIb(a v:Nat):((a >>> v) &&& 1)=(a.testBit v).toNat:=by
 rw[Nat.and_one_is_mod,Nat.testBit_eq_decide_div_mod_eq,qb1];have h:=Nat.mod_two_eq_zero_or_one (a / 2 ^ v);rcases h with h | h<;>simp[h]
theorem zFw{v:Nat}(ha:a<18446744073709551616)(hv:v<64):∃ q:Int,zku .u64 (a:Int) (v:Int)=some q/\zkZ .u64 q 1=((a.testBit v).toNat:Int):=by
 refine⟨_,zGq hv,?_⟩;rw[show(1:Int)=((1:Nat):Int)from rfl,zG1 (qb8 (by rw[qb1]; exact qdo _ _) ha) (by decide),zIb]
variable {α:Type}
variable{xs:List α}
theorem zxR{i:Nat}:zaE xs (i:Int)=xs[i]?:=by
 unfold zaE;rw[if_pos (qbN i),qay]
theorem zaA{i:Nat}(h:i<xs.length):zaE xs (i:Int)=some (xs[i]'h):=by
 rw[zxR,qac h]
theorem zeV{i:Nat}{v:α}(h:i<xs.length):zfl xs (i:Int) v=some (xs.set i v):=by
 unfold zfl;rw[if_pos (by omega),qay]
theorem zb8{ys:List α}(h:(xs.length+ys.length)* b<=70368744177664):zcX b xs ys=some (xs ++ ys):=by
 unfold zcX;rw[if_pos (by simp only[zaj]; omega)]
theorem zdH{z:α}(h:n * b<=70368744177664):zeR b (n:Int) z=some (List.replicate n z):=by
 have h2:(n:Int)* (b:Int)<=zaj:=by
  rw[<- qaL]; simp only[zaj]; omega
 unfold zeR;rw[if_pos ⟨qbN n,h2⟩,qay]
theorem zg2(h:xs.length * b<=70368744177664):zeB b xs=some xs:=by
 unfold zeB;rw[if_pos (by simp only[zaj]; omega)]
theorem zaz{i:Nat}:decide ((i:Int)<(n:Int))=decide (i<n):=by simp
theorem zap(n:Nat):((n:Int) - 0+2).toNat=n+2:=by omega
def iL(xs:List Nat):List Int:=xs.map (λx:Nat=>(x:Int))
theorem zai(xs:List Nat):(iL xs).length=xs.length:=by simp[iL]
theorem zuL{xs:List Nat}{i:Nat}(h:i<xs.length):(iL xs)[i]'(by rw[zai]; exact h)=((xs[i]:Nat):Int):=by simp[iL]
theorem zaW{xs:List Nat}{i:Nat}(h:i<xs.length):zaE (iL xs) (i:Int)=some ((xs[i]:Nat):Int):=by
 rw[zaA (by rw[zai]; exact h),zuL h]
def zac(xs:List Nat):Nat:=xs.foldr (· * ·) 1
theorem zey{xs:List Nat}(h:∀ x∈xs,1<=x):1<=zac xs:=by
 induction xs with
 | nil=>exact qap 1
 | cons x xs ih=>exact qa2 (h x qai) (ih λy hy=>h y (qag _ hy))
theorem zzH{i:Nat}(h:i<n):decide ((i:Int)<(n:Int))=true:=qdv (by omega)
theorem zFy(n:Nat):decide ((n:Int)<(n:Int))=false:=qdw (by omega)
theorem zqz(a b:List Nat):iL (a ++ b)=iL a ++ iL b:=by simp[iL]
theorem zgQ(k:Nat):iL (List.replicate k 0)=List.replicate k 0:=by simp[iL]
end Go.Dc
namespace Go.Dc
open Go Go.Mx Go.Lx Go.Proofs
def zen(p0:(List Int)):Nat->Int->Int->Option Int
 | 0,_,_=>none
 | n+1,v3,v4=>(
bif (decide (v4<(p0.length:Int)))then(
(zaE p0 v4).bind λx2=>
zen p0 n (w64 (v3 * x2)) (w64 (v4+1)))
else(
some v3))
def ze2(p0:(List Int)):Option Int:=
((zen p0 ((p0.length:Int) - 0+2:Int).toNat 1 0:Option Int)).bind λv3=>
some v3
variable{p0:(List Int)}
theorem zkQ{r:Int}(h:ze2 p0=some r):Lx.Fn mC 36 [(fzE false (eI .i64) p0)] (dI r):=by
 refine gnO ?_;unfold ze2 at h;refine wSM ?_;obtain⟨o1,j1,h⟩:=bsM h;refine usM [] 0 (λa:Int=>([(3,(dI a))],[],[])) λT1 hT1=>?_
 refine EvL.jn T1 (λa=>a=o1) ?_ ?_
 .refine wSM ?_;refine usM [0] 0 (λa:(Int×Int)=>([(3,(dI a.1)),(4,(dI a.2))],[],[])) λT2 hT2=>?_
  refine rdM hT2 (λn a=>zen p0 n a.1 a.2=some o1) (1,0) j1 ?_;rintro n ⟨v3,v4⟩ j1;simp only[zen]at j1;refine wTM hT2 ?_;refine cBM j1 (λ_ j1=>?_) λ_ j1=>?_
  .exact zch j1 hT1
  obtain⟨x2,g3,j1⟩:=bsM j1;refine sXM (ixM g3) ?_;exact zcr hT2 ((w64 (v3 * x2)),(w64 (v4+1))) j1
 rintro v3 rfl;refine wTM hT1 ?_;exact rHM h
def zfP(p1:(List Int))(p0:(List Int)):Nat->Int->(List Int)->Option (List Int)
 | 0,_,_=>none
 | n+1,v6,l0=>(
bif (decide (v6<(p1.length:Int)))then(
(zaE p1 v6).bind λx2=>
(zaE p0 x2).bind λx4=>
(zcX 8 l0 [x4]).bind λy6=>
zfP p1 p0 n (w64 (v6+1)) y6)
else(
some l0))
def zh3(p0:(List Int))(p1:(List Int)):Option (List Int):=
((zfP p1 p0 ((p1.length:Int) - 0+2:Int).toNat 0 []:Option (List Int))).bind λl0=>
some l0
variable{r:(List Int)}
theorem zwh{p1:(List Int)}(h:zh3 p0 p1=some r):Lx.Fn mC 65 [(fzE false (eI .i64) p0),(fzE false (eI .i64) p1)] (fzE true (eI .i64) r):=by
 refine gnO ?_;unfold zh3 at h;refine wSM ?_;obtain⟨o1,j1,h⟩:=bsM h;refine usM [] 0 (λa:(List Int)=>([(5,(.sl 0 0 1 a.length none a.length))],[],[.grow 1 (a.map ((eI .i64).c true))])) λT1 hT1=>?_
 refine EvL.jn T1 (λa=>a=o1) ?_ ?_
 .refine wSM ?_;refine usM [0,1] 0 (λa:(Int×(List Int))=>([(5,(.sl 0 0 1 a.2.length none a.2.length)),(6,(dI a.1))],[],[.grow 1 (a.2.map ((eI .i64).c true))])) λT2 hT2=>?_
  refine EvL.zgd (za8.ghost (n:=1) (k:=5) (by decide) rfl) ?_;refine EvL.rounds (α:=(Int×(List Int))) T2 (λn a=>zfP p1 p0 n a.1 a.2=some o1) ((p1.length:Int) - 0+2:Int).toNat (0,[]) (by rw[hT2]; exact wm0 [.k] ⟨MB.gs (eI .i64) true [],qds⟩) j1 (λ_ h=>nomatch (show(none:Option (List Int))=some o1 from h)) ?_;rintro n ⟨v6,l0⟩ j1;simp only[zfP]at j1;refine wTM hT2 ?_;refine cBM j1 (λ_ j1=>?_) λ_ j1=>?_
  .exact zch j1 hT1
  obtain⟨x2,g3,x4,g5,y6,g7,j1⟩:=zhx j1;refine sXM (anM (ixM g3) (anM (ixM g5) (anM (zbz g7) (anM (plM g7) (piM g7))))) ?_;exact zcr hT2 ((w64 (v6+1)),y6) j1
 rintro l0 rfl;refine wTM hT1 ?_;exact rHM h
def zdR(p0:S_api_Net):Nat->Int->(List Int)->Option (List Int)
 | 0,_,_=>none
 | n+1,v4,l1=>(
bif (decide (v4<(p0.nodes.length:Int)))then(
(zaE p0.nodes v4).bind λx2=>
(zcX 8 l1 [x2.zaF]).bind λy4=>
zdR p0 n (w64 (v4+1)) y4)
else(
some l1))
def zfh(p0:S_api_Net):Option (List Int):=
((zdR p0 ((p0.nodes.length:Int) - 0+2:Int).toNat 0 []:Option (List Int))).bind λl1=>
some l1
theorem znU{p0:S_api_Net}(h:zfh p0=some r):Lx.Fn mC 66 [(.agg [(dI p0.grain),(fzE false zaa p0.nodes)])] (fzE true (eI .i64) r):=by
 refine gnO ?_;unfold zfh at h;refine wSM ?_;obtain⟨o1,j1,h⟩:=bsM h;refine usM [] 1 (λa:(List Int)=>([(3,(.sl 1 0 1 a.length none a.length))],[(0,.gone)],[.grow 1 (a.map ((eI .i64).c true))])) λT1 hT1=>?_
 refine EvL.jn T1 (λa=>a=o1) ?_ ?_
 .refine wSM ?_;refine usM [1] 1 (λa:(Int×(List Int))=>([(3,(.sl 1 0 1 a.2.length none a.2.length)),(4,(dI a.1))],[],[.grow 1 (a.2.map ((eI .i64).c true))])) λT2 hT2=>?_
  refine EvL.zgd (za8.ghost (n:=1) (k:=3) (by decide) rfl) ?_;refine EvL.rounds (α:=(Int×(List Int))) T2 (λn a=>zdR p0 n a.1 a.2=some o1) ((p0.nodes.length:Int) - 0+2:Int).toNat (0,[]) (by rw[hT2]; exact wm0 [.k,.k] ⟨MB.cs ⟨qds,qds,qds⟩,⟨MB.gs (eI .i64) true [],qds⟩⟩) j1 (λ_ h=>nomatch (show(none:Option (List Int))=some o1 from h)) ?_;rintro n ⟨v4,l1⟩ j1;simp only[zdR]at j1;refine wTM hT2 ?_;refine cBM j1 (λ_ j1=>?_) λ_ j1=>?_
  .exact zch j1 hT1
  obtain⟨x2,g3,y4,g5,j1⟩:=zfo j1;refine sXM (anM @zak (anM (zaq (n:=3) (e:=zaa) rfl g3) (anM (zbz g5) (anM (plM g5) (piM g5))))) ?_;exact zcr hT2 ((w64 (v4+1)),y4) j1
 rintro l1 rfl;refine wTM hT1 ?_;exact rHM h
end Go.Dc
namespace Go.Dc
open Go Go.Mx Go.Lx
theorem zuE{p0:S_api_Net}(hl:p0.nodes.length<=8):∀(n i:Nat) (acc:List Int),i<=p0.nodes.length->acc.length<=i->p0.nodes.length - i<n ->
  zdR p0 n (i:Int) acc=some (acc ++ (p0.nodes.drop i).map (·.zaF))
 | 0,_,_,_,_,h=>absurd h (qaj _)
 | n+1,i,acc,h1,h2,h3=>by
  unfold zdR;by_cases hi:i<p0.nodes.length
  .rw[zaz,qdv hi,qdt,zaA hi,qaa,zb8 (by simp; omega),qaa,zaf (by omega),
    zuE hl n (i+1) _ hi (by simp; omega) (by omega),qas hi]
   rw[qaF]; rfl
  rw[zaz,qdw hi,qdu,qaW (by omega)];simp
theorem zrA{p0:S_api_Net}(hl:p0.nodes.length<=8):zfh p0=some (p0.nodes.map (·.zaF)):=by
 unfold zfh;rw[zap];have h:=zuE hl (p0.nodes.length+2) 0 [] (qar _) (qap _) (by omega);rw[show((0:Nat):Int)=0 from rfl]at h;rw[h];simp
def Pl(n:Nat)(xs:List Nat):Prop:=∀ x∈xs,x<n
theorem zHc{cs:List Int}{ps:List Nat}(hp:Pl cs.length ps)(hl:ps.length<=8):∀(n i:Nat) (acc:List Int),i<=ps.length->acc.length<=i->ps.length - i<n ->
  zfP (iL ps) cs n (i:Int) acc=some (acc ++ (ps.drop i).map λp=>cs.getD p 0)
 | 0,_,_,_,_,h=>absurd h (qaj _)
 | n+1,i,acc,h1,h2,h3=>by
  unfold zfP;rw[zai];by_cases hi:i<ps.length
  .have hb:ps[i]<cs.length:=hp _ (qam hi)
   rw[zaz,qdv hi,qdt,zaW hi,qaa,zaA hb,qaa,zb8 (by simp; omega),qaa,zaf (by omega),
    zHc hp hl n (i+1) _ hi (by simp; omega) (by omega),qas hi]
   rw[qaF,qaz,show cs.getD ps[i] 0=cs[ps[i]] by simp[hb]]; rfl
  rw[zaz,qdw hi,qdu,qaW (by omega)];simp
theorem zDW{cs:List Int}{ps:List Nat}(hp:Pl cs.length ps)(hl:ps.length<=8):zh3 cs (iL ps)=some (ps.map λp=>cs.getD p 0):=by
 unfold zh3;rw[zai,zap];have h:=zHc hp hl (ps.length+2) 0 [] (qar _) (qap _) (by omega);rw[show((0:Nat):Int)=0 from rfl]at h;rw[h];simp
theorem zzy{cs:List Nat}(hc:∀ x∈cs,1<=x)(hl:cs.length<=8):∀(n i a:Nat),i<=cs.length->a * zac (cs.drop i)<=65536->cs.length - i<n ->
  zen (iL cs) n (a:Int) (i:Int)=some ((a * zac (cs.drop i):Nat):Int)
 | 0,_,_,_,_,h=>absurd h (qaj _)
 | n+1,i,a,h1,h2,h3=>by
  unfold zen;rw[zai];by_cases hi:i<cs.length
  .have e:cs.drop i=cs[i]:: cs.drop (i+1):=qas hi;have e2:a * zac (cs.drop i)=a * cs[i] * zac (cs.drop (i+1)):=by rw[e]; exact(qaZ _ _ _).symm
   rw[e2]at h2;have hq:1<=zac (cs.drop (i+1)):=zey λx hx=>hc x (qcA hx)
   have hle:a * cs[i]<=65536:=qaq (qaJ _ hq) h2
   rw[zaz,qdv hi,qdt,zaW hi,qaa,zaf (by omega),show((a:Int)* ((cs[i]:Nat):Int))=((a * cs[i]:Nat):Int) by simp,
    zar (by omega),zzy hc hl n (i+1) _ hi h2 (by omega),e2]
  rw[zaz,qdw hi,qdu,qaW (by omega)];simp[zac]
theorem zuU{cs:List Nat}(hc:∀ x∈cs,1<=x)(hl:cs.length<=8)(hp:zac cs<=65536):ze2 (iL cs)=some ((zac cs:Nat):Int):=by
 unfold ze2;rw[zai,zap];have h:=zzy hc hl (cs.length+2) 0 1 (qar _) (by simpa using hp) (by omega);rw[show((0:Nat):Int)=0 from rfl,show((1:Nat):Int)=1 from rfl]at h;rw[h];simp
end Go.Dc
namespace Go.Dc
open Go Go.Mx Go.Lx Go.Proofs
def zdQ(p1:Int)(p2:(List Int))(p3:Int):Nat->Int->Int->(List Int)->Option (Int×(List Int))
 | 0,_,_,_=>none
 | n+1,v10,v11,l0=>(
bif (decide (v11<p1))then(
((bif (decide (0<(p2.length:Int)))then(
(zrc (w64 (p3+v11)) (p2.length:Int)).bind λq5=>
(zaE p2 q5).bind λx7=>
(zaE l0 v11).bind λx9=>
(zfl l0 v11 (w64 (x7.tmod 8))).bind λy11=>
some y11)
else(
some l0):Option (List Int))).bind λl0'=>
(zaE l0' v11).bind λx13=>
zdQ p1 p2 p3 n (w64 (v10+x13)) (w64 (v11+1)) l0')
else(
some (v10,l0)))
def zep(p1:Int)(p0:Int)(v10:Int):Nat->Int->Int->Int->(List Int)->Option (Int×Int×(List Int))
 | 0,_,_,_,_=>none
 | n+1,v12,v13,v14,l0'=>(
bif (decide (v14<p1))then(
(zaE l0' v14).bind λx16=>
((bif (decide (0<x16))then(
(zts .i64 (w64 (p0 * x16)) v10).bind λq19=>
(zfl l0' v14 q19).bind λy21=>
some (v14,y21))
else(
some (v13,l0')):Option ((Int×(List Int))))).bind λo=>match o with
|(v13',l0'')=>(
(zaE l0'' v14).bind λx23=>
zep p1 p0 v10 n (w64 (v12 - x23)) v13' (w64 (v14+1)) l0''))
else(
some (v12,v13,l0')))
def zgN(p0:Int)(p1:Int)(p2:(List Int))(p3:Int):Option (List Int):=
(zeR 8 p1 0).bind λy1=>
((zdQ p1 p2 p3 (p1 - 0+2:Int).toNat 0 0 y1:Option ((Int×(List Int))))).bind λo=>match o with
|(v10,l0)=>(
((zep p1 p0 v10 (p1 - 0+2:Int).toNat p0 0 0 l0:Option ((Int×Int×(List Int))))).bind λo=>match o with
|(v12,v13,l0')=>(
(zaE l0' v13).bind λx25=>
(zfl l0' v13 (w64 (x25+v12))).bind λy27=>
some y27))
theorem ztN{p0:Int}{p1:Int}{p2:(List Int)}{p3:Int}{r:(List Int)}(h:zgN p0 p1 p2 p3=some r):Lx.Fn mC 38 [(dI p0),(dI p1),(fzE false (eI .u8) p2),(dI p3)] (fzE true (eI .i64) r):=by
 refine gnO ?_;unfold zgN at h;refine zad ?_;obtain⟨y1,g2,h⟩:=bsM h;refine sXM (anM ((zaD g2).1.1) (anM ((zaD g2).1.2) (anM @qbS (miM g2)))) ?_;obtain⟨o4,j4,h⟩:=bsM h;refine usM [0,1,9] 1 (λa:(Int×(List Int))=>([(10,(dI a.1))],[(0,.els 1 (a.2.map ((eI .i64).c true)))],[])) λT4 hT4=>?_
 refine EvL.jn T4 (λa=>a=o4/\a.2.length=(Int.toNat p1)) ?_ ?_
 .refine wSM ?_;refine usM [0,1,2,3,9] 1 (λa:(Int×Int×(List Int))=>([(10,(dI a.1)),(11,(dI a.2.1))],[(0,.els 1 (a.2.2.map ((eI .i64).c true)))],[])) λT7 hT7=>?_
  refine rdM hT7 (λn a=>zdQ p1 p2 p3 n a.1 a.2.1 a.2.2=some o4/\a.2.2.length=(Int.toNat p1)) (0,0,y1) ⟨j4,zbC g2⟩ ?_;rintro n ⟨v10,v11,l0⟩ ⟨j4,el0⟩;simp only[zdQ]at j4;refine wTM hT7 ?_;refine cBM j4 (λ_ j4=>?_) λ_ j4=>?_
  .obtain rfl:=qae j4;exact zcr hT4 _ ⟨rfl,el0⟩
  obtain⟨o8,j8,j4⟩:=bsM j4;obtain⟨T8,hT8⟩:=zcC hT7 λa:(List Int)=>uDM (T7 (v10,v11,l0)) [] [] [(0,.els 1 (a.map ((eI .i64).c true)))] []
  refine EvL.jn T8 (λa=>a=o8/\a.length=(Int.toNat p1)) ?_ ?_
  .refine wSM ?_;refine cBM j8 (λ_ j8=>?_) λ_ j8=>?_
   .obtain rfl:=qae j8;exact zcr hT8 _ ⟨rfl,el0⟩
   obtain⟨q5,g6,x7,g8,x9,g10,j8⟩:=zhx j8;obtain⟨y11,g12,j8⟩:=bsM j8;refine sXM (anM (zjM g6) (anM (ziJ g6) (anM (zaq (n:=1) (e:=(eI .u8)) rfl g8) (anM el0 (anM (zaZ g10) (anM (ltM el0 g10) (anM (giM g10) (siM g12)))))))) ?_;obtain rfl:=qae j8;exact zcr hT8 _ ⟨rfl,(zaX g12).trans el0⟩
  rintro l0' ⟨rfl,el0'⟩;refine wTM hT8 ?_;obtain⟨x13,g14,j4⟩:=bsM j4;refine sXM (anM el0' (anM (zaZ g14) (anM (ltM el0' g14) (giM g14)))) ?_;exact zcr hT7 ((w64 (v10+x13)),(w64 (v11+1)),l0') ⟨j4,el0'⟩
 rintro⟨v10,l0⟩ ⟨rfl,el0⟩;dsimp only at h;refine wTM hT4 ?_;obtain⟨o13,j13,h⟩:=bsM h;obtain⟨T13,hT13⟩:=zcC hT4 λa:(Int×Int×(List Int))=>uKM (T4 (v10,l0)) [9] [(12,(dI a.1)),(13,(dI a.2.1))] [(0,.els 1 (a.2.2.map ((eI .i64).c true)))] []
 refine EvL.jn T13 (λa=>a=o13/\a.2.2.length=(Int.toNat p1)) ?_ ?_
 .refine wSM ?_;obtain⟨T17,hT17⟩:=zcC hT4 λa:(Int×Int×Int×(List Int))=>uDM (T4 (v10,l0)) [] [(12,(dI a.1)),(13,(dI a.2.1)),(14,(dI a.2.2.1))] [(0,.els 1 (a.2.2.2.map ((eI .i64).c true)))] []
  refine rdM hT17 (λn a=>zep p1 p0 v10 n a.1 a.2.1 a.2.2.1 a.2.2.2=some o13/\a.2.2.2.length=(Int.toNat p1)) (p0,0,0,l0) ⟨j13,el0⟩ ?_;rintro n ⟨v12,v13,v14,l0'⟩ ⟨j13,el0'⟩;simp only[zep]at j13;refine wTM hT17 ?_;refine cBM j13 (λ_ j13=>?_) λ_ j13=>?_
  .obtain rfl:=qae j13;exact zcr hT13 _ ⟨rfl,el0'⟩
  obtain⟨x16,g17,j13⟩:=bsM j13;refine sXM (anM el0' (anM (zaZ g17) (anM (ltM el0' g17) (giM g17)))) ?_;obtain⟨o18,j18,j13⟩:=bsM j13;obtain⟨T18,hT18⟩:=zcC hT17 λa:(Int×(List Int))=>uDM (T17 (v12,v13,v14,l0')) [13] [(13,(dI a.1))] [(0,.els 1 (a.2.map ((eI .i64).c true)))] []
  refine EvL.jn T18 (λa=>a=o18/\a.2.length=(Int.toNat p1)) ?_ ?_
  .refine wSM ?_;refine cBM j18 (λ_ j18=>?_) λ_ j18=>?_
   .obtain rfl:=qae j18;exact zcr hT18 _ ⟨rfl,el0'⟩
   obtain⟨q19,g20,y21,g22,j18⟩:=zfo j18;refine sXM (anM el0' (anM (zaZ g17) (anM (ltM el0' g17) (anM (giM g17) (anM (zqZ g20) (anM (zpP g20) (siM g22))))))) ?_;obtain rfl:=qae j18;exact zcr hT18 _ ⟨rfl,(zaX g22).trans el0'⟩
  rintro⟨v13',l0''⟩ ⟨rfl,el0''⟩;dsimp only at j13;refine wTM hT18 ?_;obtain⟨x23,g24,j13⟩:=bsM j13;refine sXM (anM el0'' (anM (zaZ g24) (anM (ltM el0'' g24) (giM g24)))) ?_;exact zcr hT17 ((w64 (v12 - x23)),v13',(w64 (v14+1)),l0'') ⟨j13,el0''⟩
 rintro⟨v12,v13,l0'⟩ ⟨rfl,el0'⟩;dsimp only at h;refine wTM hT13 ?_;obtain⟨x25,g26,y27,g28,h⟩:=zfo h;refine sXM (anM el0' (anM (zaZ g26) (anM (ltM el0' g26) (anM (giM g26) (siM g28))))) ?_;exact rHM h
end Go.Dc
namespace Go.Dc
open Go Go.Mx Go.Lx
theorem zwd{xs:List Nat}{i v:Nat}(h:i<xs.length):zfl (iL xs) (i:Int) (v:Int)=some (iL (xs.set i v)):=by
 simp_all [zeV,iL]
theorem zws(xs ys:List Nat):iL (xs ++ ys)=iL xs ++ iL ys:=by simp[iL]
theorem zwT:∀ {xs:List Nat} {i k:Nat} (h:i<xs.length),(xs.set i (xs[i]+k)).sum=xs.sum+k
 | [],i,k,h=>absurd h (qaj _)
 | x :: xs,0,k,h=>by simp; omega
 | x :: xs,i+1,k,h=>by
  have:=zwT (xs:=xs) (i:=i) (k:=k) (by simpa using h)
  grind
theorem zlI:∀ {xs:List Nat} {i:Nat} (h:i<xs.length),xs[i]<=xs.sum
 | [],i,h=>absurd h (qaj _)
 | x :: xs,0,h=>by simp
 | x :: xs,i+1,h=>by
  have:=zlI (xs:=xs) (i:=i) (by simpa using h)
  grind
variable{xs0 bs:List Nat}
theorem zd7{x:Nat}:zaE (iL (xs0 ++ x :: bs)) ((xs0.length:Nat):Int)=some (x:Int):=by
 rw[zaW (by simp)]; simp
theorem zgY{x y:Nat}:zfl (iL (xs0 ++ x :: bs)) ((xs0.length:Nat):Int) (y:Int)=some (iL (xs0 ++ y :: bs)):=by
 rw[zwd (by simp)]; simp
theorem zkS{a b:Nat}(hb:0<b):zrc (a:Int) (b:Int)=some ((a % b:Nat):Int):=by
 grind [zrc]
theorem zzj(a b:Nat):(a:Int).tmod (b:Int)=((a % b:Nat):Int):=rfl
theorem zHb{ws:List Nat}{g p c:Nat}(hp:p<=65536)(hc:c<=8):∀(n:Nat) (xs0:List Nat) (k:Nat),xs0.length+k=c->xs0.sum<=7 * xs0.length->k<n ->
  ∃ zs:List Nat,zs.length=c/\zs.sum<=7 * c/\zdQ (c:Int) (iL ws) (p:Int) n ((xs0.sum:Nat):Int) (xs0.length:Int) (iL (xs0 ++ List.replicate k 0))=some (((zs.sum:Nat):Int),iL zs)
 | 0,_,_,_,_,h=>absurd h (qaj _)
 | n+1,xs0,0,h1,h2,h3=>by
  grind [zdQ]
 | n+1,xs0,k+1,h1,h2,h3=>by
  have step:∀ a:Nat,a<=7->∃ zs:List Nat,zs.length=c/\zs.sum<=7 * c/\zdQ (c:Int) (iL ws) (p:Int) n (w64 (((xs0.sum:Nat):Int)+(a:Int))) (w64 ((xs0.length:Int)+1)) (iL (xs0 ++ a :: List.replicate k 0))=some (((zs.sum:Nat):Int),iL zs):=by
   intro a ha;obtain⟨zs,e1,e2,e3⟩:=zHb (ws:=ws) (g:=g) hp hc n (xs0 ++ [a]) k (by simp; omega) (by simp; omega) (by omega);refine⟨zs,e1,e2,?_⟩<;> grind [zar]
  unfold zdQ;rw[zaz,qdv (by omega),qdt,zai,qaS];by_cases h0:0<ws.length
  .have hq:(p+xs0.length) % ws.length<ws.length:=qbk _ h0;obtain⟨zs,e1,e2,e3⟩:=step (ws[(p+xs0.length) % ws.length] % 8) (by omega);refine⟨zs,e1,e2,?_⟩
   rw[show decide ((0:Int)<(ws.length:Int))=true by simpa using h0,qdt,<- qby,zar (by omega),zkS h0,qaa,zaW hq,qaa,zd7,
    qaa,show(((ws[(p+xs0.length) % ws.length]:Nat):Int).tmod 8)=((ws[(p+xs0.length) % ws.length] % 8:Nat):Int)from rfl,zar (by omega),zgY,
    qaa,qaa,zd7,qaa,e3]
  obtain⟨zs,e1,e2,e3⟩:=step 0 (by omega)
  grind [zd7]
theorem zGf{g t c:Nat}(hg:g<=60)(hc:c<=8)(ht:t<=65536):∀(n:Nat) (xs0 bs:List Nat) (m:Nat) (v:Nat),xs0.length+bs.length=c->xs0.sum * t+g * bs.sum<=g * t->bs.sum<=t->xs0.sum<=g->v<c->bs.length<n ->
  ∃(zs:List Nat) (v':Nat),zs.length=c/\zs.sum<=g/\v'<c/\zep (c:Int) (g:Int) (t:Int) n ((g - xs0.sum:Nat):Int) (v:Int) (xs0.length:Int) (iL (xs0 ++ bs))=some (((g - zs.sum:Nat):Int),(v':Int),iL zs)
 | 0,_,_,_,_,_,_,_,_,_,h=>absurd h (qaj _)
 | n+1,xs0,[],m,v,h1,h2,h2b,h3,h4,h5=>by
  grind [zep]
 | n+1,xs0,b :: bs,m,v,h1,h2,h2b,h3,h4,h5=>by
  simp only[qaC,qcw]at h1 h2 h2b h5;unfold zep;rw[zaz,qdv (by omega),qdt,zd7,qaa];by_cases h0:0<b
  .have hb:b<=t:=by omega
   have hgb:g * b<=60 * 65536:=qa2 hg (by omega);have hd:g * b / t * t<=g * b:=Nat.div_mul_le_self _ _;have hs:xs0.sum+g * b / t<=g:=by
    have h6:(xs0.sum+g * b / t)* t<=g * t:=by
     rw[qaQ];have:g * (b+bs.sum)=g * b+g * bs.sum:=qdb _ _ _;omega
    exact qco h6 (by omega)
   obtain⟨zs,v',e1,e2,e3,e4⟩:=zGf hg hc ht n (xs0 ++ [g * b / t]) bs m xs0.length (by simp; omega) (by
    have:g * (b+bs.sum)=g * b+g * bs.sum:=qdb _ _ _
    simp only[List.sum_append,qcw,List.sum_nil,qbM,qaQ]; omega) (by omega) (by simpa using hs) (by omega) (by omega)
   refine⟨zs,v',e1,e2,e3,?_⟩;have hq:zts .i64 (w64 ((g:Int)* (b:Int))) (t:Int)=some ((g * b / t:Nat):Int):=by
    unfold zts;have:((t:Int)== 0)=false:=by simp; omega
    rw[this,qdu,<- qaL,zar (by omega)];have hle:g * b / t<=g * b:=qdo _ _;exact congrArg some (zar (n:=g * b / t) (by omega))
   rw[show decide ((0:Int)<(b:Int))=true by simpa using h0,qdt,hq,qaa,zgY,qaa,qaa];simp only[];rw[zd7,qaa,zaf (by omega),show(((g - xs0.sum:Nat):Int) - ((g * b / t:Nat):Int))=((g - (xs0.sum+g * b / t):Nat):Int) by omega,zar (qb8 (Nat.sub_le _ _) (by omega)),<- e4];simp
  have hb:b=0:=by omega
  subst hb;obtain⟨zs,v',e1,e2,e3,e4⟩:=zGf hg hc ht n (xs0 ++ [0]) bs m v (by simp; omega) (by simp at h2 ⊢; omega) (by omega) (by simpa using h3) h4 (by omega);refine⟨zs,v',e1,e2,e3,?_⟩;rw[show decide ((0:Int)<((0:Nat):Int))=false from rfl,qdu,qaa];simp only[];rw[zd7,qaa,zaf (by omega),<- Int.ofNat_sub (by omega),zar (by omega),<- e4];simp
theorem zBo{ws:List Nat}{g p c:Nat}(hg:g<=60)(hp:p<=65536)(h1:1<=c)(hc:c<=8):
  ∃ zs:List Nat,zs.length=c/\zs.sum=g/\zgN (g:Int) (c:Int) (iL ws) (p:Int)=some (iL zs):=by
 obtain⟨zs,e1,e2,e3⟩:=zHb (ws:=ws) (g:=g) hp hc (c+2) [] c (by simp) (by simp) (by omega);obtain⟨ys,v,f1,f2,f3,f4⟩:=zGf (g:=g) (t:=zs.sum) (c:=c) hg hc (by omega) (c+2) [] zs 0 0 (by simp[e1]) (by simp) (qap _) (by simp) (by omega) (by omega);have hv:v<ys.length:=by omega
 refine⟨ys.set v (ys[v]+(g - ys.sum)),by simp[f1],by rw[zwT]; omega,?_⟩;unfold zgN;have hz:List.replicate c (0:Int)=iL (List.replicate c 0):=by simp[iL]
 simp only[qaP,List.sum_nil,qaU,qde]at e3 f4;rw[zdH (by omega),qaa,hz,zap];rw[show((0:Nat):Int)=0 from rfl]at e3 f4;rw[e3,qaa];simp only[];rw[f4,qaa];simp only[];rw[zaW hv,qaa,<- qby,zar,zwd hv,qaa];have:ys[v]<=ys.sum:=zlI hv;omega
end Go.Dc
namespace Go.Dc
open Go Go.Mx Go.Lx Go.Proofs
def zbK(p0:S_haruspexref02_Draft):Nat->Int->(List Int)->Option (List Int)
 | 0,_,_=>none
 | n+1,v4,l1=>(
((bif (decide (v4<(p0.c.length:Int)))then(
some (decide (v4<5)))
else(
some false):Option Bool)).bind λv13=>
bif v13 then(
(zaE p0.c v4).bind λx3=>
(zcX 8 l1 [(w64 (1+(w64 (x3.tmod 4))))]).bind λy5=>
zbK p0 n (w64 (v4+1)) y5)
else(
some l1))
def zcw(N:Nat)(p0:S_haruspexref02_Draft):Option (List Int):=
((zbK p0 N 0 []:Option (List Int))).bind λl1=>
some l1
variable{p0:S_haruspexref02_Draft}{r:(List Int)}
theorem zhW{N:Nat}(h:zcw N p0=some r):Lx.Fn mC 64 [(.agg [(fzE false (eI .u8) p0.c),(.lit (.int .u16 p0.which)),(fzE false (eI .u8) p0.order)])] (fzE true (eI .i64) r):=by
 refine gnO ?_;unfold zcw at h;refine wSM ?_;obtain⟨o5,j5,h⟩:=bsM h;refine usM [] 1 (λa:(List Int)=>([(3,(.sl 1 0 1 a.length none a.length))],[(0,.gone)],[.grow 1 (a.map ((eI .i64).c true))])) λT5 hT5=>?_
 refine EvL.jn T5 (λa=>a=o5) ?_ ?_
 .refine wSM ?_;refine usM [1] 1 (λa:(Int×(List Int))=>([(3,(.sl 1 0 1 a.2.length none a.2.length)),(4,(dI a.1))],[],[.grow 1 (a.2.map ((eI .i64).c true))])) λT9 hT9=>?_
  refine EvL.zgd (za8.ghost (n:=1) (k:=3) (by decide) rfl) ?_;refine EvL.rounds (α:=(Int×(List Int))) T9 (λn a=>zbK p0 n a.1 a.2=some o5) N (0,[]) (by rw[hT9]; exact wm0 [.k,.k] ⟨MB.cs ⟨qds,qds,qds,qds⟩,⟨MB.gs (eI .i64) true [],qds⟩⟩) j5 (λ_ h=>nomatch (show(none:Option (List Int))=some o5 from h)) ?_;rintro n ⟨v4,l1⟩ j5;simp only[zbK]at j5;refine wTM hT9 ?_;obtain⟨o10,j10,j5⟩:=bsM j5;obtain⟨T10,hT10⟩:=zcC hT9 λa:Bool=>uDM (T9 (v4,l1)) [] [(13,(dB a))] [] []
  refine EvL.jn T10 _ (bJM j10 hT10) ?_;rintro v13 rfl;refine wTM hT10 ?_;refine cBM j5 (λ_ j5=>?_) λ_ j5=>?_
  .exact zch j5 hT5
  obtain⟨x3,g4,y5,g6,j5⟩:=zfo j5;refine sXM (anM (zaq (n:=1) (e:=(eI .u8)) rfl g4) (anM (zbz g6) (anM (plM g6) (piM g6)))) ?_;exact zcr hT9 ((w64 (v4+1)),y5) j5
 rintro l1 rfl;refine wTM hT5 ?_;exact rHM h
def zaO(N:Nat)(p0:S_haruspexref02_Draft):Nat->Int->(List Int)->Option (List Int)
 | 0,_,_=>none
 | n+1,v4,l1=>(
(zcw N p0).bind λr1=>
bif (decide (v4<(r1.length:Int)))then(
((bif (decide (v4<(p0.order.length:Int)))then(
(zaE p0.order v4).bind λx5=>
(zrc (w64 x5) (w64 (v4+1))).bind λq7=>
some q7)
else(
some 0):Option Int)).bind λv5=>
(zeG l1 0 v5).bind λy9=>
(zeB 8 y9).bind λy11=>
(zcX 8 y9 [v4]).bind λy13=>
(zeG l1 v5 l1.length).bind λy15=>
(zcX 8 y13 y15).bind λy17=>
zaO N p0 n (w64 (v4+1)) y17)
else(
some l1))
def zbv(N:Nat)(p0:S_haruspexref02_Draft):Option (List Int):=
((zaO N p0 N 0 []:Option (List Int))).bind λl1=>
some l1
theorem zfM{N:Nat}(h:zbv N p0=some r):Lx.Fn mC 35 [(.agg [(fzE false (eI .u8) p0.c),(.lit (.int .u16 p0.which)),(fzE false (eI .u8) p0.order)])] (fzE true (eI .i64) r):=by
 refine gnO ?_;unfold zbv at h;refine wSM ?_;obtain⟨o5,j5,h⟩:=bsM h;refine usM [] 1 (λa:(List Int)=>([(3,(.sl 1 0 1 a.length none a.length))],[(0,.gone)],[.grow 1 (a.map ((eI .i64).c true))])) λT5 hT5=>?_
 refine EvL.jn T5 (λa=>a=o5) ?_ ?_
 .refine wSM ?_;refine usM [1] 1 (λa:(Int×(List Int))=>([(3,(.sl 1 0 1 a.2.length none a.2.length)),(4,(dI a.1))],[],[.grow 1 (a.2.map ((eI .i64).c true))])) λT9 hT9=>?_
  refine EvL.zgd (za8.ghost (n:=1) (k:=3) (by decide) rfl) ?_;refine EvL.rounds (α:=(Int×(List Int))) T9 (λn a=>zaO N p0 n a.1 a.2=some o5) N (0,[]) (by rw[hT9]; exact wm0 [.k,.k] ⟨MB.cs ⟨qds,qds,qds,qds⟩,⟨MB.gs (eI .i64) true [],qds⟩⟩) j5 (λ_ h=>nomatch (show(none:Option (List Int))=some o5 from h)) ?_;rintro n ⟨v4,l1⟩ j5;simp only[zaO]at j5;refine wTM hT9 ?_;obtain⟨r1,g2,j5⟩:=bsM j5;refine sSM ?_;refine fCM (zhW g2) ?_;refine cBM j5 (λ_ j5=>?_) λ_ j5=>?_
  .exact zch j5 hT5
  obtain⟨o10,j10,j5⟩:=bsM j5;obtain⟨T10,hT10⟩:=zcC hT9 λa:Int=>uDM (T9 (v4,l1)) [] [(5,(dI a))] [] []
  refine EvL.jn T10 (λa=>a=o10) ?_ ?_
  .refine wSM ?_;refine cBM j10 (λ_ j10=>?_) λ_ j10=>?_
   .exact zch j10 hT10
   obtain⟨x5,g6,q7,g8,j10⟩:=zfo j10;refine sXM (anM (zaq (n:=1) (e:=(eI .u8)) rfl g6) (anM (zjM g8) (ziJ g8))) ?_;exact zch j10 hT10
  rintro v5 rfl;rw[congrFun hT10 v5];refine EvL.zgd (S':=⟨42,[(1,(.ptr 0 0)),(3,(fzE true (eI .i64) l1)),(4,(dI v4)),(5,(dI v5))],[.cells [(fzE false (eI .u8) p0.c),(.lit (.int .u16 p0.which)),(fzE false (eI .u8) p0.order)]]⟩) (za8.m0 [.k,.f] rfl (msq (mf rfl (zhz (e:=(eI .i64)) (t:=true) rfl rfl (.inr rfl) rfl rfl (λk h=>nomatch h) (λh=>by cases h<;>rfl)) (msq (msq trivial)))) ⟨MB.cs ⟨qds,qds,qds,qds⟩,qds⟩) (zad ?_);obtain⟨y9,g10,y11,g12,y13,g14,j5⟩:=zhx j5;obtain⟨y15,g16,y17,g18,j5⟩:=zfo j5;refine sXM (anM (zrl (n:=1) (e:=(eI .i64)) rfl g10) (anM (zmz (n:=1) (e:=(eI .i64)) rfl) (anM (zkr g12) (anM (zbz g14) (anM (plM g14) (anM (piM g14) (anM (zzX (n:=1) (e:=(eI .i64)) rfl g16) (anM (zbz g18) (anM (show y13.length+y15.length=y17.length from zfK g18) (show y13.map ((eI .i64).c true)++ y15.map ((eI .i64).c true)=y17.map ((eI .i64).c true)from zdB g18 ((eI .i64).c true))))))))))) ?_;exact zcr hT9 ((w64 (v4+1)),y17) j5
 rintro l1 rfl;refine wTM hT5 ?_;exact rHM h
end Go.Dc
namespace Go.Dc
open Go Go.Mx Go.Lx
theorem zvF{c w:Nat}{os:List Int}{wh:Int}(hc:c<=5):∀(n i:Nat) (acc:List Int),acc.length=i->i<=c->c - i<n ->
  ∃ zs:List Int,zs.length=c/\zbK ⟨List.replicate c 0,wh,os⟩ n (i:Int) acc=some zs
 | 0,_,_,_,_,h=>absurd h (qaj _)
 | n+1,i,acc,h1,h2,h3=>by
  unfold zbK;simp only[qb4];by_cases hi:i<c
  .obtain⟨zs,e1,e2⟩:=zvF (w:=w) (os:=os) (wh:=wh) hc n (i+1) (acc ++ [1]) (by simp[h1]) hi (by omega);refine⟨zs,e1,?_⟩
   rw[zaz,qdv hi,qdt,qaa,show decide ((i:Int)<5)=true by simp; omega,qdt,zaA (by simpa using hi),qaa,
    List.getElem_replicate,show w64 (1+w64 ((0:Int).tmod 4))=1 from rfl,zb8 (by simp; omega),qaa,zaf (by omega),e2]
  exact⟨acc,by omega,by rw[zaz,qdw hi,qdu,qaa,qdu]⟩
theorem zyl{c N:Nat}{os:List Int}{wh:Int}(hc:c<=5)(hN:6<=N):∃ zs:List Int,zs.length=c/\zcw N ⟨List.replicate c 0,wh,os⟩=some zs:=by
 obtain⟨zs,e1,e2⟩:=zvF (w:=0) (os:=os) (wh:=wh) hc N 0 [] rfl (qar _) (by omega);refine⟨zs,e1,?_⟩;unfold zcw;rw[show((0:Nat):Int)=0 from rfl]at e2;rw[e2,qaa]
structure PermOk (c:Nat) (xs:List Nat):Prop where
 len:xs.length=c
 nod:xs.Nodup
 lt:∀ x∈xs,x<c
 all:∀ x,x<c->x∈xs
theorem zin{α:Type}{xs:List α}{a b:Nat}(h1:a<=b)(h2:b<=xs.length):zeG xs (a:Int) (b:Int)=some ((xs.drop a).take (b - a)):=by
 unfold zeG;rw[if_pos (by omega)];simp
theorem zAy{c N:Nat}{os:List Nat}{wh:Int}(hc:c<=5)(hN:6<=N)(ho:∀ o∈os,o<=255):∀(n i:Nat) (xs:List Nat),PermOk i xs->i<=c->c - i<n ->
  ∃ zs:List Nat,PermOk c zs/\zaO N ⟨List.replicate c 0,wh,iL os⟩ n (i:Int) (iL xs)=some (iL zs)
 | 0,_,_,_,_,h=>absurd h (qaj _)
 | n+1,i,xs,h1,h2,h3=>by
  unfold zaO;obtain⟨z0,z1,z2⟩:=zyl (os:=iL os) (wh:=wh) hc hN;rw[z2,qaa,z1];by_cases hi:i<c
  .have step:∀ q:Nat,q<=i->∃ zs:List Nat,PermOk c zs/\((zeG (iL xs) 0 (q:Int)).bind λy9=>
     (zeB 8 y9).bind λy11=>(zcX 8 y9 [(i:Int)]).bind λy13=>(zeG (iL xs) (q:Int) (iL xs).length).bind λy15=>(zcX 8 y13 y15).bind λy17=>
     zaO N ⟨List.replicate c 0,wh,iL os⟩ n (w64 ((i:Int)+1)) y17)=some (iL zs):=by
    intro q hq;have hl:=h1.len;have hp:List.Perm (xs.take q ++ i :: xs.drop q) (i :: xs):=by
     refine List.perm_middle.trans ?_;rw[qb3]
    obtain⟨zs,e1,e2⟩:=zAy (wh:=wh) hc hN ho n (i+1) (xs.take q ++ i :: xs.drop q) ⟨by rw[hp.length_eq]; simp[hl],hp.nodup_iff.2 (qbb.2 ⟨λhx=>qcc _ (h1.lt _ hx),h1.nod⟩),
     λx hx=>by
      rcases qav.1 (hp.mem_iff.1 hx)with h | h
      .omega
      have:=h1.lt _ h; omega,
     λx hx=>hp.mem_iff.2 (by
      by_cases hxi:x=i
      .exact qav.2 (.inl hxi)
      exact qag _ (h1.all _ (by omega)))⟩ hi (by omega)
    refine⟨zs,e1,?_⟩
    rw[show(0:Int)=((0:Nat):Int)from rfl,zin (qar _) (by rw[zai]; omega),qaa,zg2 (by simp[zai]; omega),qaa,
     zb8 (by simp[zai]; omega),qaa,zin (by rw[zai]; omega) (qap _),qaa,zb8 (by simp[zai]; omega),qaa,zaf (by omega),<- e2]
    congr 1
    simp[iL,qaM]
   rw[zaz,qdv hi,qdt];simp only[zai (os)];by_cases hio:i<os.length
   .have hq:os[i] % (i+1)<=i:=Nat.lt_succ_iff.1 (qbk _ (Nat.succ_pos _));have hb:=ho _ (qam hio);obtain⟨zs,e1,e2⟩:=step _ hq;refine⟨zs,e1,?_⟩;rw[zaz,qdv hio,qdt,zaW hio,qaa,zar (by omega),zaf (by omega),zkS (by omega),qaa,qaa,<- zaf (by omega)];exact e2
   obtain⟨zs,e1,e2⟩:=step 0 (qar _);refine⟨zs,e1,?_⟩;rw[zaz,qdw hio,qdu,qaa];exact e2
  have:i=c:=by omega
  subst this;exact⟨xs,h1,by rw[zaz,qdw hi,qdu]⟩
theorem zBJ{c N:Nat}{os:List Nat}{wh:Int}(hc:c<=5)(hN:6<=N)(ho:∀ o∈os,o<=255):
  ∃ zs:List Nat,PermOk c zs/\zbv N ⟨List.replicate c 0,wh,iL os⟩=some (iL zs):=by
 obtain⟨zs,e1,e2⟩:=zAy (wh:=wh) hc hN ho N 0 [] ⟨rfl,List.nodup_nil,by simp,by simp⟩ (qar _) (by omega);refine⟨zs,e1,?_⟩;unfold zbv;rw[show((0:Nat):Int)=0 from rfl,show iL []=[]from rfl]at e2;rw[e2,qaa]
end Go.Dc
namespace Go.Dc
open Go Go.Mx Go.Lx Go.Proofs
def zy0(num:List Int)(ps8 u k:Int)(ps:List Int):Option Bool:=
 (zaE num k).bind λx=>bif x == u then((zku .u8 ps8 (IntKind.u64.wrap k)).bind λq=>bif zkZ .u8 q 1 == 1 then some (decide ((ps.length:Int)<3))else some false)else some false
def zp7(num:List Int)(i ps8 u:Int):Nat->Int->List Int->Option (List Int)
 | 0,_,_=>none
 | n+1,k,ps=>bif decide (k<i)then((zy0 num ps8 u k ps).bind λb=>bif b then((zcX 8 ps [u]).bind λps2=>zp7 num i ps8 u n (w64 (k+1)) ps2)else zp7 num i ps8 u n (w64 (k+1)) ps)else some ps
def ztn(num:List Int)(i ps8 count:Int):Nat->Int->List Int->Option (List Int)
 | 0,_,_=>none
 | n+1,u,ps=>bif decide (u<count)then((zp7 num i ps8 u (i.toNat+2) 0 ps).bind λps2=>ztn num i ps8 count n (w64 (u+1)) ps2)else some ps
def zqJ(num:List Int)(i v count ps8:Int)(nodes:List S_api_Node):Option (List S_api_Node):=
 (zaE nodes v).bind λx=>bif x.parents.isEmpty then((ztn num i ps8 count (count.toNat+2) 0 []).bind λps=>zfl nodes v ⟨x.zaF,ps,x.rows⟩)else none
def zAI:C:=
 (.seq (.seq (rg [oM 101 14,
 oM 102 10,
 oB 103 .lss 101 102])
 (.cond (.s 103) (.skip)
 (.exit 6)))
 (.seq (.block 7 (.seq (.scope (rg [oM 106 5,
 oM 107 14,
 oI 108 1 106 107,
 oL 109 108,
 oM 110 13,
 oB 111 .eql 109 110,
 oM 112 111,
 oFg 113 1 11 112 true,
 oLg 114 113 112 true,
 oMg 115 14 112 true,
 ⟨some 116,.conv .u64 (.s 115),some (112,true)⟩,
 ⟨some 117,.bin .shr (.s 114) (.s 116),some (112,true)⟩,
 ⟨some 118,.bin .and (.s 117) (.c (.int .u8 1)),some (112,true)⟩,
 ⟨some 119,.bin .eql (.s 118) (.c (.int .u8 1)),some (112,true)⟩,
 ⟨some 120,.pick (.s 112) (.s 119) (.c (.bool false)),none⟩,
 oM 121 120,
 oFg 122 1 4 121 true,
 oLg 123 122 121 true,
 oMg 124 12 121 true,
 ⟨some 125,.idxS 3 (.s 123) (.s 124),some (121,true)⟩,
 oFg 126 1 125 121 true,
 oLg 127 126 121 true,
 ⟨some 128,.len (.s 127),some (121,true)⟩,
 oDg 129 .lss 128 3 121 true,
 ⟨some 130,.pick (.s 121) (.s 129) (.c (.bool false)),none⟩]))
 (.scope (.cond (.s 130) (.reg true false [oF 131 1 4,
 oL 132 131,
 oM 133 12,
 oF 134 1 4,
 oL 135 134,
 oM 136 12,
 oI 137 3 135 136,
 oF 138 1 137,
 oL 139 138,
 oM 140 13,
 ⟨some 141,.bsl 1 1 [(.int .i64 0)] [(0,(.s 140))],none⟩,
 ⟨none,.avo [(.s 131)] (.s 139),none⟩,
 oT 142 1 8 139 141,
 oI 143 3 132 133,
 oF 144 1 143,
 oS 1 144 142])
 (.skip)))))
 (rg [oM 104 14,
 oD 105 .add 104 1,
 oM 14 105])))
def zAn:C:=
 (.seq (.seq (rg [oM 96 13,
 oM 97 3,
 oB 98 .lss 96 97])
 (.cond (.s 98) (.skip)
 (.exit 4)))
 (.seq (.block 5 (.seq (rg [oK 14 0])
 (.scope (.block 6 (.loop zAI)))))
 (rg [oM 99 13,
 oD 100 .add 99 1,
 oM 13 100])))
section
variable (b0 b1:LB) (c40 c42:D) (num:List Int) (i v count ps8 grain:Int) (cnt:Nat) (nodes:List S_api_Node) (x:S_api_Node)
end
variable{Q:LX->LSt->Prop}{nodes':List S_api_Node}
theorem zEi{k:List K}{b0 b1:LB}{c40 c42:D}{num:List Int}{i v count ps8 grain:Int}{cnt:Nat}{nodes:List S_api_Node}(g:zqJ num i v count ps8 nodes=some nodes')(hb0:∀ kp,LB.kin kp b0)(hb1:∀ kp,LB.kin kp b1)(hc0:∀ kp,D.kin kp c40)(hc2:∀ kp,D.kin kp c42)(hl:nodes.length=cnt)(hk:EvL mC 0 k ⟨187,[(1,.ptr 0 0),(2,.ptr 1 0),(3,dI count),(4,.ptr 3 0),(5,fzE true (eI .i64) num),(10,dI i),(11,.ptr 4 0),(12,dI v)],[b0,b1,.els 3 (nodes'.map (zan.c true)),.cells [dI grain,.sl 2 0 3 cnt (some cnt) cnt],.cells [c40,dU8 ps8,c42]]⟩ Q):
  EvL mC 0 (.code (.scope (.block 4 (.loop zAn))):: k) ⟨187,[(1,.ptr 0 0),(2,.ptr 1 0),(3,dI count),(4,.ptr 3 0),(5,fzE true (eI .i64) num),(10,dI i),(11,.ptr 4 0),(12,dI v),(13,dI 0)],[b0,b1,.els 3 (nodes.map (zan.c true)),.cells [dI grain,.sl 2 0 3 cnt (some cnt) cnt],.cells [c40,dU8 ps8,c42]]⟩ Q:=by
 unfold zqJ at g;obtain⟨x,gx,g⟩:=bsM g;cases hp:x.parents.isEmpty with
 | false=>rw[hp]at g; cases g
 | true=>
 rw[hp,qdt]at g;obtain⟨ps,gu,g⟩:=bsM g;have hv0:=zaZ gx;have hv1:v<((cnt:Nat):Int):=hl ▸ zd6 gx;have hxe:=zcD gx (zan.c true);have hxl:=(qab.1 (zkH gx)).1;have hgs:∀ C:List D,((nodes.map (zan.c true)).set v.toNat C)[v.toNat]? = some C:=λC=>by rw[qa0 (by simpa using hxl)]
 obtain⟨HP,hHP⟩:∃ HP:List Int->List LB,HP=(λa=>[b0,b1,.els 3 ((nodes.map (zan.c true)).set v.toNat [dI x.zaF,.sl 5 0 1 a.length none a.length,nE true (eL (eI .i64)) x.rows]),.cells [dI grain,.sl 2 0 3 cnt (some cnt) cnt],.cells [c40,dU8 ps8,c42],.grow 1 (a.map ((eI .i64).c true))]):=⟨_,rfl⟩;refine EvL.jn (α:=Unit) (λ_=>⟨187,[(1,.ptr 0 0),(2,.ptr 1 0),(3,dI count),(4,.ptr 3 0),(5,fzE true (eI .i64) num),(10,dI i),(11,.ptr 4 0),(12,dI v)],[b0,b1,.els 3 (nodes'.map (zan.c true)),.cells [dI grain,.sl 2 0 3 cnt (some cnt) cnt],.cells [c40,dU8 ps8,c42]]⟩) (λ_=>True) ?_ (λ_ _=>hk);refine wSM ?_;refine EvL.zgd (za8.zAl (n:=1) (b:=2) (i:=v.toNat) (o:=1) (by decide) rfl hxe (by rw[zfB,zAw _ _ hp]; rfl)) ?_;obtain⟨T,hT⟩:∃ T:Int×List Int->LSt,T=(λa=>⟨187,[(1,.ptr 0 0),(2,.ptr 1 0),(3,dI count),(4,.ptr 3 0),(5,fzE true (eI .i64) num),(10,dI i),(11,.ptr 4 0),(12,dI v),(13,dI a.1)],HP a.2⟩):=⟨_,rfl⟩;refine EvL.rounds T (λn a=>ztn num i ps8 count n a.1 a.2=some ps) (count.toNat+2) (0,[]) (by rw[hT,hHP]; exact za8.sub ⟨rfl,rfl,rfl,rfl,rfl,rfl,rfl,rfl,rfl,qds⟩) gu (λ_ h=>nomatch h) ?_;rintro n ⟨u,a⟩ h;simp only[ztn]at h;rw[congrFun hT (u,a),congrFun hHP a];simp only[zAn,zCW];refine zad ?_;cases c1:decide (u<count)with
 | false=>
  rw[c1,qdu]at h;cases h;refine sXM c1 ?_;exact⟨(),qds,wm0 [.k,.k,.k,.k,.k,.f] ⟨.same (hb0 _),.same (hb1 _),MB.close g (.cons (.same trivial) (.cons (.fr (zwr (t:=true) rfl rfl rfl rfl (λh=>by cases h<;>rfl))) (.cons (.same (zoW _ _ _ _)) .nil))),MB.cs ⟨qds,rfl,qds⟩,MB.cs ⟨hc0 _,qds,hc2 _,qds⟩,qds⟩⟩
 | true=>
  rw[c1,qdt]at h;obtain⟨a2,gk,h⟩:=bsM h;refine sXM c1 ?_;refine EvL.scope (zad ?_);refine sSM ?_;obtain⟨TK,hTK⟩:∃ TK:Int×List Int->LSt,TK=(λa=>⟨187,[(1,.ptr 0 0),(2,.ptr 1 0),(3,dI count),(4,.ptr 3 0),(5,fzE true (eI .i64) num),(10,dI i),(11,.ptr 4 0),(12,dI v),(13,dI u),(14,dI a.1)],HP a.2⟩):=⟨_,rfl⟩;refine EvL.rounds TK (λn a=>zp7 num i ps8 u n a.1 a.2=some a2) (i.toNat+2) (0,a) (by rw[hTK,hHP]; exact za8.sub ⟨rfl,rfl,rfl,rfl,rfl,rfl,rfl,rfl,rfl,rfl,qds⟩) gk (λ_ h=>nomatch h) ?_;rintro m ⟨kk,b⟩ hk2;simp only[zp7]at hk2;rw[congrFun hTK (kk,b),congrFun hHP b];simp only[zAI,zCW];refine zad ?_;cases c2:decide (kk<i)with
  | false=>
   rw[c2,qdu]at hk2;obtain rfl:=qae hk2;refine sXM c2 ?_;exact⟨(w64 (u+1),b),h,by rw[hT,hHP]; exact za8.sub ⟨rfl,rfl,rfl,rfl,rfl,rfl,rfl,rfl,rfl,qds⟩⟩
  | true=>
   rw[c2,qdt]at hk2;obtain⟨t,gc,hk2⟩:=bsM hk2;unfold zy0 at gc;obtain⟨y,gy,gc⟩:=bsM gc;refine sXM c2 ?_;refine EvL.scope (zad ?_);cases c3:(y == u)with
   | false=>
    rw[c3,qdu]at gc;obtain rfl:=qae gc;rw[qdu]at hk2;refine sXM (anM c3 (ixM gy)) ?_;refine EvL.scope (zad ?_);refine sSM ?_;exact⟨(w64 (kk+1),b),hk2,by rw[hTK,hHP]; exact za8.sub ⟨rfl,rfl,rfl,rfl,rfl,rfl,rfl,rfl,rfl,rfl,qds⟩⟩
   | true=>
    rw[c3,qdt]at gc;obtain⟨q,gq,gc⟩:=bsM gc;cases c4:(zkZ .u8 q 1 == 1)with
    | false=>
     rw[c4,qdu]at gc;obtain rfl:=qae gc;rw[qdu]at hk2;refine sXM (anM c3 (anM c4 (anM (ixM gy) (anM ((zbA gq).1) ((zbA gq).2))))) ?_;refine EvL.scope (zad ?_);refine sSM ?_;exact⟨(w64 (kk+1),b),hk2,by rw[hTK,hHP]; exact za8.sub ⟨rfl,rfl,rfl,rfl,rfl,rfl,rfl,rfl,rfl,rfl,qds⟩⟩
    | true=>
     rw[c4,qdt]at gc;obtain rfl:=qae gc;simp only[rnA,Nat.reduceEqDiff,Nat.reduceLT,c3,c4,zaq (n:=1) (e:=(eI .i64)) rfl gy,(zbA gq).1,(zbA gq).2,hv0,hv1,qaI,hl,hgs];refine EvL.scope (zad ?_);cases c5:decide ((b.length:Int)<3)with
     | false=>
      rw[c5,qdu]at hk2;refine sSM ?_;exact⟨(w64 (kk+1),b),hk2,by rw[hTK,hHP]; exact za8.sub ⟨rfl,rfl,rfl,rfl,rfl,rfl,rfl,rfl,rfl,rfl,qds⟩⟩
     | true=>
      rw[c5,qdt]at hk2;obtain⟨b2,gb,hk2⟩:=bsM hk2;simp only[rnA,Nat.reduceEqDiff,Nat.reduceLT,Nat.reduceAdd,Nat.reduceLeDiff,Nat.reduceBEq,hv0,hv1,qaI,hl,hgs,qc4,zbz gb,(plM gb),(piM gb)];exact⟨(w64 (kk+1),b2),hk2,by rw[hTK,hHP]; exact wm0 [.k,.k,.k,.k,.k,.k] ⟨.same (hb0 _),.same (hb1 _),MB.opn ⟨qds,rfl,zoW _ _ _ _,qds⟩,MB.cs ⟨qds,rfl,qds⟩,MB.cs ⟨hc0 _,qds,hc2 _,qds⟩,MB.gs (eI .i64) true b2,qds⟩⟩
theorem zly{num:List Int}{i v count ps8:Int}{nodes:List S_api_Node}(g:zqJ num i v count ps8 nodes=some nodes'):nodes'.length=nodes.length:=by
 unfold zqJ at g;obtain⟨x,gx,g⟩:=bsM g;cases hp:x.parents.isEmpty with
 | false=>rw[hp]at g; cases g
 | true=>
 rw[hp,qdt]at g;obtain⟨ps,gu,g⟩:=bsM g;exact zaX g
def zba(p0:S_api_Net)(p1:Int):Option (List Int):=
(zaE p0.nodes p1).bind λx1=>
(zfh p0).bind λr3=>
(zh3 r3 x1.parents).bind λr5=>
some r5
theorem zfq{p0:S_api_Net}{p1:Int}{r:(List Int)}(h:zba p0 p1=some r):Lx.Fn mC 37 [(.agg [(dI p0.grain),(fzE false zaa p0.nodes)]),(dI p1)] (fzE true (eI .i64) r):=by
 refine gnO ?_;unfold zba at h;refine zad ?_;obtain⟨x1,g2,r3,g4,h⟩:=zfo h;refine sXM (anM @zak (zaq (n:=3) (e:=zaa) rfl g2)) ?_;refine fCM (znU g4) ?_;obtain⟨r5,g6,h⟩:=bsM h;refine sSM ?_;refine fCM (zwh g6) ?_;exact rHM h
def zs0(grain v:Int)(W:List Int)(nodes:List S_api_Node)(x:S_api_Node):Nat->Int->List (List Int)->Option (List (List Int))
 | 0,_,_=>none
 | n+1,r,rows=>(zfl nodes v ⟨x.zaF,x.parents,rows⟩).bind λcur=>
   (zba ⟨grain,cur⟩ v).bind λpc=>(ze2 pc).bind λsz=>
   bif decide (r<sz)then((zgN grain x.zaF W (w64 (r * w64 (x.zaF+1)))).bind λy=>(zcX 24 rows [y]).bind λrows2=>zs0 grain v W nodes x n (w64 (r+1)) rows2)else some rows
def zqu(N:Nat)(grain v:Int)(W:List Int)(nodes:List S_api_Node):Option (List S_api_Node):=
 (zaE nodes v).bind λx=>bif x.rows.isEmpty then((zs0 grain v W nodes x N 0 []).bind λrows=>zfl nodes v ⟨x.zaF,x.parents,rows⟩)else none
def zzI:C:=
 (.seq (.seq (rg [oM 145 15,
 oN 146 2 4,
 oM 147 12,
 oV 148 37 146 147,
 oU 149 36 148,
 oB 150 .lss 145 149])
 (.cond (.s 150) (.skip)
 (.exit 8)))
 (.seq (.block 9 (.reg true true [oF 153 1 4,
 oL 154 153,
 oM 155 12,
 oF 156 1 4,
 oL 157 156,
 oM 158 12,
 oI 159 3 157 158,
 oF 160 2 159,
 oL 161 160,
 oF 162 0 4,
 oL 163 162,
 oF 164 1 4,
 oL 165 164,
 oM 166 12,
 oI 167 3 165 166,
 oF 168 0 167,
 oL 169 168,
 oF 170 2 11,
 oL 171 170,
 oM 172 15,
 oF 173 1 4,
 oL 174 173,
 oM 175 12,
 oI 176 3 174 175,
 oF 177 0 176,
 oL 178 177,
 oD 179 .add 178 1,
 oB 180 .mul 172 179,
 ⟨some 181,.call 38 [(.s 163),(.s 169),(.s 171),(.s 180)],none⟩,
 ⟨some 182,.bsl 1 1 [(.slice none 0 0)] [(0,(.s 181))],none⟩,
 ⟨none,.avo [(.s 153)] (.s 161),none⟩,
 oT 183 1 24 161 182,
 oI 184 3 154 155,
 oF 185 2 184,
 oS 1 185 183]))
 (rg [oM 151 15,
 oD 152 .add 151 1,
 oM 15 152])))
theorem zEx{L:List LB}{nodes cur:List S_api_Node}{v:Int}{y:S_api_Node}{c:List D}(g:zfl nodes v y=some cur)(hc:Snps L false c (zaa.c false y)):
  Pw (Snp L false) ((nodes.map (zan.c true)).set v.toNat c) (cur.map (zaa.c false)):=by
 rw[<- zeq g (zaa.c false)];exact Pw.set (Pw.map (λx=>⟨(zd9 (L:=L) (t:=true) (u:=false) (λh=>nomatch h) x).len,(zd9 (L:=L) (t:=true) (u:=false) (λh=>nomatch h) x).get⟩) nodes) hc.len hc.get _
variable{W:List Int}
theorem zDg{k:List K}{b0 b1:LB}{c40 c41:D}{num:List Int}{i v count grain:Int}{cnt N:Nat}{nodes:List S_api_Node}(g:zqu N grain v W nodes=some nodes')(hb0:∀ kp,LB.kin kp b0)(hb1:∀ kp,LB.kin kp b1)(hc0:∀ kp,D.kin kp c40)(hc1:∀ kp,D.kin kp c41)(hl:nodes.length=cnt)(hk:EvL mC 0 k ⟨187,[(1,.ptr 0 0),(2,.ptr 1 0),(3,dI count),(4,.ptr 3 0),(5,fzE true (eI .i64) num),(10,dI i),(11,.ptr 4 0),(12,dI v)],[b0,b1,.els 3 (nodes'.map (zan.c true)),.cells [dI grain,.sl 2 0 3 cnt (some cnt) cnt],.cells [c40,c41,fzE false (eI .u8) W]]⟩ Q):
  EvL mC 0 (.code (.scope (.block 8 (.loop zzI))):: k) ⟨187,[(1,.ptr 0 0),(2,.ptr 1 0),(3,dI count),(4,.ptr 3 0),(5,fzE true (eI .i64) num),(10,dI i),(11,.ptr 4 0),(12,dI v),(15,dI 0)],[b0,b1,.els 3 (nodes.map (zan.c true)),.cells [dI grain,.sl 2 0 3 cnt (some cnt) cnt],.cells [c40,c41,fzE false (eI .u8) W]]⟩ Q:=by
 unfold zqu at g;obtain⟨x,gx,g⟩:=bsM g;cases hp:x.rows.isEmpty with
 | false=>rw[hp]at g; cases g
 | true=>
 rw[hp,qdt]at g;obtain⟨rows,gu,g⟩:=bsM g;have hv0:=zaZ gx;have hv1:v<((cnt:Nat):Int):=hl ▸ zd6 gx;have hxe:=zcD gx (zan.c true);have hxl:=(qab.1 (zkH gx)).1;have hgs:∀ C:List D,((nodes.map (zan.c true)).set v.toNat C)[v.toNat]? = some C:=λC=>by rw[qa0 (by simpa using hxl)]
 refine EvL.jn (α:=Unit) (λ_=>⟨187,[(1,.ptr 0 0),(2,.ptr 1 0),(3,dI count),(4,.ptr 3 0),(5,fzE true (eI .i64) num),(10,dI i),(11,.ptr 4 0),(12,dI v)],[b0,b1,.els 3 (nodes'.map (zan.c true)),.cells [dI grain,.sl 2 0 3 cnt (some cnt) cnt],.cells [c40,c41,fzE false (eI .u8) W]]⟩) (λ_=>True) ?_ (λ_ _=>hk);refine wSM ?_;refine EvL.zgd (za8.zAl (n:=1) (b:=2) (i:=v.toNat) (o:=2) (by decide) rfl hxe (by rw[zfB,zAw _ _ hp]; rfl)) ?_;obtain⟨T,hT⟩:∃ T:Int×List (List Int)->LSt,T=(λa=>⟨187,[(1,.ptr 0 0),(2,.ptr 1 0),(3,dI count),(4,.ptr 3 0),(5,fzE true (eI .i64) num),(10,dI i),(11,.ptr 4 0),(12,dI v),(15,dI a.1)],[b0,b1,.els 3 ((nodes.map (zan.c true)).set v.toNat [dI x.zaF,nE true (eI .i64) x.parents,.sl 5 0 1 a.2.length none a.2.length]),.cells [dI grain,.sl 2 0 3 cnt (some cnt) cnt],.cells [c40,c41,fzE false (eI .u8) W],.grow 1 (a.2.map ((eL (eI .i64)).c true))]⟩):=⟨_,rfl⟩;refine EvL.rounds T (λn a=>zs0 grain v W nodes x n a.1 a.2=some rows) N (0,[]) (by rw[hT]; exact za8.sub ⟨rfl,rfl,rfl,rfl,rfl,rfl,rfl,rfl,rfl,qds⟩) gu (λ_ h=>nomatch h) ?_;rintro n ⟨r,a⟩ h;simp only[zs0]at h;obtain⟨cur,gcur,pc,gpc,sz,gsz,h⟩:=zhx h;rw[congrFun hT (r,a)];simp only[zzI,zCW];refine wSM ?_;refine EvL.fn (zfq gpc) rfl rfl (.cons (.zup (.cons (.lit _) (.cons (znd (e:=zaa) rfl (.inl rfl) (by rw[qaI,qak]; exact hl.symm) (by rw[qaI,qak]; exact hl.symm) (λk h=>by cases h; exact qap _) (zEx gcur (.cons (.lit _) (.cons (zqv _ _ (λh=>nomatch h)) (.cons (zm9 (e:=(eL (eI .i64))) (t:=true) rfl (.inr rfl) rfl rfl (λk h=>nomatch h) (λh=>nomatch h)) .nil))))) .nil))) (.cons (.lit _) .nil)) ?_;refine sSM ?_;refine fCM (zkQ gsz) ?_;cases c1:decide (r<sz)with
 | false=>
  rw[c1,qdu]at h;obtain rfl:=qae h;refine sXM c1 ?_;exact⟨(),qds,wm0 [.k,.k,.k,.k,.k,.f] ⟨.same (hb0 _),.same (hb1 _),MB.close g (.cons (.same trivial) (.cons (.same (zoW _ _ _ _)) (.cons (.fr (zwr (t:=true) rfl rfl rfl rfl (λh=>by cases h<;>rfl))) .nil))),MB.cs ⟨qds,rfl,qds⟩,MB.cs ⟨hc0 _,hc1 _,qds,qds⟩,qds⟩⟩
 | true=>
  rw[c1,qdt]at h;obtain⟨y,gy,b2,gb,h⟩:=zfo h;simp only[rnA,Nat.reduceEqDiff,Nat.reduceLT,c1,hv0,hv1,qaI,hl,hgs];refine EvL.fn (ztN gy) rfl rfl (.cons (.lit _) (.cons (.lit _) (.cons (zcY _ _ (λh=>nomatch h)) (.cons (.lit _) .nil)))) ?_;simp only[rnA,Nat.reduceEqDiff,Nat.reduceLT,Nat.reduceAdd,Nat.reduceLeDiff,Nat.reduceBEq,hv0,hv1,qaI,hl,hgs,qc4,zbz gb,(plM gb),(show a.map ((eL (eI .i64)).c true)++ [[fzE true (eI .i64) y]]=b2.map ((eL (eI .i64)).c true)from zdB gb ((eL (eI .i64)).c true))];exact⟨(w64 (r+1),b2),h,by rw[hT]; exact wm0 [.k,.k,.k,.k,.k,.k] ⟨.same (hb0 _),.same (hb1 _),MB.opn ⟨qds,zoW _ _ _ _,rfl,qds⟩,MB.cs ⟨qds,rfl,qds⟩,MB.cs ⟨hc0 _,hc1 _,qds,qds⟩,MB.gs (eL (eI .i64)) true b2,qds⟩⟩
theorem ztF{N:Nat}{grain v:Int}{nodes:List S_api_Node}(g:zqu N grain v W nodes=some nodes'):nodes'.length=nodes.length:=by
 unfold zqu at g;obtain⟨x,gx,g⟩:=bsM g;cases hp:x.rows.isEmpty with
 | false=>rw[hp]at g; cases g
 | true=>
 rw[hp,qdt]at g;obtain⟨ps,gu,g⟩:=bsM g;exact zaX g
end Go.Dc
namespace Go.Dc
open Go Go.Mx Go.Lx
structure NN where
 c:Nat
 ps:List Nat
 rows:List (List Nat)
def nd(x:NN):S_api_Node:=⟨x.c,iL x.ps,x.rows.map iL⟩
theorem zsv(k:IntKind)(a:Int){v:Nat}:∃ q,zku k a (v:Int)=some q:=by
 simp_all [zku]
theorem zyO{num ps:List Nat}{ps8:Int}{u k:Nat}(hk:k<num.length):∃ b,zy0 (iL num) ps8 (u:Int) (k:Int) (iL ps)=some b/\(b=true->num[k]=u/\ps.length<3):=by
 unfold zy0;rw[zaW hk,qaa];by_cases h:num[k]=u
 .obtain⟨q,e⟩:=zsv .u8 ps8 (v:=k % 18446744073709551616);rw[show(((num[k]:Nat):Int)==(u:Int))=true by simp[h],qdt,zxX,e,qaa];cases zkZ .u8 q 1 == 1<;>grind [zai]
 rw[show(((num[k]:Nat):Int)==(u:Int))=false by simp; omega,qdu]
 simp_all
theorem znl{num:List Nat}{ps8:Int}{u i:Nat}(hi:i<=num.length)(hn:num.length<=5)(hd:num.Nodup):∀(n k:Nat) (ps:List Nat),ps.length<=3->k<=i->i - k<n ->
  ∃ qs:List Nat,zp7 (iL num) (i:Int) ps8 (u:Int) n (k:Int) (iL ps)=some (iL qs)/\(qs=ps\/(qs=ps ++ [u]/\ps.length<3/\∃ j,k<=j/\j<i/\num[j]? = some u))
 | 0,_,_,_,_,h=>absurd h (qaj _)
 | n+1,k,ps,h1,h2,h3=>by
  unfold zp7;by_cases hk:k<i
  .obtain⟨b,e,hb⟩:=zyO (num:=num) (ps:=ps) (ps8:=ps8) (u:=u) (k:=k) (by omega);rw[zaz,qdv hk,qdt,e,qaa];cases b with
   | false=>
    obtain⟨qs,e2,h4⟩:=znl (ps8:=ps8) (u:=u) hi hn hd n (k+1) ps h1 hk (by omega);refine⟨qs,by rw[qdu,zaf (by omega),e2],?_⟩;rcases h4 with h4 | ⟨h4,h5,j,h6,h7,h8⟩
    .exact .inl h4
    .exact .inr ⟨h4,h5,j,by omega,h7,h8⟩
   | true=>
    obtain⟨h5,h6⟩:=hb rfl;obtain⟨qs,e2,h4⟩:=znl (ps8:=ps8) (u:=u) hi hn hd n (k+1) (ps ++ [u]) (by simp; omega) hk (by omega);refine⟨qs,?_,.inr ⟨?_,h6,k,qap _,hk,by rw[qac (by omega),h5]⟩⟩
    .rw[qdt,zb8 (by simp[zai]; omega),qaa,zaf (by omega),<- e2];simp[iL]
    rcases h4 with h4 | ⟨h4,h7,j,h8,h9,h10⟩
    .exact h4
    exfalso
    have hj:j<num.length:=by omega
    rw[qac hj]at h10;have h12:num[j]=num[k]'(by omega):=by rw[h5]; exact qae h10
    exact qbi.1 hd k j (by omega) hj (by omega) h12.symm
  exact⟨ps,by rw[zaz,qdw hk,qdu],.inl rfl⟩
structure ParOk (num:List Nat) (i:Nat) (b:Nat) (ps:List Nat):Prop where
 len:ps.length<=3
 inc:ps.Pairwise (· < ·)
 lt:∀ p∈ps,p<b
 mem:∀ p∈ps,∃ j,j<i/\num[j]? = some p
theorem zrt{num:List Nat}{ps8:Int}{i c:Nat}(hi:i<=num.length)(hn:num.length<=5)(hc:c<=5)(hd:num.Nodup):∀(n u:Nat) (ps:List Nat),ParOk num i u ps->u<=c->c - u<n ->
  ∃ qs:List Nat,ztn (iL num) (i:Int) ps8 (c:Int) n (u:Int) (iL ps)=some (iL qs)/\ParOk num i c qs
 | 0,_,_,_,_,h=>absurd h (qaj _)
 | n+1,u,ps,h1,h2,h3=>by
  unfold ztn;by_cases hu:u<c
  .obtain⟨qs,e,h4⟩:=znl (ps8:=ps8) (u:=u) hi hn hd (i+2) 0 ps h1.len (qar _) (by omega);rw[show((0:Nat):Int)=0 from rfl]at e;have hq:ParOk num i (u+1) qs:=by
    rcases h4 with h4 | ⟨h4,h5,j,h6,h7,h8⟩
    .subst h4;exact⟨h1.len,h1.inc,λp hp=>qcg (h1.lt p hp),h1.mem⟩
    subst h4;refine⟨by simp; omega,?_,?_,?_⟩
    .rw[qcW];exact⟨h1.inc,qc7 _ _,λa ha b hb=>by rw[qaD.1 hb]; exact h1.lt a ha⟩
    .intro p hp;rcases qbf.1 hp with hp | hp
     .exact qcg (h1.lt p hp)
     rw[qaD.1 hp]; exact qbt _
    intro p hp;rcases qbf.1 hp with hp | hp
    .exact h1.mem p hp
    rw[qaD.1 hp]; exact⟨j,h7,h8⟩
   obtain⟨rs,e2,h9⟩:=zrt (ps8:=ps8) hi hn hc hd n (u+1) qs hq hu (by omega);refine⟨rs,?_,h9⟩
   grind [zaf]
  grind
variable{ns:List NN}
theorem zdc{v:Nat}(h:v<ns.length):zaE (ns.map nd) (v:Int)=some (nd ns[v]):=by
 grind [zaA]
theorem zia{v:Nat}{x:NN}(h:v<ns.length):zfl (ns.map nd) (v:Int) (nd x)=some ((ns.set v x).map nd):=by
 rw[zeV (by simpa using h)]; simp
theorem zBR{num:List Nat}{ps8:Int}{i:Nat}{v:Nat}(hi:i<=num.length)(hn:num.length<=5)(hl:ns.length<=5)(hd:num.Nodup)(hv:v<ns.length)(hp:ns[v].ps=[]):
  ∃ qs:List Nat,zqJ (iL num) (i:Int) (v:Int) (ns.length:Int) ps8 (ns.map nd)=some ((ns.set v ⟨ns[v].c,qs,ns[v].rows⟩).map nd)/\ParOk num i ns.length qs:=by
 obtain⟨qs,e,h⟩:=zrt (ps8:=ps8) hi hn hl hd (ns.length+2) 0 [] ⟨by simp,by simp,by simp,by simp⟩ (qar _) (by omega);refine⟨qs,?_,h⟩;unfold zqJ;rw[show((0:Nat):Int)=0 from rfl,show iL []=[]from rfl]at e;rw[zdc hv,qaa,show(nd ns[v]).parents.isEmpty=true by simp[nd,hp,iL],qdt,qay,e,qaa];exact zia (x:=⟨ns[v].c,qs,ns[v].rows⟩) hv
structure RowsOk (g c m:Nat) (rows:List (List Nat)):Prop where
 len:rows.length=m
 row:∀ r∈rows,r.length=c/\r.sum=g
theorem znR{v:Nat}{x:NN}(hv:v<ns.length)(hx:x.c=ns[v].c):(ns.set v x).map (·.c)=ns.map (·.c):=by
 rw[qdq,hx];apply qcr (by simp)<;> grind
def zeM(ns:List NN)(ps:List Nat):List Nat:=ps.map λp=>(ns.map (·.c)).getD p 0
theorem zvI{xs:List Nat}{p:Nat}:(iL xs).getD p 0=((xs.getD p 0:Nat):Int):=by
 grind [iL]
theorem zGS{g:Int}{v:Nat}(hl:ns.length<=8)(hv:v<ns.length)(hp:Pl ns.length ns[v].ps)(h8:ns[v].ps.length<=8):
  zba ⟨g,ns.map nd⟩ (v:Int)=some (iL (zeM ns ns[v].ps)):=by
 unfold zba;rw[zdc hv,qaa,zrA (by simpa using hl),qaa];have hc:(ns.map nd).map (·.zaF)=iL (ns.map (·.c)):=by simp[iL,nd,qbu]
 simp only[];rw[hc,show(nd ns[v]).parents=iL ns[v].ps from rfl,zDW (by rw[zai,qak]; exact hp) h8,qaa];congr 1
 simp only[zvI];simp only[zeM,iL,qcQ,qbu]
theorem zsb{g:Nat}{W:List Nat}{ns:List NN}{v m:Nat}(hg:g<=60)(hl:ns.length<=8)(hv:v<ns.length)(hp:Pl ns.length ns[v].ps)(h8:ns[v].ps.length<=8)(hc1:1<=ns[v].c)(hc4:ns[v].c<=4)
  (hs:∀ x∈zeM ns ns[v].ps,1<=x) (hm:zac (zeM ns ns[v].ps)=m) (hm2:m<=1024):∀(n r:Nat) (rows:List (List Nat)),RowsOk g ns[v].c r rows->r<=m->m - r<n ->
  ∃ rows',RowsOk g ns[v].c m rows'/\zs0 (g:Int) (v:Int) (iL W) (ns.map nd) (nd ns[v]) n (r:Int) (rows.map iL)=some (rows'.map iL)
 | 0,_,_,_,_,h=>absurd h (qaj _)
 | n+1,r,rows,h1,h2,h3=>by
  unfold zs0;have hx:(⟨(nd ns[v]).zaF,(nd ns[v]).parents,rows.map iL⟩:S_api_Node)=nd ⟨ns[v].c,ns[v].ps,rows⟩:=rfl;have hpc:zba ⟨g,(ns.set v ⟨ns[v].c,ns[v].ps,rows⟩).map nd⟩ (v:Int)=some (iL (zeM ns ns[v].ps)):=by
   grind [zGS,zeM]
  rw[hx,zia hv,qaa,hpc,qaa,zuU hs (by simpa [zeM]using h8) (by omega),qaa,hm];by_cases hr:r<m
  .have hmul:r * (ns[v].c+1)<=1024 * 5:=qa2 (by omega) (by omega);obtain⟨zs,e1,e2,e3⟩:=zBo (ws:=W) (g:=g) (p:=r * (ns[v].c+1)) (c:=ns[v].c) hg (by omega) hc1 (by omega)
   obtain⟨rows',e4,e5⟩:=zsb hg hl hv hp h8 hc1 hc4 hs hm hm2 (W:=W) n (r+1) (rows ++ [zs]) ⟨by simp[h1.len],by
    intro y hy;rcases qbf.1 hy with hy | hy
    .exact h1.row y hy
    rw[qaD.1 hy]; exact⟨e1,e2⟩⟩ hr (by omega)
   refine⟨rows',e4,?_⟩;have hcard:(nd ns[v]).zaF=((ns[v].c:Nat):Int):=rfl;have hlen:=h1.len;rw[zaz,qdv hr,qdt,hcard,zaf (by omega),<- qaL,zar (by omega),e3,qaa,zb8 (by simp; omega),qaa,zaf (by omega),<- e5];simp
  have:r=m:=by omega
  subst this;exact⟨rows,h1,by rw[zaz,qdw hr,qdu]⟩
theorem zBL{g N:Nat}{W:List Nat}{ns:List NN}{v:Nat}(hg:g<=60)(hl:ns.length<=8)(hv:v<ns.length)(hp:Pl ns.length ns[v].ps)(h8:ns[v].ps.length<=8)(hc1:1<=ns[v].c)(hc4:ns[v].c<=4)
  (hs:∀ x∈zeM ns ns[v].ps,1<=x) (hm2:zac (zeM ns ns[v].ps)<=1024) (hr:ns[v].rows=[]) (hN:1025<=N):
  ∃ rows,RowsOk g ns[v].c (zac (zeM ns ns[v].ps)) rows/\zqu N (g:Int) (v:Int) (iL W) (ns.map nd)=some ((ns.set v ⟨ns[v].c,ns[v].ps,rows⟩).map nd):=by
 obtain⟨rows,e1,e2⟩:=zsb hg hl hv hp h8 hc1 hc4 hs rfl hm2 (W:=W) N 0 [] ⟨rfl,by simp⟩ (qar _) (by omega);refine⟨rows,e1,?_⟩;unfold zqu;rw[show((0:Nat):Int)=0 from rfl,show([]:List (List Nat)).map iL=[]from rfl]at e2;rw[zdc hv,qaa,show(nd ns[v]).rows.isEmpty=true by simp[nd,hr],qdt,e2,qaa];exact zia (x:=⟨ns[v].c,ns[v].ps,rows⟩) hv
end Go.Dc
namespace Go.Dc
open Go Go.Mx Go.Lx Go.Proofs
def zcP(p0:(List Int)):Nat->Int->Int->Option (Int×Bool)
 | 0,_,_=>none
 | n+1,v2,v11=>(
bif (decide (v11<(p0.length:Int)))then(
(zaE p0 v11).bind λx3=>
((bif (decide (x3<1))then(
some true)
else(
bif (decide (8<x3))then(
some true)
else(
some (decide (4096<(w64 (v2 * x3)))))):Option Bool)).bind λv15=>
bif v15 then(
some (0,false))
else(
zcP p0 n (w64 (v2 * x3)) (w64 (v11+1))))
else(
some (v2,true)))
def zeX(p0:(List Int)):Option (Int×Bool):=
bif (decide (12<(p0.length:Int)))then(
some (0,false))
else(
((zcP p0 ((p0.length:Int) - 0+2:Int).toNat 1 0:Option ((Int×Bool)))).bind λo=>match o with
|(v2,v3)=>(
some (v2,v3)))
variable{p0:(List Int)}
theorem zkY{r:(Int×Bool)}(h:zeX p0=some r):Lx.Fn mC 89 [(fzE false (eI .i64) p0)] (.tup [(dI r.1),(dB r.2)]):=by
 refine gnO ?_;unfold zeX at h;refine wSM ?_;refine EvL.scope (zad ?_);refine sSM ?_;refine cBM h (λ_ h=>?_) λ_ h=>?_
 .obtain⟨o12,j12,h⟩:=bsM h;refine usM [] 0 (λa:(Int×Bool)=>([(2,(dI a.1)),(3,(dB a.2))],[],[])) λT12 hT12=>?_
  refine EvL.jn T12 (λa=>a=o12) ?_ ?_
  .refine wSM ?_;refine usM [3,9,10] 0 (λa:(Int×Int)=>([(2,(dI a.1)),(11,(dI a.2))],[],[])) λT15 hT15=>?_
   refine rdM hT15 (λn a=>zcP p0 n a.1 a.2=some o12) (1,0) j12 ?_;rintro n ⟨v2,v11⟩ j12;simp only[zcP]at j12;refine wTM hT15 ?_;refine cBM j12 (λ_ j12=>?_) λ_ j12=>?_
   .exact zch j12 hT12
   obtain⟨x3,g4,j12⟩:=bsM j12;refine sXM (ixM g4) ?_;obtain⟨o16,j16,j12⟩:=bsM j12;obtain⟨T16,hT16⟩:=zcC hT15 λa:Bool=>uDM (T15 (v2,v11)) [] [(5,(dI x3)),(15,(dB a))] [] []
   refine EvL.jn T16 _ (bJM j16 hT16) ?_;rintro v15 rfl;refine wTM hT16 ?_;refine cBM j12 (λ_ j12=>?_) λ_ j12=>?_
   .exact zcr hT15 ((w64 (v2 * x3)),(w64 (v11+1))) j12
   exact zch j12 hT12
  rintro⟨v2,v3⟩ rfl;dsimp only at h;refine wTM hT12 ?_;exact rHM h
 exact rHM h
def zdn(p0:(List Int)):Option (Int×Int):=
(zeX p0).bind λr1=>
bif r1.2 then(
some (r1.1,0))
else(
some (0,20))
theorem zid{r:(Int×Int)}(h:zdn p0=some r):Lx.Fn mC 60 [(fzE false (eI .i64) p0)] (.tup [(dI r.1),(dI r.2)]):=by
 refine gnO ?_;unfold zdn at h;refine zad ?_;obtain⟨r1,g2,h⟩:=bsM h;refine sSM ?_;refine fCM (zkY g2) ?_;refine cBM h (λ_ h=>?_) λ_ h=>?_
 .exact rHM h
 exact rHM h
end Go.Dc
namespace Go.Dc
open Go Go.Mx Go.Lx
abbrev zdv:Nat:=4611686018427387903
def zhf:Nat->List Int->Bool
 | _,[]=>true
 | a,c :: cs=>decide (1<=c) && decide (c<=8) && decide (a * c.toNat<=4096) && zhf (a * c.toNat) cs
theorem zlB:∀ {cs:List Int} {a:Nat},zhf a cs=true->∃ ns:List Nat,cs=iL ns/\(∀ c∈ns,1<=c/\c<=8)/\(a<=4096->a * zac ns<=4096)
 | [],a,_=>⟨[],rfl,by simp,λh=>by simpa [zac]using h⟩
 | c :: cs,a,h=>by
  simp only[zhf,qah,decide_eq_true_eq]at h;obtain⟨⟨⟨h1,h2⟩,h3⟩,h4⟩:=h;obtain⟨ns,e,g1,g2⟩:=zlB h4;refine⟨c.toNat :: ns,?_,?_,λ_=>?_⟩
  .rw[e]; simp[iL]; omega
  .intro d hd;rcases qav.1 hd with rfl | hd
   .omega
   exact g1 d hd
  have:=g2 h3;show a * (c.toNat * zac ns)<=4096;rw[<- qaZ]; exact this
theorem zic:∀ {ns:List Nat} {a:Nat},(∀ c∈ns,1<=c/\c<=8)->a * zac ns<=4096->zhf a (iL ns)=true
 | [],a,_,_=>rfl
 | n :: ns,a,h,hp=>by
  have h1:=h n qai;have hp':a * n * zac ns<=4096:=by rw[qaZ]; exact hp
  have hpos:1<=zac ns:=zey λx hx=>(h x (qag _ hx)).1
  have hle:a * n<=4096:=qaq (qaJ _ hpos) hp';show(decide ((1:Int)<=(n:Int)) && decide ((n:Int)<=8) && decide (a * (n:Int).toNat<=4096) && zhf (a * (n:Int).toNat) (iL ns))=true;rw[qay,zic (λc hc=>h c (qag _ hc)) hp',qdv (by omega),qdv (by omega),qdv hle];rfl
def zks:List Int->Nat
 | []=>1
 | c :: cs=>c.toNat * zks cs
theorem zkh(ns:List Nat):zks (iL ns)=zac ns:=by
 induction ns with
 | nil=>rfl
 | cons n ns ih=>show(n:Int).toNat * zks (iL ns)=n * zac ns; rw[ih,qay]
theorem zrW(cs:List Int)(hl:cs.length<=12):∀(n i:Nat) (a:Nat),a<=4096->i<=cs.length->cs.length - i<n->zcP cs n ((a:Nat):Int) (i:Int)=some (bif zhf a (cs.drop i)then(((a * zks (cs.drop i):Nat):Int),true)else(0,false))
 | 0,_,_,_,_,h=>absurd h (qaj _)
 | n+1,i,a,ha,hi,hn=>by
  unfold zcP;rcases qaY i cs.length with h3 | h3
  .rw[zzH h3,qdt,zaA h3,qaa,qas h3];generalize cs[i]=c;simp only[zhf,zks];by_cases h1:c<1
   .rw[qdv h1,qdt,qaa,qdt,qdw (show ¬ 1<=c by omega)];rfl
   rw[qdw h1,qdu,qdv (show 1<=c by omega)];by_cases h2:8<c
   .rw[qdv h2,qdt,qaa,qdt,qdw (show ¬ c<=8 by omega)];rfl
   rw[qdw h2,qdu,qdv (show c<=8 by omega)];obtain⟨m,rfl⟩:∃ m:Nat,c=(m:Int):=⟨c.toNat,by omega⟩;have hb:a * m<=4096 * 8:=qa2 ha (by omega);rw[<- qaL,zar (by omega),qaa,qay];by_cases h4:a * m<=4096
   .rw[show decide ((4096:Int)<((a * m:Nat):Int))=false from qdw (by omega),qdu,zaf (by omega),zrW cs hl n (i+1) (a * m) h4 h3 (by omega),qdv h4,qaZ];rfl
   rw[show decide ((4096:Int)<((a * m:Nat):Int))=true from qdv (by omega),qdt,qdw h4];rfl
  obtain rfl:i=cs.length:=by omega
  rw[zFy,qdu,qbx];simp[zhf,zks]
def zcF(cs:List Int):Bool:=decide (cs.length<=12) && zhf 1 cs
theorem zzS(cs:List Int):zdn cs=some (bif zcF cs then(((zks cs:Nat):Int),0)else(0,20)):=by
 unfold zdn zeX zcF;by_cases hl:cs.length<=12
 .rw[show decide ((12:Int)<(cs.length:Int))=false from qdw (by omega),qdu,zap];have:=zrW cs hl (cs.length+2) 0 1 (by omega) (qar _) (by omega);rw[show((1:Nat):Int)=1 from rfl,show((0:Nat):Int)=0 from rfl,qa4,qa6]at this;rw[this,qdv hl,qbU];cases zhf 1 cs<;>rfl
 rw[show decide ((12:Int)<(cs.length:Int))=true from qdv (by omega),qdt,qdw hl];rfl
end Go.Dc
namespace Go.Dc
open Go Go.Mx Go.Lx Go.Proofs
def zcW(p0:S_api_Factor):Nat->Int->Int->Option (Out Unit (S_factor_table×Int))
 | 0,_,_=>none
 | n+1,v6,v42=>(
bif (decide (v42<(p0.vars.length:Int)))then(
(zaE p0.vars v42).bind λx7=>
((bif (decide (x7<=v6))then(
some true)
else(
some (decide (63<x7))):Option Bool)).bind λv52=>
bif v52 then(
some (.ret ((S_factor_table.mk (S_api_Factor.mk [] [] []) []),30)))
else(
zcW p0 n x7 (w64 (v42+1))))
else(
some (.go ())))
def zcV(p0:S_api_Factor):Nat->Int->Option (Out Unit (S_factor_table×Int))
 | 0,_=>none
 | n+1,v59=>(
bif (decide (v59<(p0.w.length:Int)))then(
(zaE p0.w v59).bind λx12=>
((bif (decide (x12<0))then(
some true)
else(
some (decide (4611686018427387903<x12))):Option Bool)).bind λv68=>
bif v68 then(
some (.ret ((S_factor_table.mk (S_api_Factor.mk [] [] []) []),30)))
else(
zcV p0 n (w64 (v59+1))))
else(
some (.go ())))
def zcS(p0:S_api_Factor):Nat->Int->Int->(List Int)->Option (List Int)
 | 0,_,_,_=>none
 | n+1,v12,v13,l2=>(
bif (decide (0<=v13))then(
(zaE l2 v13).bind λx19=>
(zfl l2 v13 v12).bind λy21=>
(zaE p0.zah v13).bind λx23=>
zcS p0 n (w64 (v12 * x23)) (w64 (v13 - 1)) y21)
else(
some l2))
def zbV(p0:S_api_Factor):Option (S_factor_table×Int):=
(zdn p0.zah).bind λr1=>
((bif (r1.2 == 0)then(
bif ((p0.vars.length:Int)==(p0.zah.length:Int))then(
some (!((p0.w.length:Int)== r1.1)))
else(
some true))
else(
some true):Option Bool)).bind λv37=>
bif v37 then(
some ((S_factor_table.mk (S_api_Factor.mk [] [] []) []),30))
else(
((zcW p0 ((p0.vars.length:Int) - 0+2:Int).toNat (-1) 0:Option (Out Unit (S_factor_table×Int)))).bind λo=>match o with
| .go _=>(
((zcV p0 ((p0.w.length:Int) - 0+2:Int).toNat 0:Option (Out Unit (S_factor_table×Int)))).bind λo=>match o with
| .go _=>(
(zeR 8 (p0.zah.length:Int) 0).bind λy16=>
((zcS p0 ((w64 ((((Int.toNat (p0.zah.length:Int)):Nat):Int) - 1)) - 0+2:Int).toNat 1 (w64 ((((Int.toNat (p0.zah.length:Int)):Nat):Int) - 1)) y16:Option (List Int))).bind λl2=>
some ((S_factor_table.mk p0 l2),0))
| .ret r=>some r)
| .ret r=>some r)
theorem zeu{p0:S_api_Factor}{r:(S_factor_table×Int)}(h:zbV p0=some r):Lx.FnA mC 93 [(.agg [(fzE false (eI .i64) p0.vars),(fzE false (eI .i64) p0.zah),(fzE false (eI .i64) p0.w)])] (.tup [(.agg [(fzE false (eI .i64) r.1.factor.vars),(fzE false (eI .i64) r.1.factor.zah),(fzE false (eI .i64) r.1.factor.w),(fzE false (eI .i64) r.1.steps)]),(dI r.2)]):=by
 refine zz4 ?_;unfold zbV at h;refine zad ?_;obtain⟨r1,g2,h⟩:=bsM h;refine sSM ?_;refine fCM (zid g2) ?_;obtain⟨o1,j1,h⟩:=bsM h;refine usM [1,2] 2 (λa:Bool=>([(37,(dB a))],[],[])) λT1 hT1=>?_
 refine EvL.jn T1 _ (bJM j1 hT1) ?_;rintro v37 rfl;refine wTM hT1 ?_;refine cBM h (λ_ h=>?_) λ_ h=>?_
 .obtain⟨o5,j5,h⟩:=bsM h;obtain⟨T5,hT5⟩:=zcC hT1 λa:Unit=>uDM (T1 v37) [37] [] [] []
  refine EvL.jn T5 (λa=>o5=.go a) ?_ ?_
  .refine wSM ?_;obtain⟨T8,hT8⟩:=zcC hT1 λa:(Int×Int)=>uDM (T1 v37) [37] [(6,(dI a.1)),(40,(fzE false (eI .i64) p0.vars)),(41,(dI (p0.vars.length:Int))),(42,(dI a.2))] [] []
   refine rdM hT8 (λn a=>zcW p0 n a.1 a.2=some o5) ((-1),0) j5 ?_;rintro n ⟨v6,v42⟩ j5;simp only[zcW]at j5;refine wTM hT8 ?_;refine cBM j5 (λ_ j5=>?_) λ_ j5=>?_
   .exact zk6 j5 hT5
   obtain⟨x7,g8,j5⟩:=bsM j5;refine sXM (ixM g8) ?_;obtain⟨o9,j9,j5⟩:=bsM j5;obtain⟨T9,hT9⟩:=zcC hT8 λa:Bool=>uDM (T8 (v6,v42)) [6] [(8,(dI x7)),(52,(dB a))] [] []
   refine EvL.jn T9 _ (bJM j9 hT9) ?_;rintro v52 rfl;refine wTM hT9 ?_;refine cBM j5 (λ_ j5=>?_) λ_ j5=>?_
   .exact zcr hT8 (x7,(w64 (v42+1))) j5
   obtain rfl:=qae j5;exact rHM h
  rintro⟨⟩ rfl;dsimp only at h;refine wTM hT5 ?_;obtain⟨o13,j13,h⟩:=bsM h;obtain⟨T13,hT13⟩:=zcC hT5 λa:Unit=>uDM (T5 ()) [] [] [] []
  refine EvL.jn T13 (λa=>o13=.go a) ?_ ?_
  .refine wSM ?_;obtain⟨T16,hT16⟩:=zcC hT5 λa:Int=>uDM (T5 ()) [] [(57,(fzE false (eI .i64) p0.w)),(58,(dI (p0.w.length:Int))),(59,(dI a))] [] []
   refine rdM hT16 (λn a=>zcV p0 n a=some o13) 0 j13 ?_;rintro n v59 j13;simp only[zcV]at j13;refine wTM hT16 ?_;refine cBM j13 (λ_ j13=>?_) λ_ j13=>?_
   .exact zk6 j13 hT13
   obtain⟨x12,g13,j13⟩:=bsM j13;refine sXM (ixM g13) ?_;obtain⟨o17,j17,j13⟩:=bsM j13;obtain⟨T17,hT17⟩:=zcC hT16 λa:Bool=>uDM (T16 v59) [] [(68,(dB a))] [] []
   refine EvL.jn T17 _ (bJM j17 hT17) ?_;rintro v68 rfl;refine wTM hT17 ?_;refine cBM j13 (λ_ j13=>?_) λ_ j13=>?_
   .exact zcr hT16 (w64 (v59+1)) j13
   obtain rfl:=qae j13;exact rHM h
  rintro⟨⟩ rfl;dsimp only at h;refine wTM hT13 ?_;obtain⟨y16,g17,h⟩:=bsM h;refine sXM (anM ((zaD g17).1.1) (anM ((zaD g17).1.2) (anM @qbS (anM (miM g17) (zbC g17))))) ?_;obtain⟨o18,j18,h⟩:=bsM h;obtain⟨T18,hT18⟩:=zcC hT5 λa:(List Int)=>uDM (T5 ()) [] [(11,(.sl 2 0 1 (Int.toNat (p0.zah.length:Int)) (some (Int.toNat (p0.zah.length:Int))) (Int.toNat (p0.zah.length:Int))))] [] [.els 1 (a.map ((eI .i64).c true))]
  refine EvL.jn T18 (λa=>a=o18/\a.length=(Int.toNat (p0.zah.length:Int))) ?_ ?_
  .refine wSM ?_;obtain⟨T19,hT19⟩:=zcC hT5 λa:(Int×Int×(List Int))=>uDM (T5 ()) [] [(11,(.sl 2 0 1 (Int.toNat (p0.zah.length:Int)) (some (Int.toNat (p0.zah.length:Int))) (Int.toNat (p0.zah.length:Int)))),(12,(dI a.1)),(13,(dI a.2.1))] [] [.els 1 (a.2.2.map ((eI .i64).c true))]
   refine rdM hT19 (λn a=>zcS p0 n a.1 a.2.1 a.2.2=some o18/\a.2.2.length=(Int.toNat (p0.zah.length:Int))) (1,(w64 ((((Int.toNat (p0.zah.length:Int)):Nat):Int) - 1)),y16) ⟨j18,zbC g17⟩ ?_;rintro n ⟨v12,v13,l2⟩ ⟨j18,el2⟩;simp only[zcS]at j18;refine wTM hT19 ?_;refine cBM j18 (λ_ j18=>?_) λ_ j18=>?_
   .obtain rfl:=qae j18;exact zcr hT18 _ ⟨rfl,el2⟩
   obtain⟨x19,g20,y21,g22,x23,g24,j18⟩:=zhx j18;refine sXM (anM el2 (anM (zaZ g20) (anM (ltM el2 g20) (anM (giM g20) (anM (siM g22) (ixM g24)))))) ?_;exact zcr hT19 ((w64 (v12 * x23)),(w64 (v13 - 1)),y21) ⟨j18,(zaX g22).trans el2⟩
  rintro l2 ⟨rfl,el2⟩;refine wTM hT18 ?_;exact rHM h
 exact rHM h
end Go.Dc
namespace Go.Dc
open Go Go.Mx Go.Lx
def zAz:Int->List Int->Bool
 | _,[]=>true
 | l,v :: vs=>decide (l<v) && decide (v<=63) && zAz v vs
def zzM:List Int->Bool
 | []=>true
 | w :: ws=>decide (0<=w) && decide (w<=4611686018427387903) && zzM ws
def zFC(x:S_api_Factor):Bool:=zcF x.zah && decide (x.vars.length=x.zah.length) && decide (x.w.length=zks x.zah) && zAz (-1) x.vars && zzM x.w
def zaM:List Nat->List Nat
 | []=>[]
 | _ :: cs=>zac cs :: zaM cs
theorem zg9(cs:List Nat):(zaM cs).length=cs.length:=by induction cs with | nil=>rfl | cons c cs ih=>simp[zaM,ih]
abbrev noT:S_factor_table×Int:=(⟨⟨[],[],[]⟩,[]⟩,30)
theorem zrr(x:S_api_Factor)(hl:x.vars.length<=12):∀(n i:Nat) (l:Int),i<=x.vars.length->x.vars.length - i<n->zcW x n l (i:Int)=some (bif zAz l (x.vars.drop i)then .go ()else .ret noT)
 | 0,_,_,_,h=>absurd h (qaj _)
 | n+1,i,l,hi,hn=>by
  unfold zcW;rcases qaY i x.vars.length with h3 | h3
  .rw[zzH h3,qdt,zaA h3,qaa,qas h3];generalize x.vars[i]=v;simp only[zAz];by_cases h1:v<=l
   .rw[qdv h1,qdt,qaa,qdt,qdw (show ¬ l<v by omega)];rfl
   rw[qdw h1,qdu,qaa,qdv (show l<v by omega)];by_cases h2:63<v
   .rw[qdv h2,qdt,qdw (show ¬ v<=63 by omega)];rfl
   rw[qdw h2,qdu,qdv (show v<=63 by omega),zaf (by omega),zrr x hl n (i+1) v h3 (by omega)];rfl
  grind [zAz]
theorem zrF(x:S_api_Factor)(hl:x.w.length<=4096):∀(n i:Nat),i<=x.w.length->x.w.length - i<n->zcV x n (i:Int)=some (bif zzM (x.w.drop i)then .go ()else .ret noT)
 | 0,_,_,h=>absurd h (qaj _)
 | n+1,i,hi,hn=>by
  unfold zcV;rcases qaY i x.w.length with h3 | h3
  .rw[zzH h3,qdt,zaA h3,qaa,qas h3];generalize x.w[i]=v;simp only[zzM];by_cases h1:v<0
   .rw[qdv h1,qdt,qaa,qdt,qdw (show ¬ 0<=v by omega)];rfl
   rw[qdw h1,qdu,qaa,qdv (show 0<=v by omega)];by_cases h2:4611686018427387903<v
   .rw[qdv h2,qdt,qdw (show ¬ v<=4611686018427387903 by omega)];rfl
   rw[qdw h2,qdu,qdv (show v<=4611686018427387903 by omega),zaf (by omega),zrF x hl n (i+1) h3 (by omega)];rfl
  grind [zzM]
theorem zh4{ns:List Nat}(h:∀ c∈ns,1<=c):∀ k,zac (ns.drop k)<=zac ns:=by
 induction ns with
 | nil=>intro k; simp
 | cons n ns ih=>
  intro k;cases k with
  | zero=>exact qap _
  | succ k=>
   have h1:=ih (λc hc=>h c (qag _ hc)) k;have h2:=h n qai;show zac (ns.drop k)<=n * zac ns;exact qaq h1 (qcO _ h2)
theorem zml(x:S_api_Factor){ns:List Nat}(hx:x.zah=iL ns)(hc:∀ c∈ns,1<=c)(hp:zac ns<=4096)(hl:ns.length<=12):∀(k n:Nat),k<=ns.length->k<n ->
  zcS x n ((zac (ns.drop k):Nat):Int) ((k:Int) - 1) (iL (List.replicate k 0 ++ zaM (ns.drop k)))=some (iL (zaM ns))
 | k,0,_,h=>absurd h (qaj _)
 | 0,n+1,_,_=>by
  rfl
 | k+1,n+1,hk,hn=>by
  have ih:=zml x hx hc hp hl k n (by omega) (by omega);have hk':k<ns.length:=hk;unfold zcS;have e:(((k+1:Nat):Int) - 1)=(k:Int):=by omega
  have hlen:k<(iL (List.replicate (k+1) 0 ++ zaM (ns.drop (k+1)))).length:=by rw[zai]; simp; omega
  rw[e,show decide ((0:Int)<=(k:Int))=true from qdv (by omega),qdt,zaA hlen,qaa,zeV hlen,qaa,hx,zaW hk',qaa];have hd:ns.drop k=ns[k]:: ns.drop (k+1):=qas hk';have h1:(iL (List.replicate (k+1) 0 ++ zaM (ns.drop (k+1)))).set k ((zac (ns.drop (k+1)):Nat):Int)=iL (List.replicate k 0 ++ zaM (ns.drop k)):=by
   rw[hd,zqz,zqz,zgQ,zgQ,List.replicate_succ',qaF,qb2 _ _ (by simp)];simp[zaM,iL]
  have h2:((zac (ns.drop (k+1)):Nat):Int)* ((ns[k]:Nat):Int)=((zac (ns.drop k):Nat):Int):=by
   rw[hd,<- qaL,qaV]; rfl
  have h3:=zh4 hc k;rw[h1,h2,zar (by omega),zed (by omega) (by omega)];exact ih
def zuf(xs:List Int):List Nat:=xs.map Int.toNat
theorem zhU(ns:List Nat):zuf (iL ns)=ns:=by
 induction ns<;>grind [zuf,iL]
theorem zkB{cs:List Int}(h:zcF cs=true):∃ ns:List Nat,cs=iL ns/\(∀ c∈ns,1<=c/\c<=8)/\zac ns<=4096/\ns.length<=12:=by
 grind [zcF,zlB,zai]
theorem zDe(x:S_api_Factor):zbV x=some (bif zFC x then(⟨x,iL (zaM (zuf x.zah))⟩,0)else noT):=by
 unfold zbV zFC;rw[zzS,qaa];cases hc:zcF x.zah with
 | false=>
  rw[qdu];rfl
 | true=>
  obtain⟨ns,hx,h1,h2,h3⟩:=zkB hc;rw[qdt,show(((((zks x.zah:Nat):Int),(0:Int)).2 == 0))=true from rfl,qdt,qbU];by_cases hv:x.vars.length=x.zah.length
  .rw[show(((x.vars.length:Nat):Int)==((x.zah.length:Nat):Int))=true by rw[hv]; exact qdz _,qdt,qaa,qdv hv,qbU];by_cases hw:x.w.length=zks x.zah
   .have hw':x.w.length<=4096:=by rw[hw,hx,zkh]; exact h2
    have hl:x.vars.length<=12:=by rw[hv,hx,zai]; exact h3
    rw[show(!(((x.w.length:Nat):Int)==((zks x.zah:Nat):Int)))=false by rw[hw,qdz]; rfl,qdu,qdv hw,qbU,zap,zap];have e1:=zrr x hl (x.vars.length+2) 0 (-1) (qar _) (by omega);have e2:=zrF x hw' (x.w.length+2) 0 (qar _) (by omega);rw[show((0:Nat):Int)=0 from rfl,qa4]at e1 e2;rw[e1,qaa];cases zAz (-1) x.vars with
    | false=>rfl
    | true=>
     rw[qdt,qbU];simp only;rw[e2,qaa];cases zzM x.w with
     | false=>rfl
     | true=>
      rw[qdt];simp only;have hlen:x.zah.length=ns.length:=by rw[hx,zai]
      have e3:=zml x hx (λc hc=>(h1 c hc).1) h2 h3 ns.length (ns.length+1+1) (qap _) (by omega);rw[qbx]at e3;rw[zdH (by omega),qaa,qay,hlen,zed (by omega) (by omega),show((ns.length:Int) - 1 - 0+2).toNat=ns.length+1 by omega];have e4:=zml x hx (λc hc=>(h1 c hc).1) h2 h3 ns.length (ns.length+1) (qap _) (by omega);rw[qbx]at e4;rw[show iL (List.replicate ns.length 0 ++ zaM [])=List.replicate ns.length 0 by simp[zaM,iL],show((zac []:Nat):Int)=1 from rfl]at e4
      grind [zhU]
   grind
  grind
structure Fc where
 vs:List Nat
 cs:List Nat
 ws:List Nat
def Fc.D(f:Fc):S_api_Factor:=⟨iL f.vs,iL f.cs,iL f.ws⟩
structure FcOk (f:Fc):Prop where
 len:f.vs.length=f.cs.length
 le:f.cs.length<=12
 zaF:∀ c∈f.cs,1<=c/\c<=8
 prod:zac f.cs<=4096
 size:f.ws.length=zac f.cs
 inc:f.vs.Pairwise (· < ·)
 var:∀ v∈f.vs,v<64
 num:∀ w∈f.ws,w<=zdv
theorem zwE:∀ {ns:List Nat} {l:Int},ns.Pairwise (· < ·)->(∀ v∈ns,v<64/\l<(v:Int))->zAz l (iL ns)=true
 | [],_,_,_=>rfl
 | n :: ns,l,h1,h2=>by
  have h3:=h2 n qai;obtain⟨h4,h5⟩:=qa3.1 h1;show(decide (l<(n:Int)) && decide ((n:Int)<=63) && zAz (n:Int) (iL ns))=true;rw[qdv h3.2,qdv (by omega),zwE h5 λv hv=>⟨(h2 v (qag _ hv)).1,by have:=h4 v hv; omega⟩];rfl
theorem zvd:∀ {ns:List Nat},(∀ w∈ns,w<=zdv)->zzM (iL ns)=true
 | [],_=>rfl
 | n :: ns,h=>by
  have h1:n<=4611686018427387903:=h n qai;show(decide (0<=(n:Int)) && decide ((n:Int)<=4611686018427387903) && zzM (iL ns))=true;rw[qdv (by omega),qdv (by omega),zvd λw hw=>h w (qag _ hw)];rfl
theorem zA4{f:Fc}(h:FcOk f):zFC f.D=true:=by
 unfold zFC Fc.D zcF;simp only[zai];rw[qdv h.le,zic h.zaF (by have:=h.prod; omega),qdv h.len,qdv (by rw[zkh]; exact h.size),zwE h.inc λv hv=>⟨h.var v hv,by omega⟩,zvd h.num];rfl
def Fc.T(f:Fc):S_factor_table:=⟨f.D,iL (zaM f.cs)⟩
theorem zjr{f:Fc}(h:FcOk f):zbV f.D=some (f.T,0):=by
 grind [zDe,zA4,zhU,Go.Dc.Fc.D,Go.Dc.Fc.T]
end Go.Dc
namespace Go.Dc
open Go Go.Mx Go.Lx Go.Proofs
def za9(p0:(List Int))(p1:Int):Nat->Int->Option (Out Unit Int)
 | 0,_=>none
 | n+1,v8=>(
bif (decide (v8<(p0.length:Int)))then(
(zaE p0 v8).bind λx2=>
bif (p1 == x2)then(
some (.ret v8))
else(
za9 p0 p1 n (w64 (v8+1))))
else(
some (.go ())))
def zbB(p0:(List Int))(p1:Int):Option Int:=
((za9 p0 p1 ((p0.length:Int) - 0+2:Int).toNat 0:Option (Out Unit Int))).bind λo=>match o with
| .go _=>(
some (-1))
| .ret r=>some r
theorem zf5{p0:(List Int)}{p1:Int}{r:Int}(h:zbB p0 p1=some r):Lx.Fn mC 124 [(fzE false (eI .i64) p0),(dI p1)] (dI r):=by
 refine gnO ?_;unfold zbB at h;refine wSM ?_;obtain⟨o1,j1,h⟩:=bsM h;refine usM [] 0 (λa:Unit=>([],[],[])) λT1 hT1=>?_
 refine EvL.jn T1 (λa=>o1=.go a) ?_ ?_
 .refine wSM ?_;refine usM [0,1,7] 0 (λa:Int=>([(8,(dI a))],[],[])) λT2 hT2=>?_
  refine rdM hT2 (λn a=>za9 p0 p1 n a=some o1) 0 j1 ?_;rintro n v8 j1;simp only[za9]at j1;refine wTM hT2 ?_;refine cBM j1 (λ_ j1=>?_) λ_ j1=>?_
  .exact zk6 j1 hT1
  obtain⟨x2,g3,j1⟩:=bsM j1;refine sXM (ixM g3) ?_;refine cBM j1 (λ_ j1=>?_) λ_ j1=>?_
  .exact zcr hT2 (w64 (v8+1)) j1
  obtain rfl:=qae j1;exact rHM h
 rintro⟨⟩ rfl;dsimp only at h;refine wTM hT1 ?_;exact rHM h
def zat(p0:S_factor_table)(p1:Int):Option Int:=
(zbB p0.factor.vars p1).bind λr1=>
some r1
variable{p0:S_factor_table}
theorem zaR{p1:Int}{r:Int}(h:zat p0 p1=some r):Lx.Fn mC 107 [(.agg [(fzE false (eI .i64) p0.factor.vars),(fzE false (eI .i64) p0.factor.zah),(fzE false (eI .i64) p0.factor.w),(fzE false (eI .i64) p0.steps)]),(dI p1)] (dI r):=by
 refine gnO ?_;unfold zat at h;refine zad ?_;obtain⟨r1,g2,h⟩:=bsM h;refine sSM ?_;refine fCM (zf5 g2) ?_;exact rHM h
def zcs(p0:S_factor_table)(p1:S_factor_table):Nat->Int->Option (Out Unit Bool)
 | 0,_=>none
 | n+1,v12=>(
bif (decide (v12<(p0.factor.vars.length:Int)))then(
(zaE p0.factor.vars v12).bind λx2=>
(zat p1 x2).bind λr4=>
((bif (decide (0<=r4))then(
(zaE p1.factor.zah r4).bind λx7=>
(zaE p0.factor.zah v12).bind λx9=>
some (!(x7 == x9)))
else(
some false):Option Bool)).bind λv36=>
bif v36 then(
some (.ret false))
else(
zcs p0 p1 n (w64 (v12+1))))
else(
some (.go ())))
def zdA(p0:S_factor_table)(p1:S_factor_table):Option Bool:=
((zcs p0 p1 ((p0.factor.vars.length:Int) - 0+2:Int).toNat 0:Option (Out Unit Bool))).bind λo=>match o with
| .go _=>(
some true)
| .ret r=>some r
theorem zjZ{p1:S_factor_table}{r:Bool}(h:zdA p0 p1=some r):Lx.Fn mC 126 [(.agg [(fzE false (eI .i64) p0.factor.vars),(fzE false (eI .i64) p0.factor.zah),(fzE false (eI .i64) p0.factor.w),(fzE false (eI .i64) p0.steps)]),(.agg [(fzE false (eI .i64) p1.factor.vars),(fzE false (eI .i64) p1.factor.zah),(fzE false (eI .i64) p1.factor.w),(fzE false (eI .i64) p1.steps)])] (dB r):=by
 refine gnO ?_;unfold zdA at h;refine wSM ?_;obtain⟨o4,j4,h⟩:=bsM h;refine usM [] 0 (λa:Unit=>([],[],[])) λT4 hT4=>?_
 refine EvL.jn T4 (λa=>o4=.go a) ?_ ?_
 .refine wSM ?_;refine usM [2,3,10,11] 2 (λa:Int=>([(12,(dI a))],[],[])) λT7 hT7=>?_
  refine rdM hT7 (λn a=>zcs p0 p1 n a=some o4) 0 j4 ?_;rintro n v12 j4;simp only[zcs]at j4;refine wTM hT7 ?_;refine cBM j4 (λ_ j4=>?_) λ_ j4=>?_
  .exact zk6 j4 hT4
  obtain⟨x2,g3,r4,g5,j4⟩:=zfo j4;refine sXM (ixM g3) ?_;refine fCM (zaR g5) ?_;obtain⟨o8,j8,j4⟩:=bsM j4;obtain⟨T8,hT8⟩:=zcC hT7 λa:Bool=>uDM (T7 v12) [] [(36,(dB a))] [] []
  refine EvL.jn T8 (λa=>a=o8) ?_ ?_
  .refine wSM ?_;refine cBM j8 (λ_ j8=>?_) λ_ j8=>?_
   .exact zch j8 hT8
   obtain⟨x7,g8,x9,g10,j8⟩:=zfo j8;refine sXM (anM (ixM g8) (ixM g10)) ?_;exact zch j8 hT8
  rintro v36 rfl;refine wTM hT8 ?_;refine cBM j4 (λ_ j4=>?_) λ_ j4=>?_
  .exact zcr hT7 (w64 (v12+1)) j4
  obtain rfl:=qae j4;exact rHM h
 rintro⟨⟩ rfl;dsimp only at h;refine wTM hT4 ?_;exact rHM h
end Go.Dc
namespace Go.Dc
open Go Go.Mx Go.Lx
def zqw:List Int->Int->Option Nat
 | [],_=>none
 | x :: xs,v=>bif x == v then some 0 else(zqw xs v).map (· + 1)
def ixZ:Option Nat->Int
 | none=>-1
 | some k=>(k:Int)
theorem zpi:∀ {xs:List Int} {v:Int} {k:Nat},zqw xs v=some k->∃ h:k<xs.length,xs[k]=v
 | x :: xs,v,k,h=>by
  unfold zqw at h;cases hb:(x == v)with
  | true=>
   grind
  | false=>
   rw[hb,qdu]at h;cases hp:zqw xs v with
   | none=>rw[hp]at h; cases h
   | some j=>
    rw[hp]at h;cases h;obtain⟨g1,g2⟩:=zpi hp
    simp_all
theorem zou:∀ {xs:List Int} {v:Int},zqw xs v=none->v ∉ xs
 | [],v,_=>by simp
 | x :: xs,v,h=>by
  unfold zqw at h;cases hb:(x == v)with
  | true=>simp_all
  | false=>
   rw[hb,qdu]at h;have h1:zqw xs v=none:=by
    simp_all
   have h2:x≠v:=by simpa using hb
   intro hm;rcases qav.1 hm with rfl | hm
   .exact h2 rfl
   exact zou h1 hm
theorem zsS(xs:List Int)(v:Int)(hl:xs.length<4611686018427387904):∀(n i:Nat),i<=xs.length->xs.length - i<n->za9 xs v n (i:Int)=some (match zqw (xs.drop i) v with | none=>.go ()| some k=>.ret ((i+k:Nat):Int))
 | 0,_,_,h=>absurd h (qaj _)
 | n+1,i,hi,hn=>by
  unfold za9;rcases qaY i xs.length with h3 | h3
  .rw[zzH h3,qdt,zaA h3,qaa,qas h3];generalize xs[i]=x;unfold zqw;by_cases h:v=x
   .subst h;rw[qdz,qdt,qdt];rfl
   rw[show(v == x)=false from qdA h,show(x == v)=false from qdA (λe=>h e.symm),qdu,qdu,zaf (by omega),zsS xs v hl n (i+1) h3 (by omega)];cases zqw (xs.drop (i+1)) v with
   | none=>rfl
   | some k=>
    simp only[qba];rw[show i+1+k=i+(k+1) by omega]
  grind [zqw]
theorem zB9{xs:List Int}(hl:xs.length<4611686018427387904)(v:Int):zbB xs v=some (ixZ (zqw xs v)):=by
 unfold zbB;have h:=zsS xs v hl (xs.length+2) 0 (qar _) (by omega)
 grind [ixZ]
theorem FcOk.vl{f:Fc}(h:FcOk f):(iL f.vs).length<4611686018427387904:=by rw[zai,h.len]; have:=h.le; omega
theorem zi5{f:Fc}(h:FcOk f)(v:Int):zat f.T v=some (ixZ (zqw (iL f.vs) v)):=by
 unfold zat;rw[show f.T.factor.vars=iL f.vs from rfl,zB9 h.vl,qaa]
theorem zw3(o:Option Nat):decide ((0:Int)<=ixZ o)=o.isSome:=by
 cases o with
 | none=>rfl
 | some k=>exact qdv (qbN k)
def pos:List Nat->Nat->Option Nat
 | [],_=>none
 | x :: xs,v=>bif x == v then some 0 else(pos xs v).map (· + 1)
theorem zd8:∀(xs:List Nat) (v:Nat),zqw (iL xs) (v:Int)=pos xs v
 | [],v=>rfl
 | x :: xs,v=>by
  show(bif ((x:Int)==(v:Int))then some 0 else(zqw (iL xs) (v:Int)).map (· + 1))=pos (x :: xs) v;rw[zd8 xs v]
  grind [pos]
theorem zdE{xs:List Nat}{v k:Nat}(h:pos xs v=some k):∃ hk:k<xs.length,xs[k]=v:=by
 rw[<- zd8]at h;obtain⟨h1,h2⟩:=zpi h
 grind [zai,zuL]
variable{xs:List Nat}
theorem zjz{v:Nat}(h:pos xs v=none):v ∉ xs:=by
 rw[<- zd8]at h;have:=zou h
 grind [Go.Dc.iL]
theorem zkp{v:Nat}(h:v∈xs):∃ k,pos xs v=some k:=by
 cases hp:pos xs v<;>grind [zjz]
def zgs(f g:Fc):Nat->List Nat->Bool
 | _,[]=>true
 | i,v :: vs=>(match pos g.vs v with | none=>true | some k=>g.cs.getD k 0 == f.cs.getD i 0) && zgs f g (i+1) vs
theorem zfx{i:Nat}(h:i<xs.length):zaE (iL xs) (i:Int)=some ((xs.getD i 0:Nat):Int):=by
 rw[zaW h]; simp[List.getD,h]
theorem zxC(a b:Nat):((a:Int)==(b:Int))=(a == b):=by
 grind
theorem zuz{f g:Fc}(hf:FcOk f)(hg:FcOk g):∀(n i:Nat),i<=f.vs.length->f.vs.length - i<n->zcs f.T g.T n (i:Int)=some (bif zgs f g i (f.vs.drop i)then .go ()else .ret false)
 | 0,_,_,h=>absurd h (qaj _)
 | n+1,i,hi,hn=>by
  have hle:=hf.le;have hlen:=hf.len;unfold zcs;rw[show f.T.factor.vars=iL f.vs from rfl,show f.T.factor.zah=iL f.cs from rfl,show g.T.factor.zah=iL g.cs from rfl,zai];rcases qaY i f.vs.length with h3 | h3
  .rw[zzH h3,qdt,zaW h3,qaa,zi5 hg,zd8,qaa,zw3,qas h3];simp only[zgs];have ih:=zuz hf hg n (i+1) h3 (by omega);cases hp:pos g.vs f.vs[i]with
   | none=>
    rw[Option.isSome_none,qdu,qaa,qdu,zaf (by omega),ih,qbU]
   | some k=>
    obtain⟨hk,_⟩:=zdE hp;rw[qc5,qdt,show ixZ (some k)=(k:Int)from rfl,zfx (by rw[<- hg.len]; exact hk),qaa,zfx (by omega),qaa,qaa,zxC];cases hb:(g.cs.getD k 0 == f.cs.getD i 0)with
    | true=>simp only[hb]; rw[qbl,qdu,zaf (by omega),ih,qbU]
    | false=>simp only[hb]; rw[qcd,qdt,Bool.false_and]; rfl
  obtain rfl:i=f.vs.length:=by omega
  rw[zFy,qdu,qbx];rfl
theorem zBK{f g:Fc}(hf:FcOk f)(hg:FcOk g):zdA f.T g.T=some (zgs f g 0 f.vs):=by
 unfold zdA;have h:=zuz hf hg (f.vs.length+2) 0 (qar _) (by omega);rw[show((0:Nat):Int)=0 from rfl,qa4]at h;rw[show f.T.factor.vars=iL f.vs from rfl,zai,zap,h,qaa]
 grind
def dig:List Nat->Nat->List Nat
 | [],_=>[]
 | _ :: cs,i=>i / zac cs :: dig cs (i % zac cs)
theorem zf0:∀(cs:List Nat) (i:Nat),(dig cs i).length=cs.length
 | [],_=>rfl
 | _ :: cs,i=>by simp[dig,zf0 cs]
def zc3:List Nat->List Nat->Prop
 | [],[]=>True
 | c :: cs,x :: xs=>x<c/\c<=8/\zc3 cs xs
 | _,_=>False
theorem zc3.len:∀ {cs xs:List Nat},zc3 cs xs->xs.length=cs.length
 | [],[],_=>rfl
 | c :: cs,x :: xs,h=>by simp[h.2.2.len]
theorem zc3.snoc:∀ {cs xs:List Nat} {c x:Nat},zc3 (cs ++ [c]) (xs ++ [x])->xs.length=cs.length->zc3 cs xs/\x<c/\c<=8
 | [],[],c,x,h,_=>⟨qds,h.1,h.2.1⟩
 | c :: cs,x :: xs,_,_,h,hl=>by
  obtain⟨h1,h2,h3⟩:=h;obtain⟨g1,g2⟩:=h3.snoc (by simpa using hl);exact⟨⟨h1,h2,g1⟩,g2⟩
theorem zcu{cs:List Nat}(h:∀ c∈cs,1<=c/\c<=8):0<zac cs:=zey λc hc=>(h c hc).1
theorem zfQ:∀ {cs:List Nat} {i:Nat},(∀ c∈cs,1<=c/\c<=8)->i<zac cs->zc3 cs (dig cs i)
 | [],_,_,_=>trivial
 | c :: cs,i,h,hi=>by
  have hc:=h c qai;have hp:=zcu λd hd=>h d (qag c hd)
  refine⟨?_,hc.2,zfQ (λd hd=>h d (qag c hd)) (qbk _ hp)⟩;have h1:i<c * zac cs:=hi;exact qbL (by rw[qaV]; exact h1)
def nxt:List Nat->List Nat->Option (List Nat)
 | c :: cs,v :: vs=>match nxt cs vs with
  | some vs'=>some (v :: vs')
  | none=>if v+1<c then some ((v+1):: List.replicate vs.length 0)else none
 | _,_=>none
theorem zkU:∀ {cs vs:List Nat} {c v:Nat},vs.length=cs.length->v+1<c->nxt (cs ++ [c]) (vs ++ [v])=some (vs ++ [v+1])
 | [],[],c,v,_,h=>by simp[nxt,h]
 | d :: cs,u :: vs,c,v,hl,h=>by
  simp only[qa8,nxt,zkU (show vs.length=cs.length by simpa using hl) h]
theorem zi6:∀ {cs vs:List Nat} {c v:Nat},vs.length=cs.length->¬ v+1<c->nxt (cs ++ [c]) (vs ++ [v])=(nxt cs vs).map (· ++ [0])
 | [],[],c,v,_,h=>by simp[nxt,h]
 | d :: cs,u :: vs,c,v,hl,h=>by
  simp only[qa8,nxt,zi6 (show vs.length=cs.length by simpa using hl) h];cases hn:nxt cs vs with
  | some vs'=>rfl
  | none=>
   simp only[qdm];by_cases hu:u+1<d
   .rw[if_pos hu,if_pos hu];simp[List.replicate_succ']
   rw[if_neg hu,if_neg hu]; rfl
theorem zl5:∀(cs:List Nat),dig cs 0=List.replicate cs.length 0
 | []=>rfl
 | c :: cs=>by simp[dig,zl5 cs,qaS]
theorem zwu:∀ {cs:List Nat} {i:Nat},(∀ c∈cs,1<=c/\c<=8)->i<zac cs->nxt cs (dig cs i)=if i+1<zac cs then some (dig cs (i+1))else none
 | [],i,_,hi=>by
  have:i=0:=by simpa [zac]using hi
  subst this;simp[nxt,zac]
 | c :: cs,i,h,hi=>by
  have hp:=zcu λd hd=>h d (qag c hd)
  have hm:=qbk i hp;have ih:=zwu (λd hd=>h d (qag c hd)) hm;have hi':i<c * zac cs:=hi;simp only[dig,nxt,ih];have hdm:=qb5 i (zac cs);generalize hq:i / zac cs=q at *;generalize hr:i % zac cs=r at *;have hprod:zac (c :: cs)=c * zac cs:=rfl;by_cases h1:r+1<zac cs
  .rw[if_pos h1];have e1:(i+1) / zac cs=q:=by
    rw[<- hdm,qbQ,Nat.mul_add_div hp,qbX h1,qbM]
   have e2:(i+1) % zac cs=r+1:=by
    rw[<- hdm,qbQ,Nat.mul_add_mod,qa7 h1]
   have hqc:q<c:=by rw[<- hq]; exact qbL (by rw[qaV]; exact hi')
   have h2:i+1<zac (c :: cs):=by
    rw[hprod];have:(q+1)* zac cs<=c * zac cs:=qau _ hqc;rw[qaQ,qa6,qaV q]at this;omega
   rw[if_pos h2,e1,e2]
  rw[if_neg h1];have hr1:r+1=zac cs:=by omega
  have hi1:i+1=zac cs * (q+1):=by rw[qdb,qca]; omega
  simp only;have h4:(q+1<c)↔(i+1<zac (c :: cs)):=by
   rw[hprod,hi1,qaV c];exact(Nat.mul_lt_mul_left hp).symm
  by_cases h5:q+1<c
  .rw[if_pos h5,if_pos (h4.1 h5),hi1,Nat.mul_div_cancel_left _ hp,Nat.mul_mod_right,zl5,zf0]
  rw[if_neg h5,if_neg (λh=>h5 (h4.2 h))]
variable{ys:List Nat}{k:Nat}
theorem zdp{x:Nat}(h:xs.length=k):zaE (iL (xs ++ x :: ys)) (k:Int)=some (x:Int):=by
 subst h;rw[zaW (by simp)];simp
theorem zeW{x y:Nat}(h:xs.length=k):zfl (iL (xs ++ x :: ys)) (k:Int) (y:Int)=some (iL (xs ++ y :: ys)):=by
 subst h;rw[zeV (by rw[zai]; simp)];simp[iL]
theorem zqc(h:xs.length=k+1):∃ ys y,xs=ys ++ [y]/\ys.length=k:=by
 have hne:xs≠[]:=by rintro rfl; simp at h
 exact⟨xs.dropLast,xs.getLast hne,(List.dropLast_concat_getLast hne).symm,by simp[h]⟩
theorem zxz(cs:List Nat):∀ a:Nat,(iL cs).foldl (· * ·) (a:Int)=((a * zac cs:Nat):Int):=by
 induction cs with
 | nil=>intro a; simp[iL,zac]
 | cons c cs ih=>
  intro a;show(iL cs).foldl (· * ·) ((a:Int)* (c:Int))=_;rw[<- qaL,ih,qaZ];rfl
end Go.Dc
namespace Go.Dc
open Go Go.Mx Go.Lx Go.Proofs
variable{L:List LB}
theorem zxc{α:Type}{β:Nat}(e:En α)(x:α)(h:L[β]? = some (.cells (e.c false x))):Snp L false (.ptr β 0) (.fptr false (e.c false x)):=
 .ptr h (by omega) λk d d' h3 h4=>by
  rw[qaR]at h3;exact(e.snp (L:=L) (t:=false) (t':=false) x id).get k d d' h3 h4
def zca(zah steps:List Int):Option (List Int×List Int):=some (zah,steps)
variable{steps:List Int}
theorem zdq{zah:List Int}{r:List Int×List Int}(h:zca zah steps=some r):
  Lx.FnA mC 110 [fzE false (eI .i64) zah,fzE false (eI .i64) steps] (.clo 125 [] [.fptr false ((eL (eI .i64)).c false r.1),.fptr false ((eL (eI .i64)).c false r.2)]):=by
 cases h;refine zz4 ?_;refine wSM ?_;exact zuD.ret rfl (.clo rfl rfl (Snps.get .nil) (Snps.get (.cons (zxc (eL (eI .i64)) zah rfl) (.cons (zxc (eL (eI .i64)) steps rfl) .nil))))
def zlQ(zah steps:List Int):Nat->List Int->Int->Option (List Int×Int×Int)
 | 0,vals,a=>some (vals,a,-1)
 | k+1,vals,a=>(zaE vals (k:Int)).bind λv=>(zaE zah (k:Int)).bind λc=>bif v == w64 (c - 1)then(zaE steps (k:Int)).bind λst=>(zfl vals (k:Int) 0).bind λvals'=>zlQ zah steps k vals' (w64 (a - w64 (v * st)))else some (vals,a,(k:Int))
def zC3(zah steps:List Int):Nat->List Int->Int->Int->Option (List (Int×Int×List Int))
 | 0,_,_,_=>none
 | n+1,vals,i,a=>(zlQ zah steps zah.length vals a).bind λr=>bif decide (r.2.2<0)then some [(i,a,vals)]else
   (zaE r.1 r.2.2).bind λv=>(zfl r.1 r.2.2 (w64 (v+1))).bind λvals'=>(zaE steps r.2.2).bind λst=>(zC3 zah steps n vals' (w64 (i+1)) (w64 (r.2.1+st))).map λl=>(i,a,vals):: l
def zAm(zah steps:List Int):Option (List (Int×Int×List Int)):=(zeT zah).bind λ_=>(zeR 8 (zah.length:Int) 0).bind λz=>zC3 zah steps ((zah.foldl (· * ·) 1).toNat) z 0 0
theorem zoo{α β:Type}{o:Option α}{f:α->β}{b:β}(h:o.map f=some b):∃ a,o=some a/\b=f a:=by
 cases o with
 | none=>cases h
 | some a=>cases h; exact⟨a,rfl,rfl⟩
theorem zCA{n:Nat}(h:L.length=n)(x:LB):(L ++ [x])[n]? = some x:=by subst h; simp
theorem zCn{n:Nat}(h:L.length=n)(x y:LB):(L ++ [x]).set n y=L ++ [y]:=by subst h; simp
def zz7:C:=
 (.seq (.seq (.scope (.reg true false [oM 19 7,
 oD 20 .geq 19 0,
 oM 21 20,
 oMg 22 4 21 true,
 oMg 23 7 21 true,
 ⟨some 24,.idxS 1 (.s 22) (.s 23),some (21,true)⟩,
 oLg 25 24 21 true,
 oLg 26 1 21 true,
 oMg 27 7 21 true,
 ⟨some 28,.idxS 1 (.s 26) (.s 27),some (21,true)⟩,
 oLg 29 28 21 true,
 oDg 30 .sub 29 1 21 true,
 ⟨some 31,.bin .eql (.s 25) (.s 30),some (21,true)⟩,
 ⟨some 32,.pick (.s 21) (.s 31) (.c (.bool false)),none⟩]))
 (.cond (.s 32) (.skip)
 (.exit 2)))
 (.block 3 (.seq (.reg true false [oM 33 6,
 oM 34 4,
 oM 35 7,
 oI 36 1 34 35,
 oL 37 36,
 oL 38 2,
 oM 39 7,
 oI 40 1 38 39,
 oL 41 40,
 oB 42 .mul 37 41,
 oB 43 .sub 33 42,
 oM 6 43])
 (.seq (rg [oM 44 4,
 oM 45 7,
 oI 46 1 44 45,
 ⟨none,.store 1 (.s 46) (.c (.int .i64 0)),none⟩])
 (rg [oM 47 7,
 oD 48 .sub 47 1,
 oM 7 48])))))
def zq9:C:=.block 1 (.seq (.seq (.reg false false [⟨some 11,.mov (.s 0),none⟩,
 ⟨some 12,.mov (.s 5),none⟩,
 ⟨some 13,.mov (.s 6),none⟩,
 ⟨some 14,.zej (.s 11) [(.s 12),(.s 13)],none⟩,
 ⟨some 15,.un .not (.s 14),none⟩])
 (.cond (.s 15) (.ret)
 (.skip)))
 (.seq (.reg false false [⟨some 16,.load none (.s 1),none⟩,
 ⟨some 17,.len (.s 16),none⟩,
 ⟨some 18,.bin .sub (.s 17) (.c (.int .i64 1)),none⟩,
 ⟨some 7,.mov (.s 18),none⟩])
 (.seq (.scope (.block 2 (.loop zz7)))
 (.seq (.seq (.reg false false [⟨some 49,.mov (.s 7),none⟩,
 ⟨some 50,.bin .lss (.s 49) (.c (.int .i64 0)),none⟩])
 (.cond (.s 50) (.ret)
 (.skip)))
 (.seq (.reg false false [⟨some 51,.mov (.s 4),none⟩,
 ⟨some 52,.mov (.s 7),none⟩,
 ⟨some 53,.idxS 1 (.s 51) (.s 52),none⟩,
 ⟨some 54,.load none (.s 53),none⟩,
 ⟨some 55,.bin .add (.s 54) (.c (.int .i64 1)),none⟩,
 ⟨some 56,.idxS 1 (.s 51) (.s 52),none⟩,
 ⟨none,.store 1 (.s 56) (.s 55),none⟩])
 (.seq (.reg false false [⟨some 57,.mov (.s 6),none⟩,
 ⟨some 58,.load none (.s 2),none⟩,
 ⟨some 59,.mov (.s 7),none⟩,
 ⟨some 60,.idxS 1 (.s 58) (.s 59),none⟩,
 ⟨some 61,.load none (.s 60),none⟩,
 ⟨some 62,.bin .add (.s 57) (.s 61),none⟩,
 ⟨some 6,.mov (.s 62),none⟩])
 (.reg false false [⟨some 63,.mov (.s 5),none⟩,
 ⟨some 64,.bin .add (.s 63) (.c (.int .i64 1)),none⟩,
 ⟨some 5,.mov (.s 64),none⟩])))))))
def zDD:C:=.seq (.reg false false [⟨some 8,.load none (.s 1),none⟩,
 ⟨some 9,.len (.s 8),none⟩,
 ⟨some 10,.mk 1 8 [(.int .i64 0)] (.s 9) (.s 9),none⟩,
 ⟨some 4,.mov (.s 10),none⟩,
 ⟨some 5,.mov (.c (.int .i64 0)),none⟩,
 ⟨some 6,.mov (.c (.int .i64 0)),none⟩])
 (.scope (.block 0 (.loop zq9)))
theorem zCx:zt5 mC 125=some (65,zDD,[],false):=zhR (by kernel_rfl)
theorem zcZ{zah:List Int}{u:List (Int×Int×List Int)}(hu:zAm zah steps=some u):
  Gen mC 125 [] [.fptr false ((eL (eI .i64)).c false zah),.fptr false ((eL (eI .i64)).c false steps)] u (λy n0 args G=>args=[dI y.1,dI y.2.1]/\G=[.els 1 (y.2.2.map ((eI .i64).c true))]):=by
 intro n0 β P Ps hβ hlen hround L hP;refine zdK.ofM zCx (zfJ rfl) (qad rfl) ?_;obtain⟨_,hsm,hu⟩:=bsM hu;obtain⟨z,hz,hv⟩:=bsM hu;have hL:=hlen _ _ hP;have hm:IntKind.i64.wrap ((zah.length:Int) - 1)=(zah.length:Int) - 1:=by
  have:=zih hsm;exact wrap64 (by omega) (by omega)
 unfold zDD;refine zad ?_;refine sXM (anM ((zaD hz).1.1) (anM ((zaD hz).1.2) (anM @qbS (anM @qay (show List.replicate zah.length [(dI 0)]=z.map ((eI .i64).c true)from(zgJ hz ((eI .i64).c true))))))) ?_;refine EvL.scope (zad ?_);refine sSM ?_;rw[hL];refine EvL.loop (α:=Nat×Nat×List Int×Int×Int×List LB) (λa=>⟨65,[(0,.yld β),(1,.fptr false ((eL (eI .i64)).c false zah)),(2,.fptr false ((eL (eI .i64)).c false steps)),(4,.sl n0 0 1 zah.length (some zah.length) zah.length),(5,dI a.2.2.2.1),(6,dI a.2.2.2.2.1)],a.2.2.2.2.2 ++ [.els 1 (a.2.2.1.map ((eI .i64).c true))]⟩)
  (λa=>P a.2.1 a.2.2.2.2.2/\zC3 zah steps a.1 a.2.2.1 a.2.2.2.1 a.2.2.2.2.1=some (u.drop a.2.1)/\a.2.2.1.length=zah.length) (λa=>a.1) ((zah.foldl (· * ·) 1).toNat,0,z,0,0,L) (by refine za8.sub ?_; exact⟨rfl,rfl,rfl,rfl,rfl,rfl,qds⟩) ⟨hP,hv,by rw[zbC hz,qay]⟩ ?_
 rintro⟨n,j,vals,i,at_,L'⟩ ⟨hPi,hvk,hvl⟩;simp only at hPi hvk hvl;cases n with
 | zero=>cases hvk
 | succ n=>
 unfold zC3 at hvk;obtain⟨⟨vals1,at1,kk⟩,hc,hvk⟩:=bsM hvk;simp only at hvk;have hul:∃ r,u.drop j=(i,at_,vals):: r:=by
  cases hk:decide (kk<0)with
  | true=>rw[hk,qdt]at hvk; exact⟨[],(qae hvk).symm⟩
  | false=>
   rw[hk,qdu]at hvk;obtain⟨v,_,vals2,_,st,_,hvk⟩:=zhx hvk;obtain⟨l,_,hl⟩:=zoo hvk;exact⟨l,hl⟩
 obtain⟨r,hul⟩:=hul;have hj:j<u.length:=by
  refine Nat.lt_of_not_le λhn=>?_
  rw[qaW hn]at hul;cases hul
 have huj:u[j]? = some (i,at_,vals):=by
  rw[qas hj]at hul;rw[qac hj,(qcH hul).1]
 have hur:u.drop (j+1)=r:=by
  rw[qas hj]at hul;exact(qcH hul).2
 unfold zq9;refine wSM ?_;refine EvL.yield rfl rfl rfl (hround j (i,at_,vals) L' _ [.els 1 (vals.map ((eI .i64).c true))] huj hPi ⟨rfl,rfl⟩) ?_;rintro b L2 ⟨L1,rfl,hl1,hb⟩;cases b with
 | false=>
  refine sSM ?_;exact⟨[],rfl,L1,_,rfl,hl1,.inr hb⟩
 | true=>
 have hga:=zCA hl1;have hsa:=zCn hl1;refine sXM hm ?_;refine EvL.jn (λa:List Int×Int×Int=>⟨65,[(0,.yld β),(1,.fptr false ((eL (eI .i64)).c false zah)),(2,.fptr false ((eL (eI .i64)).c false steps)),(4,.sl n0 0 1 zah.length (some zah.length) zah.length),(5,dI i),(6,dI a.2.1),(7,dI a.2.2)],L1 ++ [.els 1 (a.1.map ((eI .i64).c true))]⟩) (λa=>a=(vals1,at1,kk)/\a.1.length=zah.length) ?_ ?_
 .refine wSM ?_;refine EvL.loop (α:=Nat×List Int×Int) (λa=>⟨65,[(0,.yld β),(1,.fptr false ((eL (eI .i64)).c false zah)),(2,.fptr false ((eL (eI .i64)).c false steps)),(4,.sl n0 0 1 zah.length (some zah.length) zah.length),(5,dI i),(6,dI a.2.2),(7,dI ((a.1:Int) - 1))],L1 ++ [.els 1 (a.2.1.map ((eI .i64).c true))]⟩)
   (λa=>zlQ zah steps a.1 a.2.1 a.2.2=some (vals1,at1,kk)/\a.2.1.length=zah.length/\a.1<=zah.length) (λa=>a.1) (zah.length,vals,at_) (by refine za8.sub ?_; exact⟨rfl,rfl,rfl,rfl,rfl,rfl,rfl,qds⟩) ⟨hc,hvl,qap _⟩ ?_
  rintro⟨f,vs,a⟩ ⟨hf,hvs,hfl⟩;simp only at hf hvs hfl;simp only[zz7,zCW];refine wSM ?_;cases f with
  | zero=>
   cases hf;refine EvL.scope (zad ?_);have hk:((0:Nat):Int) - 1 = -1:=rfl;refine sXM hk ?_;exact⟨_,⟨rfl,hvs⟩,za8.sub ⟨rfl,rfl,rfl,rfl,rfl,rfl,rfl,qds⟩⟩
  | succ f=>
   have hk:((f+1:Nat):Int) - 1=(f:Int):=by omega
   have hk0:(0:Int)<=(f:Int):=by omega
   unfold zlQ at hf;obtain⟨v,q1,c,q2,hf⟩:=zfo hf;refine EvL.scope (zad ?_);cases hb:(v == w64 (c - 1))with
   | false=>
    rw[hb,qdu]at hf;cases hf;refine sXM (anM hk (anM hk0 (anM hga (anM hvs (anM (show(f:Int)<((zah.length:Nat):Int)from hvs ▸ zd6 q1) (anM (zcD q1 ((eI .i64).c true)) (anM (zaq (n:=1) (e:=eI .i64) rfl q2) hb))))))) ?_;exact⟨_,⟨rfl,hvs⟩,za8.sub ⟨rfl,rfl,rfl,rfl,rfl,rfl,rfl,qds⟩⟩
   | true=>
    rw[hb,qdt]at hf;obtain⟨st,q3,vs',q4,hf⟩:=zfo hf;have hw:IntKind.i64.wrap ((f:Int) - 1)=(f:Int) - 1:=by
     have:=zih hsm;exact wrap64 (by omega) (by omega)
    refine sXM (anM hk (anM hk0 (anM hga (anM hsa (anM hvs (anM (show(f:Int)<((zah.length:Nat):Int)from hvs ▸ zd6 q1) (anM (zcD q1 ((eI .i64).c true)) (anM (zaq (n:=1) (e:=eI .i64) rfl q2) (anM (zaq (n:=1) (e:=eI .i64) rfl q3) (anM hb (anM (show(vs.map ((eI .i64).c true)).set (f:Int).toNat [dI 0]=vs'.map ((eI .i64).c true)from zeq q4 ((eI .i64).c true)) hw))))))))))) ?_;exact⟨(f,vs',w64 (a - w64 (v * st))),⟨hf,by rw[zaX q4]; exact hvs,by omega⟩,qbt f,za8.sub ⟨rfl,rfl,rfl,rfl,rfl,rfl,rfl,qds⟩⟩
 rintro a ⟨rfl,hvs⟩;simp only at hvs;refine zad ?_;cases hk:decide (kk<0)with
 | true=>
  rw[hk,qdt]at hvk;refine sXM hk ?_;have h1:u.length=j+1:=by
   have h2:=qae hvk;have h3:u.drop (j+1)=[]:=by
    rw[hur];rw[<- h2]at hul;exact(qcH hul).2.symm
   have h4:=List.drop_eq_nil_iff.1 h3;omega
  exact⟨[],rfl,L1,_,rfl,hl1,.inl (by rw[h1]; exact hb)⟩
 | false=>
  rw[hk,qdu]at hvk;obtain⟨v,q1,vals2,q2,st,q3,hvk⟩:=zhx hvk;obtain⟨l,q4,hl⟩:=zoo hvk;refine sXM (anM hk (anM hga (anM hsa (anM hvs (anM (zaZ q1) (anM (show kk<((zah.length:Nat):Int)from hvs ▸ zd6 q1) (anM (zcD q1 ((eI .i64).c true)) (anM (show(vals1.map ((eI .i64).c true)).set kk.toNat [dI (w64 (v+1))]=vals2.map ((eI .i64).c true)from zeq q2 ((eI .i64).c true)) (zaq (n:=1) (e:=eI .i64) rfl q3))))))))) ?_;refine⟨(n,j+1,vals2,w64 (i+1),w64 (at1+st),L1),⟨hb,?_,by rw[zaX q2]; exact hvs⟩,qbt n,za8.sub ⟨rfl,rfl,rfl,rfl,rfl,rfl,qds⟩⟩;simp only;rw[q4,hur];rw[hul]at hl;rw[(qcH hl).2]
end Go.Dc
namespace Go.Dc
open Go Go.Mx Go.Lx
def dot:List Nat->List Nat->Nat
 | x :: xs,s :: ss=>x * s+dot xs ss
 | _,_=>0
theorem zmi:∀ {xs ss:List Nat} (ys ts:List Nat),xs.length=ss.length->dot (xs ++ ys) (ss ++ ts)=dot xs ss+dot ys ts
 | [],[],ys,ts,_=>by simp[dot]
 | x :: xs,s :: ss,ys,ts,h=>by
  simp only[qa8,dot];rw[zmi ys ts (by simpa using h)]; omega
 | [],_ :: _,_,_,h=>by simp at h
 | _ :: _,[],_,_,h=>by simp at h
theorem zqK(x s:Nat):dot [x] [s]=x * s:=by simp[dot]
theorem zAu:∀ {cs xs ss:List Nat},zc3 cs xs->(∀ s∈ss,s<=4096)->dot xs ss<=cs.length * 32768
 | [],[],_,_,_=>by simp[dot]
 | c :: cs,x :: xs,[],_,_=>by simp[dot]
 | c :: cs,x :: xs,s :: ss,h,hs=>by
  have h1:=zAu h.2.2 λt ht=>hs t (qag _ ht)
  have h2:=hs s qai;have h3:x * s<=8 * 4096:=qa2 (by have:=h.1; have:=h.2.1; omega) h2
  grind [dot]
theorem zrs:∀(k:Nat) (xs cx sx cy sy zs:List Nat) (e:Nat),xs.length=k->cx.length=k->sx.length=k->zc3 cx xs->(∀ s∈sx,s<=4096)->k<=12->e<=1000000 ->
  ∃ r,zlQ (iL (cx ++ cy)) (iL (sx ++ sy)) k (iL (xs ++ zs)) ((dot xs sx+e:Nat):Int)=some r/\match nxt cx xs with
   | none=>r.2.2 = -1
   | some xs'=>∃(j:Nat) (v st:Int),r.2.2=(j:Int)/\zaE r.1 (j:Int)=some v/\zfl r.1 (j:Int) (w64 (v+1))=some (iL (xs' ++ zs))/\zaE (iL (sx ++ sy)) (j:Int)=some st/\w64 (r.2.1+st)=((dot xs' sx+e:Nat):Int)
 | 0,xs,cx,sx,cy,sy,zs,e,hx,hc,hs,_,_,_,_=>by
  obtain rfl:xs=[]:=qaG.1 hx;obtain rfl:cx=[]:=qaG.1 hc;exact⟨_,rfl,rfl⟩
 | k+1,xs,cx,sx,cy,sy,zs,e,hx,hc,hs,hb,hsm,hk,he=>by
  obtain⟨xs,x,rfl,lx⟩:=zqc hx;obtain⟨cx,c,rfl,lc⟩:=zqc hc;obtain⟨sx,s,rfl,ls⟩:=zqc hs;obtain⟨hb1,hb2,hb3⟩:=hb.snoc (lx.trans lc.symm);have hd:=zAu hb1 λt ht=>hsm t (qcB _ ht)
  have hss:s<=4096:=hsm s (by simp);have hxs:x * s<=8 * 4096:=qa2 (by omega) hss;have hlen:cx.length * 32768<=12 * 32768:=qau _ (by omega);simp only[qaF,qaN];unfold zlQ;rw[zdp lx,qaa,zdp lc,qaa,zed (by omega) (by omega)];rw[zmi [x] [s] (lx.trans ls.symm),zqK];by_cases h1:x+1<c
  .rw[show((x:Int)==(c:Int) - 1)=false from qdA (by omega),qdu,zkU (lx.trans lc.symm) h1];refine⟨_,rfl,k,(x:Int),(s:Int),rfl,zdp lx,?_,zdp ls,?_⟩
   .rw[zaf (by omega),zeW lx]; simp
   rw[zmi [x+1] [s] (lx.trans ls.symm),zqK,<- qby,zar (by omega),qaQ];congr 1; omega
  rw[show((x:Int)==(c:Int) - 1)=true by rw[show(x:Int)=(c:Int) - 1 by omega]; exact qdz _,qdt,zdp ls,qaa,show(0:Int)=((0:Nat):Int)from rfl,zeW lx,qaa,<- qaL,
   zar (by omega),show(((dot xs sx+x * s+e:Nat):Int) - ((x * s:Nat):Int))=((dot xs sx+e:Nat):Int) by omega,zar (by omega),zi6 (lx.trans lc.symm) h1]
  obtain⟨r,h2,h3⟩:=zrs k xs cx sx (c :: cy) (s :: sy) (0 :: zs) e lx lc ls hb1 (λt ht=>hsm t (qcB _ ht)) (by omega) he;refine⟨r,h2,?_⟩;cases hn:nxt cx xs with
  | none=>rw[hn]at h3; exact h3
  | some xs'=>
   rw[hn]at h3;obtain⟨j,v,st,g1,g2,g3,g4,g5⟩:=h3;have hl':xs'.length=sx.length:=by
    have:∀ {cs vs ws:List Nat},nxt cs vs=some ws->vs.length=cs.length->ws.length=vs.length:=by
     intro cs;induction cs with
     | nil=>intro vs ws h _; simp[nxt]at h
     | cons d cs ih=>
      intro vs ws h hl;cases vs<;>grind [nxt]
    grind
   refine⟨j,v,st,g1,g2,by rw[g3]; simp,g4,?_⟩;rw[g5,zmi [0] [s] hl',zqK,qc3,qbM]
def zhy(cs ss:List Nat)(i m:Nat):List (Int×Int×List Int):=(List.range' i m).map λj:Nat=>((j:Int),((dot (dig cs j) ss:Nat):Int),iL (dig cs j))
theorem zDF{cs ss:List Nat}(hc:∀ c∈cs,1<=c/\c<=8)(hl:cs.length<=12)(hp:zac cs<=4096)(hs:ss.length=cs.length)(hsm:∀ s∈ss,s<=4096):∀(m i n:Nat),i+(m+1)=zac cs->m<n ->
  zC3 (iL cs) (iL ss) n (iL (dig cs i)) (i:Int) ((dot (dig cs i) ss:Nat):Int)=some (zhy cs ss i (m+1))
 | m,i,0,_,h=>absurd h (qaj _)
 | m,i,n+1,hi,hn=>by
  have hb:=zfQ hc (show i<zac cs by omega);obtain⟨r,h1,h2⟩:=zrs cs.length (dig cs i) cs ss [] [] [] 0 (zf0 _ _) rfl hs hb hsm hl (by omega);simp only[qaH,qbM]at h1 h2;unfold zC3;rw[zai,h1,qaa];rw[zwu hc (show i<zac cs by omega)]at h2;cases m with
  | zero=>
   grind [zhy]
  | succ m=>
   rw[if_pos (by omega)]at h2;simp only at h2;obtain⟨j,v,st,g1,g2,g3,g4,g5⟩:=h2;rw[g1,show decide ((j:Int)<0)=false from qdw (by omega),qdu,g2,qaa,g3,qaa,g4,qaa,g5,zaf (by omega),zDF hc hl hp hs hsm m (i+1) n (by omega) (by omega)];rfl
theorem zuC{cs ss:List Nat}(hc:∀ c∈cs,1<=c/\c<=8)(hl:cs.length<=12)(hp:zac cs<=4096)(hs:ss.length=cs.length)(hsm:∀ s∈ss,s<=4096):zAm (iL cs) (iL ss)=some (zhy cs ss 0 (zac cs)):=by
 have hpos:=zcu hc;unfold zAm zeT;rw[if_pos (by rw[zai]; omega),qaa,zai,zdH (by omega),qaa];have h:=zxz cs 1;rw[show((1:Nat):Int)=1 from rfl]at h;rw[h,qa6,qay];obtain⟨m,hm⟩:∃ m,zac cs=m+1:=⟨zac cs - 1,by omega⟩;have e:=zDF hc hl hp hs hsm m 0 (m+1) (by omega) (by omega);have hz:∀(n:Nat) (ss:List Nat),dot (List.replicate n 0) ss=0:=by
  intro n;induction n with
  | zero=>intro ss; simp[dot]
  | succ n ih=>
   intro ss;cases ss<;>grind [dot]
 grind [zl5,zgQ]
theorem zHx(k:Nat):decide ((0:Int)<=(k:Int))=true:=qdv (qbN k)
theorem pred_succ(k:Nat):((k+1:Nat):Int) - 1=(k:Int):=by omega
end Go.Dc
namespace Go.Dc
open Go Go.Mx Go.Lx Go.Proofs
def zbq(p1:(List Int))(p0:S_factor_table):Nat->Int->(List Int)->Option (List Int)
 | 0,_,_=>none
 | n+1,v14,l1=>(
bif (decide (v14<(p1.length:Int)))then(
(zaE p1 v14).bind λx4=>
(zat p0 x4).bind λr6=>
((bif (decide (0<=r6))then(
(zaE p0.steps r6).bind λx9=>
(zaE l1 v14).bind λx11=>
(zfl l1 v14 x9).bind λy13=>
some y13)
else(
some l1):Option (List Int))).bind λl1'=>
zbq p1 p0 n (w64 (v14+1)) l1')
else(
some l1))
def zbd(p0:S_factor_table)(p1:(List Int)):Option (List Int):=
(zeR 8 (p1.length:Int) 0).bind λy1=>
((zbq p1 p0 ((p1.length:Int) - 0+2:Int).toNat 0 y1:Option (List Int))).bind λl1=>
some l1
theorem zdd{p0:S_factor_table}{p1:(List Int)}{r:(List Int)}(h:zbd p0 p1=some r):Lx.Fn mC 111 [(.agg [(fzE false (eI .i64) p0.factor.vars),(fzE false (eI .i64) p0.factor.zah),(fzE false (eI .i64) p0.factor.w),(fzE false (eI .i64) p0.steps)]),(fzE false (eI .i64) p1)] (fzE true (eI .i64) r):=by
 refine gnO ?_;unfold zbd at h;refine zad ?_;obtain⟨y1,g2,h⟩:=bsM h;refine sXM (anM ((zaD g2).1.1) (anM ((zaD g2).1.2) (anM @qbS (miM g2)))) ?_;obtain⟨o4,j4,h⟩:=bsM h;refine usM [5] 2 (λa:(List Int)=>([],[(0,.gone),(1,.els 1 (a.map ((eI .i64).c true)))],[])) λT4 hT4=>?_
 refine EvL.jn T4 (λa=>a=o4/\a.length=(Int.toNat (p1.length:Int))) ?_ ?_
 .refine wSM ?_;refine usM [2,5,12,13] 2 (λa:(Int×(List Int))=>([(14,(dI a.1))],[(1,.els 1 (a.2.map ((eI .i64).c true)))],[])) λT7 hT7=>?_
  refine rdM hT7 (λn a=>zbq p1 p0 n a.1 a.2=some o4/\a.2.length=(Int.toNat (p1.length:Int))) (0,y1) ⟨j4,zbC g2⟩ ?_;rintro n ⟨v14,l1⟩ ⟨j4,el1⟩;simp only[zbq]at j4;refine wTM hT7 ?_;refine cBM j4 (λ_ j4=>?_) λ_ j4=>?_
  .obtain rfl:=qae j4;exact zcr hT4 _ ⟨rfl,el1⟩
  obtain⟨x4,g5,r6,g7,j4⟩:=zfo j4;refine sXM (ixM g5) ?_;refine fCM (zaR g7) ?_;obtain⟨o8,j8,j4⟩:=bsM j4;obtain⟨T8,hT8⟩:=zcC hT7 λa:(List Int)=>uDM (T7 (v14,l1)) [] [] [(1,.els 1 (a.map ((eI .i64).c true)))] []
  refine EvL.jn T8 (λa=>a=o8/\a.length=(Int.toNat (p1.length:Int))) ?_ ?_
  .refine wSM ?_;refine cBM j8 (λ_ j8=>?_) λ_ j8=>?_
   .obtain rfl:=qae j8;exact zcr hT8 _ ⟨rfl,el1⟩
   obtain⟨x9,g10,x11,g12,y13,g14,j8⟩:=zhx j8;refine sXM (anM (ixM g10) (anM el1 (anM (zaZ g12) (anM (ltM el1 g12) (anM (giM g12) (siM g14)))))) ?_;obtain rfl:=qae j8;exact zcr hT8 _ ⟨rfl,(zaX g14).trans el1⟩
  rintro l1' ⟨rfl,el1'⟩;refine wTM hT8 ?_;exact zcr hT7 ((w64 (v14+1)),l1') ⟨j4,el1'⟩
 rintro l1 ⟨rfl,el1⟩;refine wTM hT4 ?_;exact rHM h
end Go.Dc
namespace Go.Dc
open Go Go.Mx Go.Lx
theorem znC{cs:List Nat}(hc:∀ c∈cs,1<=c)(hp:zac cs<=4096):∀ s∈zaM cs,s<=4096:=by
 induction cs with
 | nil=>intro s hs; cases hs
 | cons c cs ih=>
  have h1:=hc c qai;have h2:zac cs<=4096:=qaq (qcO (zac cs) h1) hp;intro s hs;rcases qav.1 hs with rfl | hs
  .exact h2
  exact ih (λd hd=>hc d (qag _ hd)) h2 s hs
theorem zc3.drop:∀ {cs xs:List Nat} (k:Nat),zc3 cs xs->zc3 (cs.drop k) (xs.drop k)
 | cs,xs,0,h=>h
 | [],[],k+1,_=>trivial
 | c :: cs,x :: xs,k+1,h=>h.2.2.drop k
theorem zkJ:∀ {cs ds:List Nat},zc3 cs ds->dot ds (zaM cs)<zac cs
 | [],[],_=>by simp[dot,zac]
 | c :: cs,d :: ds,h=>by
  have h1:=zkJ h.2.2;show d * zac cs+dot ds (zaM cs)<c * zac cs;have h2:(d+1)* zac cs<=c * zac cs:=qau _ h.1;rw[qaQ,qa6]at h2;omega
theorem ziC:∀ {cs:List Nat} {i:Nat},(∀ c∈cs,1<=c/\c<=8)->i<zac cs->dot (dig cs i) (zaM cs)=i
 | [],i,_,h=>by
  have:i=0:=by simpa [zac]using h
  subst this; rfl
 | c :: cs,i,hc,h=>by
  have hp:=zcu λd hd=>hc d (qag c hd)
  show i / zac cs * zac cs+dot (dig cs (i % zac cs)) (zaM cs)=i;rw[ziC (λd hd=>hc d (qag c hd)) (qbk _ hp),qaV];exact qb5 i (zac cs)
theorem znx:∀ {cs ds:List Nat},zc3 cs ds->dig cs (dot ds (zaM cs))=ds
 | [],[],_=>rfl
 | c :: cs,d :: ds,h=>by
  have h1:=zkJ h.2.2;have hp:0<zac cs:=by omega
  show((d * zac cs+dot ds (zaM cs)) / zac cs):: dig cs ((d * zac cs+dot ds (zaM cs)) % zac cs)=d :: ds;rw[qaV d,Nat.mul_add_div hp,qbX h1,qbM,Nat.mul_add_mod,qa7 h1,znx h.2.2]
def stp:List Nat->List Nat->Nat->Nat
 | v :: vs,_ :: cs,u=>bif v == u then zac cs else stp vs cs u
 | _,_,_=>0
def at_:List Nat->List Nat->Nat->Nat
 | v :: vs,d :: ds,u=>bif v == u then d else at_ vs ds u
 | _,_,_=>0
theorem zjV:∀ {vs cs:List Nat} {u:Nat},vs.length=cs.length->stp vs cs u=(match pos vs u with | none=>0 | some k=>(zaM cs).getD k 0)
 | [],_,u,_=>by simp[stp,pos]
 | v :: vs,[],_,h=>by simp at h
 | v :: vs,c :: cs,u,h=>by
  have ih:=zjV (u:=u) (show vs.length=cs.length by simpa using h);unfold stp pos;cases hb:(v == u)with
  | true=>rfl
  | false=>
   rw[qdu,qdu,ih];cases pos vs u with
   | none=>rfl
   | some k=>simp[zaM]
theorem zwo{f:Fc}(hf:FcOk f){vs:List Nat}(hl:vs.length<=100):∀(n i:Nat),i<=vs.length->vs.length - i<n ->
  zbq (iL vs) f.T n (i:Int) (iL ((vs.map (stp f.vs f.cs)).take i ++ List.replicate (vs.length - i) 0))=some (iL (vs.map (stp f.vs f.cs)))
 | 0,_,_,h=>absurd h (qaj _)
 | n+1,i,hi,hn=>by
  unfold zbq;rw[zai];rcases qaY i vs.length with h3 | h3
  .have ih:=zwo hf hl n (i+1) h3 (by omega);have ht:((vs.map (stp f.vs f.cs)).take i).length=i:=by simp; omega
   have e:List.replicate (vs.length - i) 0=0 :: List.replicate (vs.length - (i+1)) 0:=by
    rw[show vs.length - i=(vs.length - (i+1))+1 by omega,qaS]
   have e2:(vs.map (stp f.vs f.cs)).take (i+1)=(vs.map (stp f.vs f.cs)).take i ++ [stp f.vs f.cs vs[i]]:=by
    rw[qbE (by simpa using h3)]; simp
   rw[e2,qaF,qaN]at ih;rw[zzH h3,qdt,zaW h3,qaa,zi5 hf,qaa,zd8,zw3,e];rw[zjV hf.len]at ih;cases hp:pos f.vs vs[i]with
   | none=>
    rw[hp]at ih;rw[Option.isSome_none,qdu,qaa,zaf (by omega)];exact ih
   | some k=>
    rw[hp]at ih;obtain⟨hk,_⟩:=zdE hp;rw[qc5,qdt,show ixZ (some k)=(k:Int)from rfl,show f.T.steps=iL (zaM f.cs)from rfl,zfx (by rw[zg9,<- hf.len]; exact hk),qaa,zdp ht,qaa,zeW ht,qaa,qaa,zaf (by omega)];exact ih
  obtain rfl:i=vs.length:=by omega
  rw[zFy,qdu,qcf,qcG,qaH,qaM (by simp)]
theorem zqI{f:Fc}(hf:FcOk f){vs:List Nat}(hl:vs.length<=100):zbd f.T (iL vs)=some (iL (vs.map (stp f.vs f.cs))):=by
 unfold zbd;have h:=zwo hf hl (vs.length+2) 0 (qar _) (by omega);rw[qb0,qaP,qde,zgQ,show((0:Nat):Int)=0 from rfl]at h;rw[zai,zdH (by omega),qaa,zap,h];rfl
end Go.Dc
namespace Go.Dc
open Go Go.Mx Go.Lx Go.Proofs
def zeJ(p0:Int)(p1:Int):Option (Int×Int):=
(zku .u64 p0 32).bind λq1=>
(zku .u64 p1 32).bind λq3=>
(zku .u64 (IntKind.u64.wrap ((zkZ .u64 p0 4294967295)* (zkZ .u64 p1 4294967295))) 32).bind λq5=>
(zku .u64 (IntKind.u64.wrap ((IntKind.u64.wrap (q1 * (zkZ .u64 p1 4294967295)))+q5)) 32).bind λq7=>
(zku .u64 (IntKind.u64.wrap ((zkZ .u64 (IntKind.u64.wrap ((IntKind.u64.wrap (q1 * (zkZ .u64 p1 4294967295)))+q5)) 4294967295)+(IntKind.u64.wrap ((zkZ .u64 p0 4294967295)* q3)))) 32).bind λq9=>
some ((IntKind.u64.wrap ((IntKind.u64.wrap ((IntKind.u64.wrap (q1 * q3))+q7))+q9)),(IntKind.u64.wrap (p0 * p1)))
theorem znB{p0:Int}{p1:Int}{r:(Int×Int)}(h:zeJ p0 p1=some r):Lx.Fn mC 128 [(dU p0),(dU p1)] (.tup [(dU r.1),(dU r.2)]):=by
 refine gnO ?_;unfold zeJ at h;refine zad ?_;obtain⟨q1,g2,q3,g4,q5,g6,h⟩:=zhx h;obtain⟨q7,g8,q9,g10,h⟩:=zfo h;try simp only[rnA,Nat.reduceEqDiff,Nat.reduceLT,Nat.reduceAdd,reduceCtorEq,(zbA g2).1,(zbA g2).2,(zbA g4).2,(zbA g6).2,(zbA g8).2,(zbA g10).2]
 replace h:=qae h; subst h;exact zje.ret rfl (Snp.zC6 (.cons (.lit _) (.cons (.lit _) .nil)))
end Go.Dc
namespace Go.Dc
open Go Go.Mx Go.Lx
theorem zAS{a:Nat}(ha:a<18446744073709551616):zkZ .u64 (a:Int) 4294967295=((a % 4294967296:Nat):Int):=by
 rw[show(4294967295:Int)=((4294967295:Nat):Int)from rfl,zG1 ha (by omega)];congr 1
 exact Nat.and_two_pow_sub_one_eq_mod a 32
theorem zvk(a:Nat):zku .u64 (a:Int) 32=some ((a / 4294967296:Nat):Int):=by
 have h:=zGq (a:=a) (v:=32) (by omega);rw[show((32:Nat):Int)=32 from rfl]at h;rw[h,qb1]
theorem zGu{x y:Nat}(hx:x<18446744073709551616)(hy:y<18446744073709551616):zeJ (x:Int) (y:Int)=some (((x * y / 18446744073709551616:Nat):Int),((x * y % 18446744073709551616:Nat):Int)):=by
 unfold zeJ;rw[zvk,qaa,zvk,qaa,zAS hx,zAS hy];have ex:x=x / 4294967296 * 4294967296+x % 4294967296:=by omega
 have ey:y=y / 4294967296 * 4294967296+y % 4294967296:=by omega
 have exy:x * y=(x / 4294967296)* (y / 4294967296)* 18446744073709551616+((x / 4294967296)* (y % 4294967296)+(x % 4294967296)* (y / 4294967296))* 4294967296+(x % 4294967296)* (y % 4294967296):=by
  have:∀ a b c d:Nat,(a * 4294967296+b)* (c * 4294967296+d)=a * c * 18446744073709551616+(a * d+b * c)* 4294967296+b * d:=by
   intro a b c d;rw[qaQ,qdb,qdb,Nat.mul_mul_mul_comm,show b * (c * 4294967296)=b * c * 4294967296 from(qaZ _ _ _).symm,show a * 4294967296 * d=a * d * 4294967296 by rw[qaZ,qaV 4294967296 d,qaZ]];omega
  calc x * y=(x / 4294967296 * 4294967296+x % 4294967296)* (y / 4294967296 * 4294967296+y % 4294967296):=by rw[<- ex,<- ey]
   _=_:=this _ _ _ _
 rw[show(x:Int)* (y:Int)=((x * y:Nat):Int)from(qaL x y).symm,zxX];have ha:x / 4294967296<=4294967295:=by omega
 have hb:x % 4294967296<=4294967295:=by omega
 have hc:y / 4294967296<=4294967295:=by omega
 have hd:y % 4294967296<=4294967295:=by omega
 rw[exy];generalize x / 4294967296=a at *;generalize x % 4294967296=b at *;generalize y / 4294967296=c at *;generalize y % 4294967296=d at *;have h1:a * c<=4294967295 * 4294967295:=qa2 ha hc;have h2:a * d<=4294967295 * 4294967295:=qa2 ha hd;have h3:b * c<=4294967295 * 4294967295:=qa2 hb hc;have h4:b * d<=4294967295 * 4294967295:=qa2 hb hd;rw[<- qaL,<- qaL,<- qaL,<- qaL];generalize a * c=p at *;generalize a * d=q at *;generalize b * c=r at *;generalize b * d=s at *
 rw[zbH (n:=s) (by omega),zvk,qaa,zbH (n:=q) (by omega),<- qby,zbH (n:=q+s / 4294967296) (by omega),zvk,qaa,zAS (by omega),zbH (n:=r) (by omega),<- qby,zbH (n:=(q+s / 4294967296) % 4294967296+r) (by omega),zvk,qaa,
  zbH (n:=p) (by omega),<- qby,zbH (n:=p+(q+s / 4294967296) / 4294967296) (by omega),<- qby,zbH (n:=p+(q+s / 4294967296) / 4294967296+((q+s / 4294967296) % 4294967296+r) / 4294967296) (by omega)]
 congr 2
 congr 1
 omega
theorem zvi(g h:Nat->Nat):∀(ds vs:List Nat),dot ds (vs.map λv=>g v+h v)=dot ds (vs.map g)+dot ds (vs.map h)
 | [],_=>by simp[dot]
 | d :: ds,[]=>by simp[dot]
 | d :: ds,v :: vs=>by
  simp only[qaz,dot,zvi g h ds vs,qdb];omega
theorem zm6:∀(ds vs:List Nat) (g:Nat->Nat),(∀ v∈vs,g v=0)->dot ds (vs.map g)=0
 | [],_,_,_=>by simp[dot]
 | d :: ds,[],_,_=>by simp[dot]
 | d :: ds,v :: vs,g,h=>by
  simp only[qaz,dot,h v qai,Nat.mul_zero,zm6 ds vs g λu hu=>h u (qag _ hu)]
theorem zvX{u p:Nat}:∀ {vs ds:List Nat},vs.Nodup->dot ds (vs.map λv=>bif u == v then p else 0)=at_ vs ds u * p
 | [],ds,_=>by cases ds<;>simp[dot,at_]
 | v :: vs,[],_=>by simp[dot,at_]
 | v :: vs,d :: ds,h=>by
  obtain⟨h1,h2⟩:=qbb.1 h;simp only[qaz,dot,at_];by_cases hb:u=v
  .subst hb;rw[qdz,qdt,qdt,zm6 ds vs _ (λw hw=>by rw[show(u == w)=false from qdA (λe=>h1 (e ▸ hw))]; rfl),qbM]
  rw[show(u == v)=false from qdA hb,show(v == u)=false from qdA (λe=>hb e.symm),qdu,qdu,zvX h2,Nat.mul_zero,qaR]
theorem zvo:∀ {us cs:List Nat} {u:Nat},u ∉ us->stp us cs u=0
 | [],_,_,_=>by simp[stp]
 | v :: us,[],_,_=>by simp[stp]
 | v :: us,c :: cs,u,h=>by
  unfold stp;rw[show(v == u)=false from qdA (λe=>h (by rw[e]; exact qai)),qdu,zvo λhm=>h (qag _ hm)]
theorem zqU{vs ds:List Nat}(hv:vs.Nodup):∀ {us cs:List Nat},us.length=cs.length->us.Nodup->dot ds (vs.map (stp us cs))=dot (us.map (at_ vs ds)) (zaM cs)
 | [],cs,_,_=>by
  rw[zm6 ds vs _ λv _=>by simp[stp]];simp[dot]
 | u :: us,[],h,_=>by simp at h
 | u :: us,c :: cs,h,hn=>by
  obtain⟨h1,h2⟩:=qbb.1 hn;have e:vs.map (stp (u :: us) (c :: cs))=vs.map λv=>(bif u == v then zac cs else 0)+stp us cs v:=by
   refine qbr λv _=>?_
   rw[show stp (u :: us) (c :: cs) v=bif u == v then zac cs else stp us cs v from rfl];cases hb:(u == v)with
   | true=>
    have:u=v:=by simpa using hb
    subst this;rw[qdt,qdt,zvo h1]; rfl
   | false=>
    rw[qdu,qdu,qaR]
  rw[e,zvi,zvX hv,zqU hv (by simpa using h) h2];rfl
theorem zbi{vs:List Nat}(h:vs.Pairwise (· < ·)):vs.Nodup:=h.imp λh=>Nat.ne_of_lt h
def zpD(vs ws:List Nat):List Nat->List Nat->Prop
 | [],[]=>True
 | u :: us,c :: cs=>(u∈vs/\at_ vs ws u=c)/\zpD vs ws us cs
 | _,_=>False
theorem znH:∀ {vs ws ds:List Nat} {u:Nat},vs.length=ws.length->zc3 ws ds->u∈vs->at_ vs ds u<at_ vs ws u/\at_ vs ws u<=8
 | v :: vs,w :: ws,d :: ds,u,hl,hb,hm=>by
  unfold at_;by_cases h:v=u
  .subst h;rw[qdz,qdt,qdt];exact⟨hb.1,hb.2.1⟩
  .rw[show(v == u)=false from qdA h,qdu,qdu];rcases qav.1 hm with e | hm
   .exact absurd e.symm h
   .exact znH (by simpa using hl) hb.2.2 hm
 | [],_,_,_,_,_,hm=>by cases hm
 | v :: vs,[],_,_,hl,_,_=>by simp at hl
 | v :: vs,w :: ws,[],_,_,hb,_=>hb.elim
theorem zpD.below{vs ws ds:List Nat}(hl:vs.length=ws.length)(hb:zc3 ws ds):∀ {us cs:List Nat},zpD vs ws us cs->zc3 cs (us.map (at_ vs ds))
 | [],[],_=>trivial
 | u :: us,c :: cs,⟨⟨h1,h2⟩,h3⟩=>by
  have:=znH hl hb h1;rw[h2]at this;exact⟨this.1,this.2,zpD.below hl hb h3⟩
 | [],_ :: _,h=>h.elim
 | _ :: _,[],h=>h.elim
theorem zpD.mem{vs ws:List Nat}:∀ {us cs:List Nat},zpD vs ws us cs->∀ u∈us,u∈vs
 | [],[],_,_,hu=>by cases hu
 | u :: us,c :: cs,⟨⟨h1,_⟩,h3⟩,w,hw=>by
  rcases qav.1 hw with rfl | hw
  .exact h1
  .exact zpD.mem h3 w hw
 | [],_ :: _,h,_,_=>h.elim
 | _ :: _,[],h,_,_=>h.elim
def Fc.at(f:Fc)(vs ds:List Nat):Nat:=f.ws.getD (dot (f.vs.map (at_ vs ds)) (zaM f.cs)) 0
theorem zvU{xs:List Nat}{v:Nat}:(pos xs v).isSome=decide (v∈xs):=by
 cases h:pos xs v with
 | none=>exact(qdw (zjz h)).symm
 | some k=>
  obtain⟨hk,e⟩:=zdE h;exact(qdv (e ▸ qam hk)).symm
theorem zgL(u d:Nat)(us ds:List Nat)(v:Nat):at_ (u :: us) (d :: ds) v=bif u == v then d else at_ us ds v:=rfl
theorem zr7:∀ {vs ds:List Nat} {v k:Nat},pos vs v=some k->at_ vs ds v=ds.getD k 0
 | [],_,_,_,h=>by cases h
 | u :: us,[],v,k,_=>by simp[at_]
 | u :: us,d :: ds,v,k,h=>by
  rw[zgL];rw[show pos (u :: us) v=bif u == v then some 0 else(pos us v).map (· + 1)from rfl]at h;cases hb:(u == v)with
  | true=>rw[hb,qdt]at h; cases h; rw[qdt]; rfl
  | false=>
   rw[hb,qdu]at h;cases hp:pos us v with
   | none=>rw[hp]at h; cases h
   | some j=>rw[hp]at h; cases h; rw[qdu,zr7 hp]; rfl
def inB(f g:Fc)(v:Nat):Bool:=decide (v∈f.vs)|| decide (v∈g.vs)
def cdF(f g:Fc)(v:Nat):Nat:=bif decide (v∈f.vs)then at_ f.vs f.cs v else at_ g.vs g.cs v
def uni(f g:Fc):List Nat:=(List.range' 0 64).filter (inB f g)
theorem zsu:∀ {xs:List Nat} {l:Nat},xs.Pairwise (· < ·)->(∀ x∈xs,l<=x/\x<64)->xs.length<=64 - l
 | [],_,_,_=>by simp
 | x :: xs,l,h,hb=>by
  obtain⟨h1,h2⟩:=qa3.1 h;have hx:=hb x qai;have:=zsu (l:=x+1) h2 λy hy=>⟨h1 y hy,(hb y (qag _ hy)).2⟩
  rw[qaC]; omega
theorem ziF{f:Fc}(hf:FcOk f){v k:Nat}(hp:pos f.vs v=some k):zaE f.D.zah (ixZ (some k))=some ((at_ f.vs f.cs v:Nat):Int):=by
 obtain⟨hk,_⟩:=zdE hp;show zaE (iL f.cs) (k:Int)=_;rw[zfx (by rw[<- hf.len]; exact hk),zr7 hp]
theorem zeL{f g:Fc}(hf:FcOk f)(hg:FcOk g){v:Nat}:v∈uni f g↔v∈f.vs\/v∈g.vs:=by
 unfold uni inB;simp only[qaO,qcT,qbP,decide_eq_true_eq];constructor
 .exact λh=>h.2
 rintro(h | h)
 .exact⟨⟨qar _,by have:=hf.var _ h; omega⟩,.inl h⟩
 exact⟨⟨qar _,by have:=hg.var _ h; omega⟩,.inr h⟩
theorem ziI(f g:Fc):(uni f g).Pairwise (· < ·):=qbc _ qc8
theorem zAr{f g:Fc}:∀ v∈uni f g,v<64:=by
 intro v hv;have:=(qaO.1 hv).1;simp only[qcT]at this;omega
theorem zAe(f g:Fc):(uni f g).length<=64:=zsu (l:=0) (ziI f g) λx hx=>⟨qar _,zAr x hx⟩
theorem ziM:∀ {a b:List Nat},a.Pairwise (· < ·)->b.Pairwise (· < ·)->(∀ x,x∈a↔x∈b)->a=b
 | [],[],_,_,_=>rfl
 | [],b :: bs,_,_,h=>by have:=(h b).2 qai; simp at this
 | a :: xs,[],_,_,h=>by have:=(h a).1 qai; simp at this
 | a :: xs,b :: bs,ha,hb,h=>by
  obtain⟨ha1,ha2⟩:=qa3.1 ha;obtain⟨hb1,hb2⟩:=qa3.1 hb;have e:a=b:=by
   rcases qav.1 ((h a).1 qai)with h1 | h1
   .exact h1
   rcases qav.1 ((h b).2 qai)with h2 | h2
   .exact h2.symm
   have:=hb1 a h1; have:=ha1 b h2; omega
  subst e;refine congrArg (a :: ·) (ziM ha2 hb2 λx=>⟨λhx=>?_,λhx=>?_⟩)
  .rcases qav.1 ((h x).1 (qag _ hx))with rfl | h1
   .have:=ha1 x hx; omega
   exact h1
  rcases qav.1 ((h x).2 (qag _ hx))with rfl | h1
  .have:=hb1 x hx; omega
  exact h1
end Go.Dc
namespace Go.Dc
open Go Go.Mx Go.Lx Go.Proofs
def zb0(y7:(List Int))(p0:S_factor_table)(p1:S_factor_table):Nat->Int->(List Int)->Option (List Int)
 | 0,_,_=>none
 | n+1,v26,l2=>(
bif (decide (v26<(y7.length:Int)))then(
(zaE y7 v26).bind λx12=>
(zat p0 x12).bind λr14=>
((bif (decide (0<=r14))then(
(zaE p0.factor.zah r14).bind λx25=>
(zaE l2 v26).bind λx27=>
(zfl l2 v26 x25).bind λy29=>
some y29)
else(
(zat p1 x12).bind λr17=>
(zaE p1.factor.zah r17).bind λx19=>
(zaE l2 v26).bind λx21=>
(zfl l2 v26 x19).bind λy23=>
some y23):Option (List Int))).bind λl2'=>
zb0 y7 p0 p1 n (w64 (v26+1)) l2')
else(
some l2))
def zdC(p0:S_factor_table)(p1:S_factor_table):Option ((List Int)×(List Int)):=
(zeB 8 p0.factor.vars).bind λy1=>
(zcX 8 y1 p1.factor.vars).bind λy3=>
(zoc 8 y3).bind λy5=>
(zC0 y5).bind λy7=>
(zeR 8 (y7.length:Int) 0).bind λy9=>
((zb0 y7 p0 p1 ((y7.length:Int) - 0+2:Int).toNat 0 y9:Option (List Int))).bind λl2=>
some (y7,l2)
theorem zkE{p0:S_factor_table}{p1:S_factor_table}{r:((List Int)×(List Int))}(h:zdC p0 p1=some r):Lx.Fn mC 127 [(.agg [(fzE false (eI .i64) p0.factor.vars),(fzE false (eI .i64) p0.factor.zah),(fzE false (eI .i64) p0.factor.w),(fzE false (eI .i64) p0.steps)]),(.agg [(fzE false (eI .i64) p1.factor.vars),(fzE false (eI .i64) p1.factor.zah),(fzE false (eI .i64) p1.factor.w),(fzE false (eI .i64) p1.steps)])] (.tup [(fzE true (eI .i64) r.1),(fzE true (eI .i64) r.2)]):=by
 refine gnO ?_;unfold zdC at h;refine zad ?_;obtain⟨y1,g2,h⟩:=bsM h;refine sSM ?_;refine EvL.clone (t:=false) (zs:=p0.factor.vars) g2 rfl rfl ?_;obtain⟨y3,g4,y5,g6,h⟩:=zfo h;refine sXM (anM (srM p1.factor.vars) (anM (zbz g4) (anM (show y1.length+p1.factor.vars.length=y3.length from zfK g4) (show y1.map ((eI .i64).c true)++ p1.factor.vars.map ((eI .i64).c true)=y3.map ((eI .i64).c true)from zdB g4 ((eI .i64).c true))))) ?_;refine EvL.sort (zs:=y3) (t:=true) g6 rfl rfl rfl rfl rfl ?_;obtain⟨y7,g8,h⟩:=bsM h;refine sSM ?_;refine EvL.compact (zs:=y5) (t:=true) g8 rfl rfl rfl (((zpp g6).trans rfl)).symm (((zpp g6).trans rfl)).symm rfl ?_;refine EvL.zgd (S':=⟨59,[(2,(.ptr 0 0)),(3,(.ptr 1 0)),(20,(fzE true (eI .i64) y7))],[.cells [(fzE false (eI .i64) p0.factor.vars),(fzE false (eI .i64) p0.factor.zah),(fzE false (eI .i64) p0.factor.w),(fzE false (eI .i64) p0.steps)],.cells [(fzE false (eI .i64) p1.factor.vars),(fzE false (eI .i64) p1.factor.zah),(fzE false (eI .i64) p1.factor.w),(fzE false (eI .i64) p1.steps)]]⟩) (za8.m0 [.k,.k,.f] rfl (msq (msq (mf rfl (zmU (xs:=y5) (ys:=y7) (t:=true) (zBS g8) rfl rfl rfl (λ_=>rfl)) trivial))) ⟨MB.cs ⟨qds,qds,qds,qds,qds⟩,⟨MB.cs ⟨qds,qds,qds,qds,qds⟩,qds⟩⟩) (zad ?_);obtain⟨y9,g10,h⟩:=bsM h;refine sXM (anM ((zaD g10).1.1) (anM ((zaD g10).1.2) (anM @qbS (miM g10)))) ?_;obtain⟨o4,j4,h⟩:=bsM h;refine usM [4,5] 3 (λa:(List Int)=>([],[(0,.gone),(1,.gone),(2,.els 1 (a.map ((eI .i64).c true)))],[])) λT4 hT4=>?_
 refine EvL.jn T4 (λa=>a=o4/\a.length=(Int.toNat (y7.length:Int))) ?_ ?_
 .refine wSM ?_;refine usM [2,3,4,5,24,25] 3 (λa:(Int×(List Int))=>([(26,(dI a.1))],[(2,.els 1 (a.2.map ((eI .i64).c true)))],[])) λT7 hT7=>?_
  refine rdM hT7 (λn a=>zb0 y7 p0 p1 n a.1 a.2=some o4/\a.2.length=(Int.toNat (y7.length:Int))) (0,y9) ⟨j4,zbC g10⟩ ?_;rintro n ⟨v26,l2⟩ ⟨j4,el2⟩;simp only[zb0]at j4;refine wTM hT7 ?_;refine cBM j4 (λ_ j4=>?_) λ_ j4=>?_
  .obtain rfl:=qae j4;exact zcr hT4 _ ⟨rfl,el2⟩
  obtain⟨x12,g13,r14,g15,j4⟩:=zfo j4;refine sXM (ixM g13) ?_;refine fCM (zaR g15) ?_;obtain⟨o8,j8,j4⟩:=bsM j4;obtain⟨T8,hT8⟩:=zcC hT7 λa:(List Int)=>uDM (T7 (v26,l2)) [] [] [(2,.els 1 (a.map ((eI .i64).c true)))] []
  refine EvL.jn T8 (λa=>a=o8/\a.length=(Int.toNat (y7.length:Int))) ?_ ?_
  .refine wSM ?_;refine cBM j8 (λ_ j8=>?_) λ_ j8=>?_
   .obtain⟨r17,g18,j8⟩:=bsM j8;refine sSM ?_;refine fCM (zaR g18) ?_;obtain⟨x19,g20,x21,g22,y23,g24,j8⟩:=zhx j8;refine sXM (anM (ixM g20) (anM el2 (anM (zaZ g22) (anM (ltM el2 g22) (anM (giM g22) (siM g24)))))) ?_;obtain rfl:=qae j8;exact zcr hT8 _ ⟨rfl,(zaX g24).trans el2⟩
   obtain⟨x25,g26,x27,g28,y29,g30,j8⟩:=zhx j8;refine sXM (anM (ixM g26) (anM el2 (anM (zaZ g28) (anM (ltM el2 g28) (anM (giM g28) (siM g30)))))) ?_;obtain rfl:=qae j8;exact zcr hT8 _ ⟨rfl,(zaX g30).trans el2⟩
  rintro l2' ⟨rfl,el2'⟩;refine wTM hT8 ?_;exact zcr hT7 ((w64 (v26+1)),l2') ⟨j4,el2'⟩
 rintro l2 ⟨rfl,el2⟩;refine wTM hT4 ?_;exact rHM h
end Go.Dc
namespace Go.Dc
open Go Go.Mx Go.Lx
theorem zr4:∀ {a b:List Int},a.Pairwise (· < ·)->b.Pairwise (· < ·)->(∀ x,x∈a↔x∈b)->a=b
 | [],[],_,_,_=>rfl
 | [],b :: bs,_,_,h=>by have:=(h b).2 qai; simp at this
 | a :: xs,[],_,_,h=>by have:=(h a).1 qai; simp at this
 | a :: xs,b :: bs,ha,hb,h=>by
  obtain⟨ha1,ha2⟩:=qa3.1 ha;obtain⟨hb1,hb2⟩:=qa3.1 hb;have e:a=b:=by
   rcases qav.1 ((h a).1 qai)with h1 | h1
   .exact h1
   rcases qav.1 ((h b).2 qai)with h2 | h2
   .exact h2.symm
   have:=hb1 a h1; have:=ha1 b h2; omega
  subst e;refine congrArg (a :: ·) (zr4 ha2 hb2 λx=>⟨λhx=>?_,λhx=>?_⟩)
  .rcases qav.1 ((h x).1 (qag _ hx))with rfl | h1
   .have:=ha1 x hx; omega
   exact h1
  rcases qav.1 ((h x).2 (qag _ hx))with rfl | h1
  .have:=hb1 x hx; omega
  exact h1
section
variable {s:List Int}
theorem zm2{j:Nat}(h:j<s.length):s.toArray[j]! = s[j]:=by simp[h]
theorem zzK(hs:s.Pairwise (· <= ·)){i j:Nat}(hij:i<=j)(hj:j<s.length):s.toArray[i]!<=s.toArray[j]!:=by
 rw[zm2 (by omega),zm2 hj];rcases Nat.eq_or_lt_of_le hij with h | h
 .subst h; exact qbS _
 exact qbi.1 hs i j (by omega) hj h
theorem zCj(hs:s.Pairwise (· <= ·)):(Go.Lib.compact s).Pairwise (· < ·):=by
 unfold Go.Lib.compact Go.Lib.compactUpTo;refine List.pairwise_map.2 ((qbc _ (qbY (n:=s.length))).imp_of_mem λ{a b} _ hb hab=>?_);obtain⟨h1,h2⟩:=qaO.1 hb;have hb:=qbd.1 h1;have h3:s.toArray[b]!≠s.toArray[b - 1]!:=by
  rcases of_decide_eq_true h2 with h | h
  .omega
  exact h
 have h4:=zzK hs (show a<=b - 1 by omega) (by omega);have h5:=zzK hs (show b - 1<=b by omega) hb;omega
theorem zst:∀ j:Nat,j<s.length->∃ i,i<s.length/\Go.Lib.keeps s.toArray i=true/\s.toArray[i]! = s.toArray[j]!
 | 0,h=>⟨0,h,qdv (.inl rfl),rfl⟩
 | j+1,h=>by
  by_cases e:s.toArray[j+1]! = s.toArray[j]!
  .obtain⟨i,h1,h2,h3⟩:=zst j (by omega);exact⟨i,h1,h2,h3.trans e.symm⟩
  exact⟨j+1,h,qdv (.inr e),rfl⟩
theorem zCc{x:Int}:x∈Go.Lib.compact s↔x∈s:=by
 unfold Go.Lib.compact Go.Lib.compactUpTo;constructor
 .intro h;obtain⟨j,h1,rfl⟩:=qaB.1 h;have hj:=qbd.1 (qaO.1 h1).1;rw[zm2 hj];exact qam hj
 intro h;obtain⟨j,hj,rfl⟩:=qbD.1 h;obtain⟨i,h1,h2,h3⟩:=zst j hj;exact qaB.2 ⟨i,qaO.2 ⟨qbd.2 h1,h2⟩,h3.trans (zm2 hj)⟩
end
theorem zx2(zs:List Int):(zgn zs).Pairwise (· <= ·):=by
 have:=List.pairwise_mergeSort (le:=λx y:Int=>decide (x<=y)) (λa b c h1 h2=>by simp at *; omega) (λa b=>by simp; omega) zs;exact this.imp λh=>by simpa using h
theorem zw2{zs:List Int}{x:Int}:x∈zgn zs↔x∈zs:=List.mem_mergeSort
theorem zFc{xs:List Nat}(h:xs.Pairwise (· < ·)):(iL xs).Pairwise (· < ·):=List.pairwise_map.2 (h.imp λh=>Int.ofNat_lt.2 h)
theorem zz8{xs:List Nat}{x:Int}:x∈iL xs↔∃ k∈xs,(k:Int)=x:=qaB
theorem zCp{f g:Fc}(hf:FcOk f)(hg:FcOk g):Go.Lib.compact (zgn (iL f.vs ++ iL g.vs))=iL (uni f g):=by
 refine zr4 (zCj (zx2 _)) (zFc (ziI f g)) λx=>?_
 rw[zCc,zw2,<- zqz,zz8,zz8];constructor
 .rintro⟨k,h1,h2⟩; exact⟨k,(zeL hf hg).2 (qbf.1 h1),h2⟩
 rintro⟨k,h1,h2⟩; exact⟨k,qbf.2 ((zeL hf hg).1 h1),h2⟩
theorem zww{f g:Fc}(hf:FcOk f)(hg:FcOk g){vs:List Nat}(hl:vs.length<=100)(hm:∀ v∈vs,v∈f.vs\/v∈g.vs):∀(n i:Nat),i<=vs.length->vs.length - i<n ->
  zb0 (iL vs) f.T g.T n (i:Int) (iL ((vs.map (cdF f g)).take i ++ List.replicate (vs.length - i) 0))=some (iL (vs.map (cdF f g)))
 | 0,_,_,h=>absurd h (qaj _)
 | n+1,i,hi,hn=>by
  unfold zb0;rw[zai];rcases qaY i vs.length with h3 | h3
  .have ih:=zww hf hg hl hm n (i+1) h3 (by omega);have ht:((vs.map (cdF f g)).take i).length=i:=by simp; omega
   have e:List.replicate (vs.length - i) 0=0 :: List.replicate (vs.length - (i+1)) 0:=by
    rw[show vs.length - i=(vs.length - (i+1))+1 by omega,qaS]
   have e2:(vs.map (cdF f g)).take (i+1)=(vs.map (cdF f g)).take i ++ [cdF f g vs[i]]:=by
    rw[qbE (by simpa using h3)]; simp
   rw[e2,qaF,qaN]at ih;rw[zzH h3,qdt,zaW h3,qaa,zi5 hf,qaa,zd8,zw3,e];cases hp:pos f.vs vs[i]with
   | some k=>
    have hm:decide (vs[i]∈f.vs)=true:=by rw[<- zvU,hp]; rfl
    rw[show cdF f g vs[i]=at_ f.vs f.cs vs[i] by unfold cdF; rw[hm]; rfl]at ih;rw[qc5,qdt,show f.T.factor=f.D from rfl,ziF hf hp,qaa,zdp ht,qaa,zeW ht,qaa,qaa,zaf (by omega)];exact ih
   | none=>
    have hm1:decide (vs[i]∈f.vs)=false:=by rw[<- zvU,hp]; rfl
    rw[show cdF f g vs[i]=at_ g.vs g.cs vs[i] by unfold cdF; rw[hm1]; rfl]at ih;have hm2:vs[i]∈g.vs:=(hm vs[i] (qam h3)).resolve_left (of_decide_eq_false hm1);obtain⟨k,hq⟩:=zkp hm2;rw[Option.isSome_none,qdu,zi5 hg,qaa,zd8,hq,show g.T.factor=g.D from rfl,ziF hg hq,qaa,zdp ht,qaa,zeW ht,qaa,qaa,zaf (by omega)];exact ih
  obtain rfl:i=vs.length:=by omega
  rw[zFy,qdu,qcf,qcG,qaH,qaM (by simp)]
theorem zCJ{f g:Fc}(hf:FcOk f)(hg:FcOk g):zdC f.T g.T=some (iL (uni f g),iL ((uni f g).map (cdF f g))):=by
 have hl:=zAe f g;have h1:=hf.le; have h2:=hg.le; have h3:=hf.len; have h4:=hg.len;unfold zdC
 rw[show f.T.factor.vars=iL f.vs from rfl,show g.T.factor.vars=iL g.vs from rfl,zg2 (by rw[zai]; omega),qaa,zb8 (by rw[zai,zai]; omega),qaa,
  show zoc 8 (iL f.vs ++ iL g.vs)=some (zgn (iL f.vs ++ iL g.vs))from by unfold zoc; rw[if_pos (by rw[qax,zai,zai]; simp only[zaj]; omega)],qaa,
  show zC0 (zgn (iL f.vs ++ iL g.vs))=some (Go.Lib.compact (zgn (iL f.vs ++ iL g.vs)))from rfl,qaa,zCp hf hg,zai,zdH (by omega),qaa,zap]
 have:=zww hf hg (vs:=uni f g) (by omega) (λv hv=>(zeL hf hg).1 hv) ((uni f g).length+2) 0 (qar _) (by omega);rw[qb0,qaP,qde,zgQ]at this;rw[show zb0 (iL (uni f g)) f.T g.T ((uni f g).length+2) 0 (List.replicate (uni f g).length 0)=_ from this];rfl
end Go.Dc
namespace Go.Dc
open Go Go.Mx Go.Lx Go.Proofs
def zeF(p0:Int)(p1:Int):Option (Int×Bool):=
some ((w64 (p0+p1)),(decide ((w64 (p0+p1))<=4611686018427387903)))
theorem zl2{p0:Int}{p1:Int}{r:(Int×Bool)}(h:zeF p0 p1=some r):Lx.Fn mC 95 [(dI p0),(dI p1)] (.tup [(dI r.1),(dB r.2)]):=by
 refine gnO ?_;unfold zeF at h;refine wSM ?_;exact rHM h
def zaK(p1:(List Int))(p0:S_factor_table):Nat->Int->Int->(List Int)->Option (Int×(List Int))
 | 0,_,_,_=>none
 | n+1,v9,v24,l3=>(
bif (decide (v24<(p1.length:Int)))then(
(zaE p1 v24).bind λx4=>
(zat p0 x4).bind λr6=>
(zaE p0.factor.zah r6).bind λx8=>
(zaE l3 v24).bind λx10=>
(zfl l3 v24 x8).bind λy12=>
zaK p1 p0 n (w64 (v9 * x8)) (w64 (v24+1)) y12)
else(
some (v9,l3)))
def zaL(p1:(List Int))(p0:S_factor_table)(l3:(List Int)):Nat->Int->Int->(List Int)->Option (List Int)
 | 0,_,_,_=>none
 | n+1,v14,v15,l6=>(
bif (decide (0<=v15))then(
(zaE p1 v15).bind λx19=>
(zat p0 x19).bind λr21=>
(zaE l6 r21).bind λx23=>
(zfl l6 r21 v14).bind λy25=>
(zaE l3 v15).bind λx27=>
zaL p1 p0 l3 n (w64 (v14 * x27)) (w64 (v15 - 1)) y25)
else(
some l6))
def zaB(p0:S_factor_table)(v9:Int):List (Int×Int×(List Int))->(List Int)->Option (Out3 (List Int) (List Int) Empty)
 | [],l4=>some (.go l4)
 | y33 :: ys,l4=>(
(zaE l4 y33.2.1).bind λx34=>
(zaE p0.factor.w y33.1).bind λx36=>
(zeF x34 x36).bind λr38=>
(zfl l4 y33.2.1 r38.1).bind λy40=>
bif r38.2 then(
zaB p0 v9 ys y40)
else(
some (.brk y40)))
def zbo(p0:S_factor_table)(p1:(List Int)):Option (S_api_Factor×Int):=
(zeR 8 (p1.length:Int) 0).bind λy1=>
((zaK p1 p0 ((p1.length:Int) - 0+2:Int).toNat 1 0 y1:Option ((Int×(List Int))))).bind λo=>match o with
|(v9,l3)=>(
(zeR 8 v9 0).bind λy14=>
(zeR 8 (p0.factor.vars.length:Int) 0).bind λy16=>
((zaL p1 p0 l3 ((w64 ((p1.length:Int) - 1)) - 0+2:Int).toNat 1 (w64 ((p1.length:Int) - 1)) y16:Option (List Int))).bind λl6=>
(zca p0.factor.zah l6).bind λr29=>
(((zAm r29.1 r29.2).bind λu31=>
((zaB p0 v9 u31 y14:Option (Out3 (List Int) (List Int) Empty))).bind λo=>match o with
| .go l4=>(
some (true,l4))
| .brk l4=>(
some (false,l4))
| .ret r=>nomatch r:Option ((Bool×(List Int))))).bind λo=>match o with
|(b7_0,l4)=>(
bif b7_0 then(
some ((S_api_Factor.mk p1 l3 l4),0))
else(
some ((S_api_Factor.mk [] [] []),6))))
variable{r:(S_api_Factor×Int)}
theorem zfC{p0:S_factor_table}{p1:(List Int)}(h:zbo p0 p1=some r):Lx.FnA mC 94 [(.agg [(fzE false (eI .i64) p0.factor.vars),(fzE false (eI .i64) p0.factor.zah),(fzE false (eI .i64) p0.factor.w),(fzE false (eI .i64) p0.steps)]),(fzE false (eI .i64) p1),(.agg [(.clo 95 [] [])])] (.tup [(.agg [(fzE false (eI .i64) r.1.vars),(fzE false (eI .i64) r.1.zah),(fzE false (eI .i64) r.1.w)]),(dI r.2)]):=by
 refine zIh (List.range 19) [19,20] ?_;unfold zbo at h;refine wSM ?_;refine EvL.scope (zad ?_);obtain⟨y1,g2,h⟩:=bsM h;refine sXM (anM ((zaD g2).1.1) (anM ((zaD g2).1.2) (anM @qbS (miM g2)))) ?_;obtain⟨o8,j8,h⟩:=bsM h;obtain⟨T8,hT8⟩:=mkT λa:(Int×(List Int))=>⟨112,[(1,(fzE false (eI .i64) p1)),(3,(.ptr 0 0)),(5,(.ptr 1 0)),(6,(.ptr 2 0)),(8,(.sl 3 0 1 (Int.toNat (p1.length:Int)) (some (Int.toNat (p1.length:Int))) (Int.toNat (p1.length:Int)))),(9,(dI a.1))],[.cells [(fzE false (eI .i64) p0.factor.vars),(fzE false (eI .i64) p0.factor.zah),(fzE false (eI .i64) p0.factor.w),(fzE false (eI .i64) p0.steps)],.cells [(.clo 95 [] [])],.cells [zez,zez,zez],.els 1 (a.2.map ((eI .i64).c true))]⟩
 refine EvL.jn T8 (λa=>a=o8/\a.2.length=(Int.toNat (p1.length:Int))) ?_ ?_
 .refine wSM ?_;obtain⟨T9,hT9⟩:=mkT λa:(Int×Int×(List Int))=>⟨112,[(1,(fzE false (eI .i64) p1)),(3,(.ptr 0 0)),(5,(.ptr 1 0)),(6,(.ptr 2 0)),(8,(.sl 3 0 1 (Int.toNat (p1.length:Int)) (some (Int.toNat (p1.length:Int))) (Int.toNat (p1.length:Int)))),(9,(dI a.1)),(22,(fzE false (eI .i64) p1)),(23,(dI (p1.length:Int))),(24,(dI a.2.1))],[.cells [(fzE false (eI .i64) p0.factor.vars),(fzE false (eI .i64) p0.factor.zah),(fzE false (eI .i64) p0.factor.w),(fzE false (eI .i64) p0.steps)],.cells [(.clo 95 [] [])],.cells [zez,zez,zez],.els 1 (a.2.2.map ((eI .i64).c true))]⟩
  refine EvL.rounds (α:=(Int×Int×(List Int))) T9 (λn a=>zaK p1 p0 n a.1 a.2.1 a.2.2=some o8/\a.2.2.length=(Int.toNat (p1.length:Int))) ((p1.length:Int) - 0+2:Int).toNat (1,0,y1) (by rw[hT9]; exact wm0 [.k,.k,.k,.k] ⟨MB.cs ⟨qds,qds,qds,qds,qds⟩,⟨MB.cs ⟨⟨qds,qds⟩,qds⟩,⟨MB.cs ⟨qds,qds,qds,qds⟩,⟨MB.es (eI .i64) true y1,qds⟩⟩⟩⟩) ⟨j8,zbC g2⟩ (λ_ h=>nomatch (show(none:Option (Int×(List Int)))=some o8 from h.1)) ?_;rintro n ⟨v9,v24,l3⟩ ⟨j8,el3⟩;simp only[zaK]at j8;refine wTM hT9 ?_;refine cBM j8 (λ_ j8=>?_) λ_ j8=>?_
  .obtain rfl:=qae j8;exact⟨_,⟨rfl,el3⟩,by rw[hT8]; exact wm0 [.k,.k,.k,.k] ⟨MB.cs ⟨qds,qds,qds,qds,qds⟩,⟨MB.cs ⟨⟨qds,qds⟩,qds⟩,⟨MB.cs ⟨qds,qds,qds,qds⟩,⟨MB.es (eI .i64) true l3,qds⟩⟩⟩⟩⟩
  obtain⟨x4,g5,j8⟩:=bsM j8;obtain⟨r6,g7,j8⟩:=bsM j8;refine sXM (ixM g5) ?_;refine fCM (zaR g7) ?_;obtain⟨x8,g9,j8⟩:=bsM j8;obtain⟨x10,g11,j8⟩:=bsM j8;obtain⟨y12,g13,j8⟩:=bsM j8;refine sXM (anM (ixM g9) (anM el3 (anM (zaZ g11) (anM (ltM el3 g11) (anM (giM g11) (anM (siM g13) (anM ((zaX g13).trans el3) (zcD (zwp g13) ((eI .i64).c true))))))))) ?_;exact⟨((w64 (v9 * x8)),(w64 (v24+1)),y12),⟨j8,(zaX g13).trans el3⟩,by rw[hT9]; exact wm0 [.k,.k,.k,.k] ⟨MB.cs ⟨qds,qds,qds,qds,qds⟩,⟨MB.cs ⟨⟨qds,qds⟩,qds⟩,⟨MB.cs ⟨qds,qds,qds,qds⟩,⟨MB.es (eI .i64) true y12,qds⟩⟩⟩⟩⟩
 rintro⟨v9,l3⟩ ⟨rfl,el3⟩;dsimp only at h;refine wTM hT8 ?_;obtain⟨y14,g15,h⟩:=bsM h;obtain⟨y16,g17,h⟩:=bsM h;refine sXM (anM ((zaD g15).1.1) (anM ((zaD g15).1.2) (anM @qbS (anM (miM g15) (anM ((zaD g17).1.1) (anM ((zaD g17).1.2) (miM g17))))))) ?_;obtain⟨o10,j10,h⟩:=bsM h;obtain⟨T10,hT10⟩:=zcC hT8 λa:(List Int)=>uDM (T8 (v9,l3)) [9] [(12,(.ptr 5 0)),(13,(.sl 6 0 1 (Int.toNat (p0.factor.vars.length:Int)) (some (Int.toNat (p0.factor.vars.length:Int))) (Int.toNat (p0.factor.vars.length:Int))))] [] [.els 1 (y14.map ((eI .i64).c true)),.cells [(.sl 4 0 1 (Int.toNat v9) (some (Int.toNat v9)) (Int.toNat v9))],.els 1 (a.map ((eI .i64).c true))]
 refine EvL.jn T10 (λa=>a=o10/\a.length=(Int.toNat (p0.factor.vars.length:Int))) ?_ ?_
 .refine wSM ?_;obtain⟨T11,hT11⟩:=zcC hT8 λa:(Int×Int×(List Int))=>uDM (T8 (v9,l3)) [9] [(12,(.ptr 5 0)),(13,(.sl 6 0 1 (Int.toNat (p0.factor.vars.length:Int)) (some (Int.toNat (p0.factor.vars.length:Int))) (Int.toNat (p0.factor.vars.length:Int)))),(14,(dI a.1)),(15,(dI a.2.1))] [] [.els 1 (y14.map ((eI .i64).c true)),.cells [(.sl 4 0 1 (Int.toNat v9) (some (Int.toNat v9)) (Int.toNat v9))],.els 1 (a.2.2.map ((eI .i64).c true))]
  refine EvL.rounds (α:=(Int×Int×(List Int))) T11 (λn a=>zaL p1 p0 l3 n a.1 a.2.1 a.2.2=some o10/\a.2.2.length=(Int.toNat (p0.factor.vars.length:Int))) ((w64 ((p1.length:Int) - 1)) - 0+2:Int).toNat (1,(w64 ((p1.length:Int) - 1)),y16) (by rw[hT11]; exact wm0 [.k,.k,.k,.k,.k,.k,.k] ⟨MB.cs ⟨qds,qds,qds,qds,qds⟩,⟨MB.cs ⟨⟨qds,qds⟩,qds⟩,⟨MB.cs ⟨qds,qds,qds,qds⟩,⟨MB.es (eI .i64) true l3,⟨MB.es (eI .i64) true y14,⟨MB.cs ⟨rfl,qds⟩,⟨MB.es (eI .i64) true y16,qds⟩⟩⟩⟩⟩⟩⟩) ⟨j10,zbC g17⟩ (λ_ h=>nomatch (show(none:Option (List Int))=some o10 from h.1)) ?_;rintro n ⟨v14,v15,l6⟩ ⟨j10,el6⟩;simp only[zaL]at j10;refine wTM hT11 ?_;refine cBM j10 (λ_ j10=>?_) λ_ j10=>?_
  .obtain rfl:=qae j10;exact⟨_,⟨rfl,el6⟩,by rw[hT10]; exact wm0 [.k,.k,.k,.k,.k,.k,.k] ⟨MB.cs ⟨qds,qds,qds,qds,qds⟩,⟨MB.cs ⟨⟨qds,qds⟩,qds⟩,⟨MB.cs ⟨qds,qds,qds,qds⟩,⟨MB.es (eI .i64) true l3,⟨MB.es (eI .i64) true y14,⟨MB.cs ⟨rfl,qds⟩,⟨MB.es (eI .i64) true l6,qds⟩⟩⟩⟩⟩⟩⟩⟩
  obtain⟨x19,g20,j10⟩:=bsM j10;obtain⟨r21,g22,j10⟩:=bsM j10;refine sXM (ixM g20) ?_;refine fCM (zaR g22) ?_;obtain⟨x23,g24,j10⟩:=bsM j10;obtain⟨y25,g26,j10⟩:=bsM j10;obtain⟨x27,g28,j10⟩:=bsM j10;refine sXM (anM el6 (anM (zaZ g24) (anM (ltM el6 g24) (anM (giM g24) (anM (siM g26) (anM el3 (anM (zaZ g28) (anM (ltM el3 g28) (giM g28))))))))) ?_;exact⟨((w64 (v14 * x27)),(w64 (v15 - 1)),y25),⟨j10,(zaX g26).trans el6⟩,by rw[hT11]; exact wm0 [.k,.k,.k,.k,.k,.k,.k] ⟨MB.cs ⟨qds,qds,qds,qds,qds⟩,⟨MB.cs ⟨⟨qds,qds⟩,qds⟩,⟨MB.cs ⟨qds,qds,qds,qds⟩,⟨MB.es (eI .i64) true l3,⟨MB.es (eI .i64) true y14,⟨MB.cs ⟨rfl,qds⟩,⟨MB.es (eI .i64) true y25,qds⟩⟩⟩⟩⟩⟩⟩⟩
 rintro l6 ⟨rfl,el6⟩;refine wTM hT10 ?_;refine EvL.zgd (S':=⟨112,[(1,(fzE false (eI .i64) p1)),(3,(.ptr 0 0)),(5,(.ptr 1 0)),(6,(.ptr 2 0)),(8,(.sl 3 0 1 (Int.toNat (p1.length:Int)) (some (Int.toNat (p1.length:Int))) (Int.toNat (p1.length:Int)))),(12,(.ptr 5 0)),(16,(.ptr 7 0)),(78,(fzE false (eI .i64) p0.factor.zah)),(79,(fzE true (eI .i64) l6))],[.cells [(fzE false (eI .i64) p0.factor.vars),(fzE false (eI .i64) p0.factor.zah),(fzE false (eI .i64) p0.factor.w),(fzE false (eI .i64) p0.steps)],.cells [(.clo 95 [] [])],.cells [zez,zez,zez],.els 1 (l3.map ((eI .i64).c true)),.els 1 (y14.map ((eI .i64).c true)),.cells [(.sl 4 0 1 (Int.toNat v9) (some (Int.toNat v9)) (Int.toNat v9))],.gone,.cells [(dB true)]]⟩) (za8.m0 [.k,.k,.k,.k,.k,.k,.f,.k] rfl (msq (msq (msq (msq (msq (msq (msq (msq (mf rfl (zhz (e:=(eI .i64)) (t:=true) rfl rfl (.inl rfl) (el6).symm (el6).symm (λk h=>by cases h; exact qap _) (λh=>by cases h<;>rfl)) trivial))))))))) ⟨MB.cs ⟨qds,qds,qds,qds,qds⟩,⟨MB.cs ⟨⟨qds,qds⟩,qds⟩,⟨MB.cs ⟨qds,qds,qds,qds⟩,⟨MB.es (eI .i64) true l3,⟨MB.es (eI .i64) true y14,⟨MB.cs ⟨rfl,qds⟩,⟨rfl,⟨MB.cs ⟨qds,qds⟩,qds⟩⟩⟩⟩⟩⟩⟩⟩) (zad ?_);obtain⟨r29,g30,h⟩:=bsM h;refine sSM ?_;refine fDM (zdq g30) ?_;obtain⟨o13,j13,h⟩:=bsM h;obtain⟨T13,hT13⟩:=zcC hT10 λa:(Bool×(List Int))=>uDM (T10 l6) [3,5,13] [(16,(.ptr 7 0))] [(0,.gone),(1,.gone),(4,.els 1 (a.2.map ((eI .i64).c true))),(6,.gone)] [.cells [(dB a.1)]]
 refine EvL.jn T13 (λa=>a=o13/\a.2.length=(Int.toNat v9)) ?_ ?_
 .refine wSM ?_;obtain⟨u31,g32,j13⟩:=bsM j13;obtain⟨o14,j14,j13⟩:=bsM j13;obtain⟨T14,hM14⟩:∃ T:(List Int)->List LB,T=(λa=>[.cells [(fzE false (eI .i64) p0.factor.vars),(fzE false (eI .i64) p0.factor.zah),(fzE false (eI .i64) p0.factor.w),(fzE false (eI .i64) p0.steps)],.cells [(.clo 95 [] [])],.cells [zez,zez,zez],.els 1 (l3.map ((eI .i64).c true)),.els 1 (a.map ((eI .i64).c true)),.cells [(.sl 4 0 1 (Int.toNat v9) (some (Int.toNat v9)) (Int.toNat v9))],.gone,.cells [(dB true)]]):=⟨_,rfl⟩;obtain⟨TX14,hMX14⟩:∃ T:(List Int)->List LB,T=(λa=>[.cells [(fzE false (eI .i64) p0.factor.vars),(fzE false (eI .i64) p0.factor.zah),(fzE false (eI .i64) p0.factor.w),(fzE false (eI .i64) p0.steps)],.cells [(.clo 95 [] [])],.cells [zez,zez,zez],.els 1 (l3.map ((eI .i64).c true)),.els 1 (a.map ((eI .i64).c true)),.cells [(.sl 4 0 1 (Int.toNat v9) (some (Int.toNat v9)) (Int.toNat v9))],.gone,.cells [(dB false)]]):=⟨_,rfl⟩;refine EvL.zgd (S':=⟨112,[(1,(fzE false (eI .i64) p1)),(3,(.ptr 0 0)),(5,(.ptr 1 0)),(6,(.ptr 2 0)),(8,(.sl 3 0 1 (Int.toNat (p1.length:Int)) (some (Int.toNat (p1.length:Int))) (Int.toNat (p1.length:Int)))),(12,(.ptr 5 0)),(16,(.ptr 7 0)),(80,(.clo 125 [] [(.fptr false ((eL (eI .i64)).c false r29.1)),(.fptr false ((eL (eI .i64)).c false r29.2))]))],T14 y14⟩) (by rw[hM14]; exact wm0 [.k,.k,.k,.k,.k,.k,.k,.k] ⟨MB.cs ⟨qds,qds,qds,qds,qds⟩,⟨MB.cs ⟨⟨qds,qds⟩,qds⟩,⟨MB.cs ⟨qds,qds,qds,qds⟩,⟨MB.es (eI .i64) true l3,⟨MB.es (eI .i64) true y14,⟨MB.cs ⟨rfl,qds⟩,⟨MB.same trivial,⟨MB.cs ⟨qds,qds⟩,qds⟩⟩⟩⟩⟩⟩⟩⟩) ?_;refine EvL.zhd (n0:=8) (zcZ g32) rfl (bm:=.block 5 (.seq (.reg true true [⟨some 84,.load none (.s 12),none⟩,⟨some 85,.mov (.s 18),none⟩,⟨some 86,.fld 0 (.s 5),none⟩,⟨some 87,.load none (.s 86),none⟩,⟨some 88,.load none (.s 12),none⟩,⟨some 89,.mov (.s 18),none⟩,⟨some 90,.idxS 1 (.s 88) (.s 89),none⟩,⟨some 91,.load none (.s 90),none⟩,⟨some 92,.fld 0 (.s 3),none⟩,⟨some 93,.fld 2 (.s 92),none⟩,⟨some 94,.load none (.s 93),none⟩,⟨some 95,.mov (.s 17),none⟩,⟨some 96,.idxS 1 (.s 94) (.s 95),none⟩,⟨some 97,.load none (.s 96),none⟩,⟨some 98,.zej (.s 87) [(.s 91),(.s 97)],none⟩,⟨some 83,.mov (.s 98),none⟩,⟨some 99,.ext (.s 83) 0,none⟩,⟨some 100,.ext (.s 83) 1,none⟩,⟨some 101,.idxS 1 (.s 84) (.s 85),none⟩,⟨none,.store 1 (.s 101) (.s 99),none⟩,⟨none,.store 1 (.s 16) (.s 100),none⟩]) (.block 6 (.seq (.reg false false [⟨some 103,.load none (.s 16),none⟩,⟨some 104,.un .not (.s 103),none⟩,⟨some 102,.mov (.s 104),none⟩]) (.cond (.s 102) (.exit 4) (.skip)))))) rfl T14 (λi a=>zaB p0 v9 (u31.drop i) a=some o14/\a.length=(Int.toNat v9)) (λx L1=>match x with | .normal=>∃ a,o14=.go a/\a.length=(Int.toNat v9)/\L1=T14 a | .exit id=>∃ a,o14=.brk a/\a.length=(Int.toNat v9)/\id=4/\L1=TX14 a | .ret=>L1.length=8/\zdw (8+1) L1/\(zuD [.cell 6 (some 3),.tmp 7] ((.tup [(.agg [(fzE false (eI .i64) r.1.vars),(fzE false (eI .i64) r.1.zah),(fzE false (eI .i64) r.1.w)]),(dI r.2)]))) .ret ⟨112,[(1,(fzE false (eI .i64) p1)),(3,(.ptr 0 0)),(5,(.ptr 1 0)),(6,(.ptr 2 0)),(8,(.sl 3 0 1 (Int.toNat (p1.length:Int)) (some (Int.toNat (p1.length:Int))) (Int.toNat (p1.length:Int)))),(12,(.ptr 5 0)),(16,(.ptr 7 0)),(80,(.clo 125 [] [(.fptr false ((eL (eI .i64)).c false r29.1)),(.fptr false ((eL (eI .i64)).c false r29.2))]))],L1 ++ [.lost]⟩| _=>False) y14 ?_ (qar _) ?_ ?_ ?_ (λd L1 hx=>hx.elim) ?_ ?_ ?_ ?_ ?_ ?_
  .intro a; rw[hM14]; rfl
  .exact⟨qds,(qad rfl),(qad rfl),(qad rfl),(qad rfl),(qad rfl),(qad rfl),⟨qds,⟨qds,qds,qds⟩⟩,qds⟩
  .intro a; rw[hM14]; exact⟨⟨qds,qds,qds,qds,qds⟩,⟨⟨qds,qds⟩,qds⟩,⟨qds,qds,qds,qds⟩,(zea (eI .i64) _ _ _),(zea (eI .i64) _ _ _),⟨(qad rfl),qds⟩,qds,⟨qds,qds⟩,qds⟩
  .intro x L1 hx;cases x with
   | normal=>obtain⟨a,_,_,rfl⟩:=hx; exact⟨by rw[hM14]; rfl,by rw[hM14]; exact⟨⟨qds,qds,qds,qds,qds⟩,⟨⟨qds,qds⟩,qds⟩,⟨qds,qds,qds,qds⟩,(zea (eI .i64) _ _ _),(zea (eI .i64) _ _ _),⟨(qad rfl),qds⟩,qds,⟨qds,qds⟩,qds⟩⟩
   | ret=>exact⟨hx.1,hx.2.1⟩
   | exit id=>obtain⟨a,_,_,_,rfl⟩:=hx; exact⟨by rw[hMX14]; rfl,by rw[hMX14]; exact⟨⟨qds,qds,qds,qds,qds⟩,⟨⟨qds,qds⟩,qds⟩,⟨qds,qds,qds,qds⟩,(zea (eI .i64) _ _ _),(zea (eI .i64) _ _ _),⟨(qad rfl),qds⟩,qds,⟨qds,qds⟩,qds⟩⟩
   | panic d=>exact hx.elim
  .exact⟨j14,zbC g15⟩
  .rintro i l4 y33 args G lpF hy ⟨hi14,el4⟩ ⟨rfl,rfl⟩ hkin;rw[zf4 hy]at hi14;simp only[zaB]at hi14;refine⟨_,_,rfl,rfl,?_⟩;rw[congrFun hM14 l4];refine zad ?_;obtain⟨x34,g35,hi14⟩:=bsM hi14;obtain⟨x36,g37,hi14⟩:=bsM hi14;obtain⟨r38,g39,hi14⟩:=bsM hi14;refine sXM (anM el4 (anM (zaZ g35) (anM (ltM el4 g35) (anM (giM g35) (ixM g37))))) ?_;refine EvL.fnv rfl rfl (zl2 g39) rfl (.cons (.lit _) (.cons (.lit _) .nil)) ?_;obtain⟨y40,g41,hi14⟩:=bsM hi14;refine sXM (anM el4 (anM (zaZ g35) (anM (ltM el4 g35) (anM (giM g35) (siM g41))))) ?_;refine cBM hi14 (λ_ hi14=>?_) λ_ hi14=>?_
   .obtain rfl:=qae hi14;exact⟨TX14 y40,by rw[hMX14]; rfl,by rw[hMX14]; exact za8.mK [.k,.k,.k,.k,.k,.k,.k,.k,.k,.k] rfl rfl qds ⟨MB.cs ⟨qds,qds,qds,qds,qds⟩,⟨MB.cs ⟨⟨qds,qds⟩,qds⟩,⟨MB.cs ⟨qds,qds,qds,qds⟩,⟨MB.es (eI .i64) true l3,⟨MB.es (eI .i64) true y40,⟨MB.cs ⟨rfl,qds⟩,⟨MB.same trivial,⟨MB.cs ⟨qds,qds⟩,⟨.same (hkin _ (by decide)),⟨MB.same (zeP _ _ _ _),qds⟩⟩⟩⟩⟩⟩⟩⟩⟩⟩,y40,rfl,(zaX g41).trans el4,rfl⟩
   exact⟨T14 y40,by rw[hM14]; rfl,by rw[hM14]; exact za8.mK [.k,.k,.k,.k,.k,.k,.k,.k,.k,.k] rfl rfl qds ⟨MB.cs ⟨qds,qds,qds,qds,qds⟩,⟨MB.cs ⟨⟨qds,qds⟩,qds⟩,⟨MB.cs ⟨qds,qds,qds,qds⟩,⟨MB.es (eI .i64) true l3,⟨MB.es (eI .i64) true y40,⟨MB.cs ⟨rfl,qds⟩,⟨MB.same trivial,⟨MB.cs ⟨qds,qds⟩,⟨.same (hkin _ (by decide)),⟨MB.same (zeP _ _ _ _),qds⟩⟩⟩⟩⟩⟩⟩⟩⟩⟩,y40,⟨hi14,(zaX g41).trans el4⟩,rfl⟩
  .rintro l4 ⟨hi14,el4⟩;rw[qbx]at hi14;simp only[zaB]at hi14;exact⟨l4,(qae hi14).symm,el4,rfl⟩
  .rintro _ ⟨l4,oeq,el4,rfl⟩;have oeq2:=oeq.symm;subst oeq2;dsimp only at j13;rw[congrFun hM14 l4];refine wSM ?_;obtain rfl:=qae j13;exact zcr hT13 _ ⟨rfl,el4⟩
  .rintro id _ ⟨l4,oeq,el4,rfl,rfl⟩;rw[oeq]at j13;dsimp only at j13;rw[congrFun hMX14 l4];refine wSM ?_;obtain rfl:=qae j13;exact zcr hT13 _ ⟨rfl,el4⟩
  intro L1 hx; exact hx.2.2
 rintro⟨b7_0,l4⟩ ⟨rfl,el4⟩;dsimp only at h;refine wTM hT13 ?_;refine cBM h (λ_ h=>?_) λ_ h=>?_
 .exact rHM h
 exact rHM h
def zdr(p0:S_api_Factor)(p1:Int):Option (S_api_Factor×Int):=
(zbV p0).bind λr1=>
bif (r1.2 == 0)then(
(zat r1.1 p1).bind λr4=>
bif (decide (r4<0))then(
some ((S_api_Factor.mk [] [] []),4))
else(
(zeB 8 r1.1.factor.vars).bind λy7=>
(zvW y7 r4 (w64 (r4+1))).bind λy9=>
(zbo r1.1 y9).bind λr11=>
some (r11.1,r11.2)))
else(
some ((S_api_Factor.mk [] [] []),r1.2))
variable{p0:S_api_Factor}
theorem zhT{p1:Int}(h:zdr p0 p1=some r):Lx.FnA mC 113 [(.agg [(fzE false (eI .i64) p0.vars),(fzE false (eI .i64) p0.zah),(fzE false (eI .i64) p0.w)]),(dI p1),(.agg [(.clo 95 [] [])])] (.tup [(.agg [(fzE false (eI .i64) r.1.vars),(fzE false (eI .i64) r.1.zah),(fzE false (eI .i64) r.1.w)]),(dI r.2)]):=by
 refine zz4 ?_;unfold zdr at h;refine zad ?_;obtain⟨r1,g2,h⟩:=bsM h;refine sSM ?_;refine fDM (zeu g2) ?_;refine cBM h (λ_ h=>?_) λ_ h=>?_
 .exact rHM h
 obtain⟨r4,g5,h⟩:=bsM h;refine sSM ?_;refine fCM (zaR g5) ?_;refine cBM h (λ_ h=>?_) λ_ h=>?_
 .obtain⟨y7,g8,h⟩:=bsM h;refine sSM ?_;refine EvL.clone (t:=false) (zs:=r1.1.factor.vars) g8 rfl rfl ?_;obtain⟨y9,g10,h⟩:=bsM h;refine sSM ?_;refine EvL.delete (zs:=y7) (t:=true) g10 rfl rfl rfl rfl rfl rfl ?_;refine EvL.zgd (S':=⟨39,[(6,(.ptr 2 0)),(26,(.agg [(fzE false (eI .i64) r1.1.factor.vars),(fzE false (eI .i64) r1.1.factor.zah),(fzE false (eI .i64) r1.1.factor.w),(fzE false (eI .i64) r1.1.steps)])),(34,(fzE true (eI .i64) y9)),(35,(.agg [(.clo 95 [] [])]))],[.gone,.gone,.cells [zez,zez,zez]]⟩) (za8.m0 [.d,.d,.k,.d,.f] rfl (msq (ms rfl ⟨qds,qds,qds,qds,qds⟩ (mf rfl (zmU (xs:=y7) (ys:=y9) (t:=true) (zp0 g10) rfl rfl rfl (λ_=>rfl)) (ms rfl ⟨⟨qds,qds⟩,qds⟩ trivial)))) ⟨rfl,⟨rfl,⟨MB.cs ⟨qds,qds,qds,qds⟩,qds⟩⟩⟩) (zad ?_);obtain⟨r11,g12,h⟩:=bsM h;refine sSM ?_;refine EvL.fnS (zfC g12) rfl rfl (.cons (Mzs.agg (.cons (zdX _ _ (λh=>by cases h<;>contradiction)) (.cons (zdX _ _ (λh=>by cases h<;>contradiction)) (.cons (zdX _ _ (λh=>by cases h<;>contradiction)) (.cons (zdX _ _ (λh=>by cases h<;>contradiction)) .nil))))) (.cons (zdX _ _ (λh=>by cases h<;>contradiction)) (.cons (Mzs.agg (.cons zwq .nil)) .nil))) ⟨⟨(zcz _ _),(zcz _ _),(zcz _ _),(zcz _ _),qds⟩,(zcz _ _),⟨⟨qds,qds⟩,qds⟩,qds⟩ ⟨⟨(zcz _ _),(zcz _ _),(zcz _ _),qds⟩,qds,qds⟩ ?_;refine sSM ?_;exact rHM h
 exact rHM h
def zb3(p0:S_api_Factor)(p1:Int):Option (S_api_Factor×Int):=
(zdr p0 p1).bind λr1=>
some (r1.1,r1.2)
theorem zjf{p1:Int}(h:zb3 p0 p1=some r):Lx.FnA mC 82 [(.agg [(fzE false (eI .i64) p0.vars),(fzE false (eI .i64) p0.zah),(fzE false (eI .i64) p0.w)]),(dI p1)] (.tup [(.agg [(fzE false (eI .i64) r.1.vars),(fzE false (eI .i64) r.1.zah),(fzE false (eI .i64) r.1.w)]),(dI r.2)]):=by
 refine zz4 ?_;unfold zb3 at h;refine zad ?_;obtain⟨r1,g2,h⟩:=bsM h;refine sSM ?_;refine EvL.fnS (zhT g2) rfl rfl (.cons (Mzs.agg (.cons (zdX _ _ (λh=>by cases h<;>contradiction)) (.cons (zdX _ _ (λh=>by cases h<;>contradiction)) (.cons (zdX _ _ (λh=>by cases h<;>contradiction)) .nil)))) (.cons (.lit _) (.cons (Mzs.agg (.cons zwq .nil)) .nil))) ⟨⟨(zcz _ _),(zcz _ _),(zcz _ _),qds⟩,qds,⟨⟨qds,qds⟩,qds⟩,qds⟩ ⟨⟨(zcz _ _),(zcz _ _),(zcz _ _),qds⟩,qds,qds⟩ ?_;refine sSM ?_;exact rHM h
end Go.Dc
