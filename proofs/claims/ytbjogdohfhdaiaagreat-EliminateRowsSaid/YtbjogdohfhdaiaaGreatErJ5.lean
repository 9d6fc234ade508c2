/-
 What r05_row computes. Conditions: none.
-/
import Derived.Test.YtbjogdohfhdaiaaGreatErJ1
import Derived.Test.YtbjogdohfhdaiaaGreatErJ3
import Derived.Test.YtbjogdohfhdaiaaGreatErJ2
set_option linter.unusedSimpArgs false
set_option linter.unusedVariables false
set_option maxRecDepth 100000
set_option maxHeartbeats 4000000
namespace Go.Dc
open Go Go.Mx Go.Lx Go.Proofs
def zdO(p1:Int)(p2:(List Int))(p3:Int):Nat->Int->Int->(List Int)->Option (Int×(List Int))
 | 0,_,_,_=>none
 | n+1,v10,v11,l0=>(
bif (decide (v11<p1))then(
((bif (decide (0<(p2.length:Int)))then(
(zp3 (w64 (p3+v11)) (p2.length:Int)).bind λq5=>
(zaE p2 q5).bind λx7=>
(zaE l0 v11).bind λx9=>
(zeT l0 v11 (w64 (x7.tmod 8))).bind λy11=>
some y11)
else(
some l0):Option (List Int))).bind λl0'=>
(zaE l0' v11).bind λx13=>
zdO p1 p2 p3 n (w64 (v10+x13)) (w64 (v11+1)) l0')
else(
some (v10,l0)))
def zeo(p1:Int)(p0:Int)(v10:Int):Nat->Int->Int->Int->(List Int)->Option (Int×Int×(List Int))
 | 0,_,_,_,_=>none
 | n+1,v12,v13,v14,l0'=>(
bif (decide (v14<p1))then(
(zaE l0' v14).bind λx16=>
((bif (decide (0<x16))then(
(zkp .i64 (w64 (p0 * x16)) v10).bind λq19=>
(zeT l0' v14 q19).bind λy21=>
some (v14,y21))
else(
some (v13,l0')):Option ((Int×(List Int))))).bind λo=>match o with
|(v13',l0'')=>(
(zaE l0'' v14).bind λx23=>
zeo p1 p0 v10 n (w64 (v12 - x23)) v13' (w64 (v14+1)) l0''))
else(
some (v12,v13,l0')))
def zgy(p0:Int)(p1:Int)(p2:(List Int))(p3:Int):Option (List Int):=
(zd7 8 p1 0).bind λy1=>
((zdO p1 p2 p3 (p1 - 0+2:Int).toNat 0 0 y1:Option ((Int×(List Int))))).bind λo=>match o with
|(v10,l0)=>(
((zeo p1 p0 v10 (p1 - 0+2:Int).toNat p0 0 0 l0:Option ((Int×Int×(List Int))))).bind λo=>match o with
|(v12,v13,l0')=>(
(zaE l0' v13).bind λx25=>
(zeT l0' v13 (w64 (x25+v12))).bind λy27=>
some y27))
theorem ztz{p0:Int}{p1:Int}{p2:(List Int)}{p3:Int}{r:(List Int)}(h:zgy p0 p1 p2 p3=some r):Lx.Fn mC 38 [(dI p0),(dI p1),(fzE false (eI .u8) p2),(dI p3)] (fzE true (eI .i64) r):=by
 refine gnO ?_;unfold zgy at h;refine zad ?_;obtain⟨y1,g2,h⟩:=bsM h;refine sXM (anM ((zar g2).1.1) (anM ((zar g2).1.2) (anM @qbI (miM g2)))) ?_;obtain⟨o4,j4,h⟩:=bsM h;refine usM [0,1,9] 1 (λa:(Int×(List Int))=>([(10,(dI a.1))],[(0,.els 1 (a.2.map ((eI .i64).c true)))],[])) λT4 hT4=>?_
 refine EvL.jn T4 (λa=>a=o4/\a.2.length=(Int.toNat p1)) ?_ ?_
 .refine wSM ?_;refine usM [0,1,2,3,9] 1 (λa:(Int×Int×(List Int))=>([(10,(dI a.1)),(11,(dI a.2.1))],[(0,.els 1 (a.2.2.map ((eI .i64).c true)))],[])) λT7 hT7=>?_
  refine rdM hT7 (λn a=>zdO p1 p2 p3 n a.1 a.2.1 a.2.2=some o4/\a.2.2.length=(Int.toNat p1)) (0,0,y1) ⟨j4,zbh g2⟩ ?_;rintro n ⟨v10,v11,l0⟩ ⟨j4,el0⟩;simp only[zdO]at j4;refine wTM hT7 ?_;refine cBM j4 (λ_ j4=>?_) λ_ j4=>?_
  .obtain rfl:=qaf j4;exact zcz hT4 _ ⟨rfl,el0⟩
  obtain⟨o8,j8,j4⟩:=bsM j4;obtain⟨T8,hT8⟩:=zdp hT7 λa:(List Int)=>uDM (T7 (v10,v11,l0)) [] [] [(0,.els 1 (a.map ((eI .i64).c true)))] []
  refine EvL.jn T8 (λa=>a=o8/\a.length=(Int.toNat p1)) ?_ ?_
  .refine wSM ?_;refine cBM j8 (λ_ j8=>?_) λ_ j8=>?_
   .obtain rfl:=qaf j8;exact zcz hT8 _ ⟨rfl,el0⟩
   obtain⟨q5,g6,x7,g8,x9,g10,j8⟩:=zjp j8;obtain⟨y11,g12,j8⟩:=bsM j8;refine sXM (anM (zhy g6) (anM (zgD g6) (anM (zaz (n:=1) (e:=(eI .u8)) rfl g8) (anM el0 (anM (za2 g10) (anM (ltM el0 g10) (anM (giM g10) (siM g12)))))))) ?_;obtain rfl:=qaf j8;exact zcz hT8 _ ⟨rfl,(zaS g12).trans el0⟩
  rintro l0' ⟨rfl,el0'⟩;refine wTM hT8 ?_;obtain⟨x13,g14,j4⟩:=bsM j4;refine sXM (anM el0' (anM (za2 g14) (anM (ltM el0' g14) (giM g14)))) ?_;exact zcz hT7 ((w64 (v10+x13)),(w64 (v11+1)),l0') ⟨j4,el0'⟩
 rintro⟨v10,l0⟩ ⟨rfl,el0⟩;dsimp only at h;refine wTM hT4 ?_;obtain⟨o13,j13,h⟩:=bsM h;obtain⟨T13,hT13⟩:=zdp hT4 λa:(Int×Int×(List Int))=>uKM (T4 (v10,l0)) [9] [(12,(dI a.1)),(13,(dI a.2.1))] [(0,.els 1 (a.2.2.map ((eI .i64).c true)))] []
 refine EvL.jn T13 (λa=>a=o13/\a.2.2.length=(Int.toNat p1)) ?_ ?_
 .refine wSM ?_;obtain⟨T17,hT17⟩:=zdp hT4 λa:(Int×Int×Int×(List Int))=>uDM (T4 (v10,l0)) [] [(12,(dI a.1)),(13,(dI a.2.1)),(14,(dI a.2.2.1))] [(0,.els 1 (a.2.2.2.map ((eI .i64).c true)))] []
  refine rdM hT17 (λn a=>zeo p1 p0 v10 n a.1 a.2.1 a.2.2.1 a.2.2.2=some o13/\a.2.2.2.length=(Int.toNat p1)) (p0,0,0,l0) ⟨j13,el0⟩ ?_;rintro n ⟨v12,v13,v14,l0'⟩ ⟨j13,el0'⟩;simp only[zeo]at j13;refine wTM hT17 ?_;refine cBM j13 (λ_ j13=>?_) λ_ j13=>?_
  .obtain rfl:=qaf j13;exact zcz hT13 _ ⟨rfl,el0'⟩
  obtain⟨x16,g17,j13⟩:=bsM j13;refine sXM (anM el0' (anM (za2 g17) (anM (ltM el0' g17) (giM g17)))) ?_;obtain⟨o18,j18,j13⟩:=bsM j13;obtain⟨T18,hT18⟩:=zdp hT17 λa:(Int×(List Int))=>uDM (T17 (v12,v13,v14,l0')) [13] [(13,(dI a.1))] [(0,.els 1 (a.2.map ((eI .i64).c true)))] []
  refine EvL.jn T18 (λa=>a=o18/\a.2.length=(Int.toNat p1)) ?_ ?_
  .refine wSM ?_;refine cBM j18 (λ_ j18=>?_) λ_ j18=>?_
   .obtain rfl:=qaf j18;exact zcz hT18 _ ⟨rfl,el0'⟩
   obtain⟨q19,g20,y21,g22,j18⟩:=zgs j18;refine sXM (anM el0' (anM (za2 g17) (anM (ltM el0' g17) (anM (giM g17) (anM (zfe g20) (anM (zfg g20) (siM g22))))))) ?_;obtain rfl:=qaf j18;exact zcz hT18 _ ⟨rfl,(zaS g22).trans el0'⟩
  rintro⟨v13',l0''⟩ ⟨rfl,el0''⟩;dsimp only at j13;refine wTM hT18 ?_;obtain⟨x23,g24,j13⟩:=bsM j13;refine sXM (anM el0'' (anM (za2 g24) (anM (ltM el0'' g24) (giM g24)))) ?_;exact zcz hT17 ((w64 (v12 - x23)),v13',(w64 (v14+1)),l0'') ⟨j13,el0''⟩
 rintro⟨v12,v13,l0'⟩ ⟨rfl,el0'⟩;dsimp only at h;refine wTM hT13 ?_;obtain⟨x25,g26,y27,g28,h⟩:=zgs h;refine sXM (anM el0' (anM (za2 g26) (anM (ltM el0' g26) (anM (giM g26) (siM g28))))) ?_;exact rHM h
end Go.Dc
namespace Go.Dc
open Go Go.Mx Go.Lx
theorem zi1{xs:List Nat}{i v:Nat}(h:i<xs.length):zeT (iL xs) (i:Int) (v:Int)=some (iL (xs.set i v)):=by
 simp_all [zfr,iL]
theorem zwq(xs ys:List Nat):iL (xs ++ ys)=iL xs ++ iL ys:=by simp[iL]
theorem zxB:∀ {xs:List Nat} {i k:Nat} (h:i<xs.length),(xs.set i (xs[i]+k)).sum=xs.sum+k
 | [],i,k,h=>absurd h (qam _)
 | x :: xs,0,k,h=>by simp; omega
 | x :: xs,i+1,k,h=>by
  have:=zxB (xs:=xs) (i:=i) (k:=k) (by simpa using h)
  grind
theorem zl1:∀ {xs:List Nat} {i:Nat} (h:i<xs.length),xs[i]<=xs.sum
 | [],i,h=>absurd h (qam _)
 | x :: xs,0,h=>by simp
 | x :: xs,i+1,h=>by
  have:=zl1 (xs:=xs) (i:=i) (by simpa using h)
  grind
variable{xs0 bs:List Nat}
theorem zeV{x:Nat}:zaE (iL (xs0 ++ x :: bs)) ((xs0.length:Nat):Int)=some (x:Int):=by
 rw[za5 (by simp)]; simp
theorem zjL{x y:Nat}:zeT (iL (xs0 ++ x :: bs)) ((xs0.length:Nat):Int) (y:Int)=some (iL (xs0 ++ y :: bs)):=by
 rw[zi1 (by simp)]; simp
theorem zgC{a b:Nat}(hb:0<b):zp3 (a:Int) (b:Int)=some ((a % b:Nat):Int):=by
 grind [zp3]
theorem zsF(a b:Nat):(a:Int).tmod (b:Int)=((a % b:Nat):Int):=rfl
theorem zHQ{ws:List Nat}{g p c:Nat}(hp:p<=65536)(hc:c<=8):∀(n:Nat) (xs0:List Nat) (k:Nat),xs0.length+k=c->xs0.sum<=7 * xs0.length->k<n ->
  ∃ zs:List Nat,zs.length=c/\zs.sum<=7 * c/\zdO (c:Int) (iL ws) (p:Int) n ((xs0.sum:Nat):Int) (xs0.length:Int) (iL (xs0 ++ List.replicate k 0))=some (((zs.sum:Nat):Int),iL zs)
 | 0,_,_,_,_,h=>absurd h (qam _)
 | n+1,xs0,0,h1,h2,h3=>by
  grind [zdO]
 | n+1,xs0,k+1,h1,h2,h3=>by
  have step:∀ a:Nat,a<=7->∃ zs:List Nat,zs.length=c/\zs.sum<=7 * c/\zdO (c:Int) (iL ws) (p:Int) n (w64 (((xs0.sum:Nat):Int)+(a:Int))) (w64 ((xs0.length:Int)+1)) (iL (xs0 ++ a :: List.replicate k 0))=some (((zs.sum:Nat):Int),iL zs):=by
   intro a ha;obtain⟨zs,e1,e2,e3⟩:=zHQ (ws:=ws) (g:=g) hp hc n (xs0 ++ [a]) k (by simp; omega) (by simp; omega) (by omega);refine⟨zs,e1,e2,?_⟩<;> grind [zaC]
  unfold zdO;rw[zaT,qdv (by omega),qdt,zal,qaX];by_cases h0:0<ws.length
  .have hq:(p+xs0.length) % ws.length<ws.length:=qa7 _ h0;obtain⟨zs,e1,e2,e3⟩:=step (ws[(p+xs0.length) % ws.length] % 8) (by omega);refine⟨zs,e1,e2,?_⟩
   rw[show decide ((0:Int)<(ws.length:Int))=true by simpa using h0,qdt,<- qb3,zaC (by omega),zgC h0,qaa,za5 hq,qaa,zeV,
    qaa,show(((ws[(p+xs0.length) % ws.length]:Nat):Int).tmod 8)=((ws[(p+xs0.length) % ws.length] % 8:Nat):Int)from rfl,zaC (by omega),zjL,
    qaa,qaa,zeV,qaa,e3]
  obtain⟨zs,e1,e2,e3⟩:=step 0 (by omega)
  grind [zeV]
theorem zHG{g t c:Nat}(hg:g<=60)(hc:c<=8)(ht:t<=65536):∀(n:Nat) (xs0 bs:List Nat) (m:Nat) (v:Nat),xs0.length+bs.length=c->xs0.sum * t+g * bs.sum<=g * t->bs.sum<=t->xs0.sum<=g->v<c->bs.length<n ->
  ∃(zs:List Nat) (v':Nat),zs.length=c/\zs.sum<=g/\v'<c/\zeo (c:Int) (g:Int) (t:Int) n ((g - xs0.sum:Nat):Int) (v:Int) (xs0.length:Int) (iL (xs0 ++ bs))=some (((g - zs.sum:Nat):Int),(v':Int),iL zs)
 | 0,_,_,_,_,_,_,_,_,_,h=>absurd h (qam _)
 | n+1,xs0,[],m,v,h1,h2,h2b,h3,h4,h5=>by
  grind [zeo]
 | n+1,xs0,b :: bs,m,v,h1,h2,h2b,h3,h4,h5=>by
  simp only[qaB,qc8]at h1 h2 h2b h5;unfold zeo;rw[zaT,qdv (by omega),qdt,zeV,qaa];by_cases h0:0<b
  .have hb:b<=t:=by omega
   have hgb:g * b<=60 * 65536:=qbi hg (by omega);have hd:g * b / t * t<=g * b:=Nat.div_mul_le_self _ _;have hs:xs0.sum+g * b / t<=g:=by
    have h6:(xs0.sum+g * b / t)* t<=g * t:=by
     rw[qaQ];have:g * (b+bs.sum)=g * b+g * bs.sum:=qdc _ _ _;omega
    exact qcr h6 (by omega)
   obtain⟨zs,v',e1,e2,e3,e4⟩:=zHG hg hc ht n (xs0 ++ [g * b / t]) bs m xs0.length (by simp; omega) (by
    have:g * (b+bs.sum)=g * b+g * bs.sum:=qdc _ _ _
    simp only[List.sum_append,qc8,List.sum_nil,qbH,qaQ]; omega) (by omega) (by simpa using hs) (by omega) (by omega)
   refine⟨zs,v',e1,e2,e3,?_⟩;have hq:zkp .i64 (w64 ((g:Int)* (b:Int))) (t:Int)=some ((g * b / t:Nat):Int):=by
    unfold zkp;have:((t:Int)== 0)=false:=by simp; omega
    rw[this,qdu,<- qaZ,zaC (by omega)];have hle:g * b / t<=g * b:=qcC _ _;exact congrArg some (zaC (n:=g * b / t) (by omega))
   rw[show decide ((0:Int)<(b:Int))=true by simpa using h0,qdt,hq,qaa,zjL,qaa,qaa];simp only[];rw[zeV,qaa,zai (by omega),show(((g - xs0.sum:Nat):Int) - ((g * b / t:Nat):Int))=((g - (xs0.sum+g * b / t):Nat):Int) by omega,zaC (qbT (Nat.sub_le _ _) (by omega)),<- e4];simp
  have hb:b=0:=by omega
  subst hb;obtain⟨zs,v',e1,e2,e3,e4⟩:=zHG hg hc ht n (xs0 ++ [0]) bs m v (by simp; omega) (by simp at h2 ⊢; omega) (by omega) (by simpa using h3) h4 (by omega);refine⟨zs,v',e1,e2,e3,?_⟩;rw[show decide ((0:Int)<((0:Nat):Int))=false from rfl,qdu,qaa];simp only[];rw[zeV,qaa,zai (by omega),<- Int.ofNat_sub (by omega),zaC (by omega),<- e4];simp
theorem zBl{ws:List Nat}{g p c:Nat}(hg:g<=60)(hp:p<=65536)(h1:1<=c)(hc:c<=8):
  ∃ zs:List Nat,zs.length=c/\zs.sum=g/\zgy (g:Int) (c:Int) (iL ws) (p:Int)=some (iL zs):=by
 obtain⟨zs,e1,e2,e3⟩:=zHQ (ws:=ws) (g:=g) hp hc (c+2) [] c (by simp) (by simp) (by omega);obtain⟨ys,v,f1,f2,f3,f4⟩:=zHG (g:=g) (t:=zs.sum) (c:=c) hg hc (by omega) (c+2) [] zs 0 0 (by simp[e1]) (by simp) (qap _) (by simp) (by omega) (by omega);have hv:v<ys.length:=by omega
 refine⟨ys.set v (ys[v]+(g - ys.sum)),by simp[f1],by rw[zxB]; omega,?_⟩;unfold zgy;have hz:List.replicate c (0:Int)=iL (List.replicate c 0):=by simp[iL]
 simp only[qaU,List.sum_nil,qa8,qdf]at e3 f4;rw[zdn (by omega),qaa,hz,zaK];rw[show((0:Nat):Int)=0 from rfl]at e3 f4;rw[e3,qaa];simp only[];rw[f4,qaa];simp only[];rw[za5 hv,qaa,<- qb3,zaC,zi1 hv,qaa];have:ys[v]<=ys.sum:=zl1 hv;omega
end Go.Dc
namespace Go.Dc
open Go Go.Mx Go.Lx Go.Proofs
def zaR(N:Nat)(p0:S_haruspexref02_Draft):Nat->Int->(List Int)->Option (List Int)
 | 0,_,_=>none
 | n+1,v4,l1=>(
(zct N p0).bind λr1=>
bif (decide (v4<(r1.length:Int)))then(
((bif (decide (v4<(p0.order.length:Int)))then(
(zaE p0.order v4).bind λx5=>
(zp3 (w64 x5) (w64 (v4+1))).bind λq7=>
some q7)
else(
some 0):Option Int)).bind λv5=>
(zev l1 0 v5).bind λy9=>
(zex 8 y9).bind λy11=>
(zdE 8 y9 [v4]).bind λy13=>
(zev l1 v5 l1.length).bind λy15=>
(zdE 8 y13 y15).bind λy17=>
zaR N p0 n (w64 (v4+1)) y17)
else(
some l1))
def zbC(N:Nat)(p0:S_haruspexref02_Draft):Option (List Int):=
((zaR N p0 N 0 []:Option (List Int))).bind λl1=>
some l1
theorem zfN{N:Nat}{p0:S_haruspexref02_Draft}{r:(List Int)}(h:zbC N p0=some r):Lx.Fn mC 35 [(.agg [(fzE false (eI .u8) p0.c),(.lit (.int .u16 p0.which)),(fzE false (eI .u8) p0.order)])] (fzE true (eI .i64) r):=by
 refine gnO ?_;unfold zbC at h;refine wSM ?_;obtain⟨o5,j5,h⟩:=bsM h;refine usM [] 1 (λa:(List Int)=>([(3,(.sl 1 0 1 a.length none a.length))],[(0,.gone)],[.grow 1 (a.map ((eI .i64).c true))])) λT5 hT5=>?_
 refine EvL.jn T5 (λa=>a=o5) ?_ ?_
 .refine wSM ?_;refine usM [1] 1 (λa:(Int×(List Int))=>([(3,(.sl 1 0 1 a.2.length none a.2.length)),(4,(dI a.1))],[],[.grow 1 (a.2.map ((eI .i64).c true))])) λT9 hT9=>?_
  refine EvL.zgB (zbi.ghost (n:=1) (k:=3) (by decide) rfl) ?_;refine EvL.rounds (α:=(Int×(List Int))) T9 (λn a=>zaR N p0 n a.1 a.2=some o5) N (0,[]) (by rw[hT9]; exact wm0 [.k,.k] ⟨MB.cs ⟨qds,qds,qds,qds⟩,⟨MB.gs (eI .i64) true [],qds⟩⟩) j5 (λ_ h=>nomatch (show(none:Option (List Int))=some o5 from h)) ?_;rintro n ⟨v4,l1⟩ j5;simp only[zaR]at j5;refine wTM hT9 ?_;obtain⟨r1,g2,j5⟩:=bsM j5;refine sSM ?_;refine fCM (zhU g2) ?_;refine cBM j5 (λ_ j5=>?_) λ_ j5=>?_
  .exact zde j5 hT5
  obtain⟨o10,j10,j5⟩:=bsM j5;obtain⟨T10,hT10⟩:=zdp hT9 λa:Int=>uDM (T9 (v4,l1)) [] [(5,(dI a))] [] []
  refine EvL.jn T10 (λa=>a=o10) ?_ ?_
  .refine wSM ?_;refine cBM j10 (λ_ j10=>?_) λ_ j10=>?_
   .exact zde j10 hT10
   obtain⟨x5,g6,q7,g8,j10⟩:=zgs j10;refine sXM (anM (zaz (n:=1) (e:=(eI .u8)) rfl g6) (anM (zhy g8) (zgD g8))) ?_;exact zde j10 hT10
  rintro v5 rfl;rw[congrFun hT10 v5];refine EvL.zgB (S':=⟨42,[(1,(.ptr 0 0)),(3,(fzE true (eI .i64) l1)),(4,(dI v4)),(5,(dI v5))],[.cells [(fzE false (eI .u8) p0.c),(.lit (.int .u16 p0.which)),(fzE false (eI .u8) p0.order)]]⟩) (zbi.m0 [.k,.f] rfl (msq (mf rfl (zkX (e:=(eI .i64)) (t:=true) rfl rfl (.inr rfl) rfl rfl (λk h=>nomatch h) (λh=>by cases h<;>rfl)) (msq (msq trivial)))) ⟨MB.cs ⟨qds,qds,qds,qds⟩,qds⟩) (zad ?_);obtain⟨y9,g10,y11,g12,y13,g14,j5⟩:=zjp j5;obtain⟨y15,g16,y17,g18,j5⟩:=zgs j5;refine sXM (anM (zAn (n:=1) (e:=(eI .i64)) rfl g10) (anM (zmX (n:=1) (e:=(eI .i64)) rfl) (anM (zkM g12) (anM (zb9 g14) (anM (plM g14) (anM (piM g14) (anM (zAg (n:=1) (e:=(eI .i64)) rfl g16) (anM (zb9 g18) (anM (show y13.length+y15.length=y17.length from zfB g18) (show y13.map ((eI .i64).c true)++ y15.map ((eI .i64).c true)=y17.map ((eI .i64).c true)from zdW g18 ((eI .i64).c true))))))))))) ?_;exact zcz hT9 ((w64 (v4+1)),y17) j5
 rintro l1 rfl;refine wTM hT5 ?_;exact rHM h
end Go.Dc
namespace Go.Dc
open Go Go.Mx Go.Lx
theorem zwE{c w:Nat}{os:List Int}{wh:Int}(hc:c<=5):∀(n i:Nat) (acc:List Int),acc.length=i->i<=c->c - i<n ->
  ∃ zs:List Int,zs.length=c/\zbQ ⟨List.replicate c 0,wh,os⟩ n (i:Int) acc=some zs
 | 0,_,_,_,_,h=>absurd h (qam _)
 | n+1,i,acc,h1,h2,h3=>by
  unfold zbQ;simp only[qcc];by_cases hi:i<c
  .obtain⟨zs,e1,e2⟩:=zwE (w:=w) (os:=os) (wh:=wh) hc n (i+1) (acc ++ [1]) (by simp[h1]) hi (by omega);refine⟨zs,e1,?_⟩
   rw[zaT,qdv hi,qdt,qaa,show decide ((i:Int)<5)=true by simp; omega,qdt,zba (by simpa using hi),qaa,
    List.getElem_replicate,show w64 (1+w64 ((0:Int).tmod 4))=1 from rfl,zcU (by simp; omega),qaa,zai (by omega),e2]
  exact⟨acc,by omega,by rw[zaT,qdw hi,qdu,qaa,qdu]⟩
theorem zx6{c N:Nat}{os:List Int}{wh:Int}(hc:c<=5)(hN:6<=N):∃ zs:List Int,zs.length=c/\zct N ⟨List.replicate c 0,wh,os⟩=some zs:=by
 obtain⟨zs,e1,e2⟩:=zwE (w:=0) (os:=os) (wh:=wh) hc N 0 [] rfl (qau _) (by omega);refine⟨zs,e1,?_⟩;unfold zct;rw[show((0:Nat):Int)=0 from rfl]at e2;rw[e2,qaa]
structure PermOk (c:Nat) (xs:List Nat):Prop where
 len:xs.length=c
 nod:xs.Nodup
 lt:∀ x∈xs,x<c
 all:∀ x,x<c->x∈xs
theorem ziC{α:Type}{xs:List α}{a b:Nat}(h1:a<=b)(h2:b<=xs.length):zev xs (a:Int) (b:Int)=some ((xs.drop a).take (b - a)):=by
 unfold zev;rw[if_pos (by omega)];simp
theorem zz1{c N:Nat}{os:List Nat}{wh:Int}(hc:c<=5)(hN:6<=N)(ho:∀ o∈os,o<=255):∀(n i:Nat) (xs:List Nat),PermOk i xs->i<=c->c - i<n ->
  ∃ zs:List Nat,PermOk c zs/\zaR N ⟨List.replicate c 0,wh,iL os⟩ n (i:Int) (iL xs)=some (iL zs)
 | 0,_,_,_,_,h=>absurd h (qam _)
 | n+1,i,xs,h1,h2,h3=>by
  unfold zaR;obtain⟨z0,z1,z2⟩:=zx6 (os:=iL os) (wh:=wh) hc hN;rw[z2,qaa,z1];by_cases hi:i<c
  .have step:∀ q:Nat,q<=i->∃ zs:List Nat,PermOk c zs/\((zev (iL xs) 0 (q:Int)).bind λy9=>
     (zex 8 y9).bind λy11=>(zdE 8 y9 [(i:Int)]).bind λy13=>(zev (iL xs) (q:Int) (iL xs).length).bind λy15=>(zdE 8 y13 y15).bind λy17=>
     zaR N ⟨List.replicate c 0,wh,iL os⟩ n (w64 ((i:Int)+1)) y17)=some (iL zs):=by
    intro q hq;have hl:=h1.len;have hp:List.Perm (xs.take q ++ i :: xs.drop q) (i :: xs):=by
     refine List.perm_middle.trans ?_;rw[qbZ]
    obtain⟨zs,e1,e2⟩:=zz1 (wh:=wh) hc hN ho n (i+1) (xs.take q ++ i :: xs.drop q) ⟨by rw[hp.length_eq]; simp[hl],hp.nodup_iff.2 (qaR.2 ⟨λhx=>qca _ (h1.lt _ hx),h1.nod⟩),
     λx hx=>by
      rcases qav.1 (hp.mem_iff.1 hx)with h | h
      .omega
      have:=h1.lt _ h; omega,
     λx hx=>hp.mem_iff.2 (by
      by_cases hxi:x=i
      .exact qav.2 (.inl hxi)
      exact qah _ (h1.all _ (by omega)))⟩ hi (by omega)
    refine⟨zs,e1,?_⟩
    rw[show(0:Int)=((0:Nat):Int)from rfl,ziC (qau _) (by rw[zal]; omega),qaa,zg4 (by simp[zal]; omega),qaa,
     zcU (by simp[zal]; omega),qaa,ziC (by rw[zal]; omega) (qap _),qaa,zcU (by simp[zal]; omega),qaa,zai (by omega),<- e2]
    congr 1
    simp[iL,qaM]
   rw[zaT,qdv hi,qdt];simp only[zal (os)];by_cases hio:i<os.length
   .have hq:os[i] % (i+1)<=i:=Nat.lt_succ_iff.1 (qa7 _ (qdg _));have hb:=ho _ (qao hio);obtain⟨zs,e1,e2⟩:=step _ hq;refine⟨zs,e1,?_⟩;rw[zaT,qdv hio,qdt,za5 hio,qaa,zaC (by omega),zai (by omega),zgC (by omega),qaa,qaa,<- zai (by omega)];exact e2
   obtain⟨zs,e1,e2⟩:=step 0 (qau _);refine⟨zs,e1,?_⟩;rw[zaT,qdw hio,qdu,qaa];exact e2
  have:i=c:=by omega
  subst this;exact⟨xs,h1,by rw[zaT,qdw hi,qdu]⟩
theorem zCe{c N:Nat}{os:List Nat}{wh:Int}(hc:c<=5)(hN:6<=N)(ho:∀ o∈os,o<=255):
  ∃ zs:List Nat,PermOk c zs/\zbC N ⟨List.replicate c 0,wh,iL os⟩=some (iL zs):=by
 obtain⟨zs,e1,e2⟩:=zz1 (wh:=wh) hc hN ho N 0 [] ⟨rfl,List.nodup_nil,by simp,by simp⟩ (qau _) (by omega);refine⟨zs,e1,?_⟩;unfold zbC;rw[show((0:Nat):Int)=0 from rfl,show iL []=[]from rfl]at e2;rw[e2,qaa]
end Go.Dc
namespace Go.Dc
open Go Go.Mx Go.Lx Go.Proofs
def ztB(grain v:Int)(W:List Int)(nodes:List S_api_Node)(x:S_api_Node):Nat->Int->List (List Int)->Option (List (List Int))
 | 0,_,_=>none
 | n+1,r,rows=>(zeT nodes v ⟨x.zaF,x.parents,rows⟩).bind λcur=>
   (zb3 ⟨grain,cur⟩ v).bind λpc=>(zfE pc).bind λsz=>
   bif decide (r<sz)then((zgy grain x.zaF W (w64 (r * w64 (x.zaF+1)))).bind λy=>(zdE 24 rows [y]).bind λrows2=>ztB grain v W nodes x n (w64 (r+1)) rows2)else some rows
def zq7(N:Nat)(grain v:Int)(W:List Int)(nodes:List S_api_Node):Option (List S_api_Node):=
 (zaE nodes v).bind λx=>bif x.rows.isEmpty then((ztB grain v W nodes x N 0 []).bind λrows=>zeT nodes v ⟨x.zaF,x.parents,rows⟩)else none
def zA8:C:=
 (.seq (.seq (rg [oM 145 15,
 oN 146 2 4,
 oM 147 12,
 oV 148 37 146 147,
 oU 149 36 148,
 oB 150 .lss 145 149])
 (.cond (.s 150) (.skip)
 (.exit 8)))
 (.seq (.block 9 (.reg true true [oF 153 1 4,
 oL 154 153,
 oM 155 12,
 oF 156 1 4,
 oL 157 156,
 oM 158 12,
 oI 159 3 157 158,
 oF 160 2 159,
 oL 161 160,
 oF 162 0 4,
 oL 163 162,
 oF 164 1 4,
 oL 165 164,
 oM 166 12,
 oI 167 3 165 166,
 oF 168 0 167,
 oL 169 168,
 oF 170 2 11,
 oL 171 170,
 oM 172 15,
 oF 173 1 4,
 oL 174 173,
 oM 175 12,
 oI 176 3 174 175,
 oF 177 0 176,
 oL 178 177,
 oD 179 .add 178 1,
 oB 180 .mul 172 179,
 ⟨some 181,.call 38 [(.s 163),(.s 169),(.s 171),(.s 180)],none⟩,
 ⟨some 182,.bsl 1 1 [(.slice none 0 0)] [(0,(.s 181))],none⟩,
 ⟨none,.avo [(.s 153)] (.s 161),none⟩,
 oT 183 1 24 161 182,
 oI 184 3 154 155,
 oF 185 2 184,
 oS 1 185 183]))
 (rg [oM 151 15,
 oD 152 .add 151 1,
 oM 15 152])))
variable{nodes:List S_api_Node}{v:Int}
theorem zEQ{L:List LB}{cur:List S_api_Node}{y:S_api_Node}{c:List D}(g:zeT nodes v y=some cur)(hc:Snps L false c (zab.c false y)):
  Pw (Snp L false) ((nodes.map (zao.c true)).set v.toNat c) (cur.map (zab.c false)):=by
 rw[<- zd6 g (zab.c false)];exact Pw.set (Pw.map (λx=>⟨(zd0 (L:=L) (t:=true) (u:=false) (λh=>nomatch h) x).len,(zd0 (L:=L) (t:=true) (u:=false) (λh=>nomatch h) x).get⟩) nodes) hc.len hc.get _
variable{W:List Int}{nodes':List S_api_Node}
theorem zER{k:List K}{Q:LX->LSt->Prop}{b0 b1:LB}{c40 c41:D}{num:List Int}{i count grain:Int}{cnt N:Nat}(g:zq7 N grain v W nodes=some nodes')(hb0:∀ kp,LB.kin kp b0)(hb1:∀ kp,LB.kin kp b1)(hc0:∀ kp,D.kin kp c40)(hc1:∀ kp,D.kin kp c41)(hl:nodes.length=cnt)(hk:EvL mC 0 k ⟨187,[(1,.ptr 0 0),(2,.ptr 1 0),(3,dI count),(4,.ptr 3 0),(5,fzE true (eI .i64) num),(10,dI i),(11,.ptr 4 0),(12,dI v)],[b0,b1,.els 3 (nodes'.map (zao.c true)),.cells [dI grain,.sl 2 0 3 cnt (some cnt) cnt],.cells [c40,c41,fzE false (eI .u8) W]]⟩ Q):
  EvL mC 0 (.code (.scope (.block 8 (.loop zA8))):: k) ⟨187,[(1,.ptr 0 0),(2,.ptr 1 0),(3,dI count),(4,.ptr 3 0),(5,fzE true (eI .i64) num),(10,dI i),(11,.ptr 4 0),(12,dI v),(15,dI 0)],[b0,b1,.els 3 (nodes.map (zao.c true)),.cells [dI grain,.sl 2 0 3 cnt (some cnt) cnt],.cells [c40,c41,fzE false (eI .u8) W]]⟩ Q:=by
 unfold zq7 at g;obtain⟨x,gx,g⟩:=bsM g;cases hp:x.rows.isEmpty with
 | false=>rw[hp]at g; cases g
 | true=>
 rw[hp,qdt]at g;obtain⟨rows,gu,g⟩:=bsM g;have hv0:=za2 gx;have hv1:v<((cnt:Nat):Int):=hl ▸ zeh gx;have hxe:=zcn gx (zao.c true);have hxl:=(qab.1 (zj0 gx)).1;have hgs:∀ C:List D,((nodes.map (zao.c true)).set v.toNat C)[v.toNat]? = some C:=λC=>by rw[qa1 (by simpa using hxl)]
 refine EvL.jn (α:=Unit) (λ_=>⟨187,[(1,.ptr 0 0),(2,.ptr 1 0),(3,dI count),(4,.ptr 3 0),(5,fzE true (eI .i64) num),(10,dI i),(11,.ptr 4 0),(12,dI v)],[b0,b1,.els 3 (nodes'.map (zao.c true)),.cells [dI grain,.sl 2 0 3 cnt (some cnt) cnt],.cells [c40,c41,fzE false (eI .u8) W]]⟩) (λ_=>True) ?_ (λ_ _=>hk);refine wSM ?_;refine EvL.zgB (zbi.zzX (n:=1) (b:=2) (i:=v.toNat) (o:=2) (by decide) rfl hxe (by rw[zfx,zAu _ _ hp]; rfl)) ?_;obtain⟨T,hT⟩:∃ T:Int×List (List Int)->LSt,T=(λa=>⟨187,[(1,.ptr 0 0),(2,.ptr 1 0),(3,dI count),(4,.ptr 3 0),(5,fzE true (eI .i64) num),(10,dI i),(11,.ptr 4 0),(12,dI v),(15,dI a.1)],[b0,b1,.els 3 ((nodes.map (zao.c true)).set v.toNat [dI x.zaF,nE true (eI .i64) x.parents,.sl 5 0 1 a.2.length none a.2.length]),.cells [dI grain,.sl 2 0 3 cnt (some cnt) cnt],.cells [c40,c41,fzE false (eI .u8) W],.grow 1 (a.2.map ((eL (eI .i64)).c true))]⟩):=⟨_,rfl⟩;refine EvL.rounds T (λn a=>ztB grain v W nodes x n a.1 a.2=some rows) N (0,[]) (by rw[hT]; exact zbi.sub ⟨rfl,rfl,rfl,rfl,rfl,rfl,rfl,rfl,rfl,qds⟩) gu (λ_ h=>nomatch h) ?_;rintro n ⟨r,a⟩ h;simp only[ztB]at h;obtain⟨cur,gcur,pc,gpc,sz,gsz,h⟩:=zjp h;rw[congrFun hT (r,a)];simp only[zA8,zCX];refine wSM ?_;refine EvL.fn (zhS gpc) rfl rfl (.cons (.zyP (.cons (.lit _) (.cons (zne (e:=zab) rfl (.inl rfl) (by rw[qaw,qak]; exact hl.symm) (by rw[qaw,qak]; exact hl.symm) (λk h=>by cases h; exact qap _) (zEQ gcur (.cons (.lit _) (.cons (zqM _ _ (λh=>nomatch h)) (.cons (znB (e:=(eL (eI .i64))) (t:=true) rfl (.inr rfl) rfl rfl (λk h=>nomatch h) (λh=>nomatch h)) .nil))))) .nil))) (.cons (.lit _) .nil)) ?_;refine sSM ?_;refine fCM (zqs gsz) ?_;cases c1:decide (r<sz)with
 | false=>
  rw[c1,qdu]at h;obtain rfl:=qaf h;refine sXM c1 ?_;exact⟨(),qds,wm0 [.k,.k,.k,.k,.k,.f] ⟨.same (hb0 _),.same (hb1 _),MB.close g (.cons (.same trivial) (.cons (.same (zpq _ _ _ _)) (.cons (.fr (zxP (t:=true) rfl rfl rfl rfl (λh=>by cases h<;>rfl))) .nil))),MB.cs ⟨qds,rfl,qds⟩,MB.cs ⟨hc0 _,hc1 _,qds,qds⟩,qds⟩⟩
 | true=>
  rw[c1,qdt]at h;obtain⟨y,gy,b2,gb,h⟩:=zgs h;simp only[rnA,Nat.reduceEqDiff,Nat.reduceLT,c1,hv0,hv1,qaw,hl,hgs];refine EvL.fn (ztz gy) rfl rfl (.cons (.lit _) (.cons (.lit _) (.cons (zeg _ _ (λh=>nomatch h)) (.cons (.lit _) .nil)))) ?_;simp only[rnA,Nat.reduceEqDiff,Nat.reduceLT,Nat.reduceAdd,Nat.reduceLeDiff,Nat.reduceBEq,hv0,hv1,qaw,hl,hgs,qc4,zb9 gb,(plM gb),(show a.map ((eL (eI .i64)).c true)++ [[fzE true (eI .i64) y]]=b2.map ((eL (eI .i64)).c true)from zdW gb ((eL (eI .i64)).c true))];exact⟨(w64 (r+1),b2),h,by rw[hT]; exact wm0 [.k,.k,.k,.k,.k,.k] ⟨.same (hb0 _),.same (hb1 _),MB.opn ⟨qds,zpq _ _ _ _,rfl,qds⟩,MB.cs ⟨qds,rfl,qds⟩,MB.cs ⟨hc0 _,hc1 _,qds,qds⟩,MB.gs (eL (eI .i64)) true b2,qds⟩⟩
theorem zt1{N:Nat}{grain:Int}(g:zq7 N grain v W nodes=some nodes'):nodes'.length=nodes.length:=by
 unfold zq7 at g;obtain⟨x,gx,g⟩:=bsM g;cases hp:x.rows.isEmpty with
 | false=>rw[hp]at g; cases g
 | true=>
 rw[hp,qdt]at g;obtain⟨ps,gu,g⟩:=bsM g;exact zaS g
end Go.Dc
namespace Go.Dc
open Go Go.Mx Go.Lx
structure NN where
 c:Nat
 ps:List Nat
 rows:List (List Nat)
def nd(x:NN):S_api_Node:=⟨x.c,iL x.ps,x.rows.map iL⟩
variable{v:Nat}
theorem zsd(k:IntKind)(a:Int):∃ q,ziN k a (v:Int)=some q:=by
 simp_all [ziN]
variable{num:List Nat}
theorem zyJ{ps:List Nat}{ps8:Int}{u k:Nat}(hk:k<num.length):∃ b,zya (iL num) ps8 (u:Int) (k:Int) (iL ps)=some b/\(b=true->num[k]=u/\ps.length<3):=by
 unfold zya;rw[za5 hk,qaa];by_cases h:num[k]=u
 .obtain⟨q,e⟩:=zsd .u8 ps8 (v:=k % 18446744073709551616);rw[show(((num[k]:Nat):Int)==(u:Int))=true by simp[h],qdt,zyF,e,qaa];cases ziv .u8 q 1 == 1<;>grind [zal]
 rw[show(((num[k]:Nat):Int)==(u:Int))=false by simp; omega,qdu]
 simp_all
theorem zmA{num:List Nat}{ps8:Int}{u i:Nat}(hi:i<=num.length)(hn:num.length<=5)(hd:num.Nodup):∀(n k:Nat) (ps:List Nat),ps.length<=3->k<=i->i - k<n ->
  ∃ qs:List Nat,zqz (iL num) (i:Int) ps8 (u:Int) n (k:Int) (iL ps)=some (iL qs)/\(qs=ps\/(qs=ps ++ [u]/\ps.length<3/\∃ j,k<=j/\j<i/\num[j]? = some u))
 | 0,_,_,_,_,h=>absurd h (qam _)
 | n+1,k,ps,h1,h2,h3=>by
  unfold zqz;by_cases hk:k<i
  .obtain⟨b,e,hb⟩:=zyJ (num:=num) (ps:=ps) (ps8:=ps8) (u:=u) (k:=k) (by omega);rw[zaT,qdv hk,qdt,e,qaa];cases b with
   | false=>
    obtain⟨qs,e2,h4⟩:=zmA (ps8:=ps8) (u:=u) hi hn hd n (k+1) ps h1 hk (by omega);refine⟨qs,by rw[qdu,zai (by omega),e2],?_⟩;rcases h4 with h4 | ⟨h4,h5,j,h6,h7,h8⟩
    .exact .inl h4
    .exact .inr ⟨h4,h5,j,by omega,h7,h8⟩
   | true=>
    obtain⟨h5,h6⟩:=hb rfl;obtain⟨qs,e2,h4⟩:=zmA (ps8:=ps8) (u:=u) hi hn hd n (k+1) (ps ++ [u]) (by simp; omega) hk (by omega);refine⟨qs,?_,.inr ⟨?_,h6,k,qap _,hk,by rw[qac (by omega),h5]⟩⟩
    .rw[qdt,zcU (by simp[zal]; omega),qaa,zai (by omega),<- e2];simp[iL]
    rcases h4 with h4 | ⟨h4,h7,j,h8,h9,h10⟩
    .exact h4
    exfalso
    have hj:j<num.length:=by omega
    rw[qac hj]at h10;have h12:num[j]=num[k]'(by omega):=by rw[h5]; exact qaf h10
    exact qbk.1 hd k j (by omega) hj (by omega) h12.symm
  exact⟨ps,by rw[zaT,qdw hk,qdu],.inl rfl⟩
structure ParOk (num:List Nat) (i:Nat) (b:Nat) (ps:List Nat):Prop where
 len:ps.length<=3
 inc:ps.Pairwise (· < ·)
 lt:∀ p∈ps,p<b
 mem:∀ p∈ps,∃ j,j<i/\num[j]? = some p
theorem zsk{num:List Nat}{ps8:Int}{i c:Nat}(hi:i<=num.length)(hn:num.length<=5)(hc:c<=5)(hd:num.Nodup):∀(n u:Nat) (ps:List Nat),ParOk num i u ps->u<=c->c - u<n ->
  ∃ qs:List Nat,zt4 (iL num) (i:Int) ps8 (c:Int) n (u:Int) (iL ps)=some (iL qs)/\ParOk num i c qs
 | 0,_,_,_,_,h=>absurd h (qam _)
 | n+1,u,ps,h1,h2,h3=>by
  unfold zt4;by_cases hu:u<c
  .obtain⟨qs,e,h4⟩:=zmA (ps8:=ps8) (u:=u) hi hn hd (i+2) 0 ps h1.len (qau _) (by omega);rw[show((0:Nat):Int)=0 from rfl]at e;have hq:ParOk num i (u+1) qs:=by
    rcases h4 with h4 | ⟨h4,h5,j,h6,h7,h8⟩
    .subst h4;exact⟨h1.len,h1.inc,λp hp=>qck (h1.lt p hp),h1.mem⟩
    subst h4;refine⟨by simp; omega,?_,?_,?_⟩
    .rw[qcU];exact⟨h1.inc,List.pairwise_singleton _ _,λa ha b hb=>by rw[qaJ.1 hb]; exact h1.lt a ha⟩
    .intro p hp;rcases qa9.1 hp with hp | hp
     .exact qck (h1.lt p hp)
     rw[qaJ.1 hp]; exact qbo _
    intro p hp;rcases qa9.1 hp with hp | hp
    .exact h1.mem p hp
    rw[qaJ.1 hp]; exact⟨j,h7,h8⟩
   obtain⟨rs,e2,h9⟩:=zsk (ps8:=ps8) hi hn hc hd n (u+1) qs hq hu (by omega);refine⟨rs,?_,h9⟩
   grind [zai]
  grind
variable{ns:List NN}
theorem zcw(h:v<ns.length):zaE (ns.map nd) (v:Int)=some (nd ns[v]):=by
 grind [zba]
theorem zhP{x:NN}(h:v<ns.length):zeT (ns.map nd) (v:Int) (nd x)=some ((ns.set v x).map nd):=by
 rw[zfr (by simpa using h)]; simp
theorem zCE{ps8:Int}{i:Nat}(hi:i<=num.length)(hn:num.length<=5)(hl:ns.length<=5)(hd:num.Nodup)(hv:v<ns.length)(hp:ns[v].ps=[]):
  ∃ qs:List Nat,zqV (iL num) (i:Int) (v:Int) (ns.length:Int) ps8 (ns.map nd)=some ((ns.set v ⟨ns[v].c,qs,ns[v].rows⟩).map nd)/\ParOk num i ns.length qs:=by
 obtain⟨qs,e,h⟩:=zsk (ps8:=ps8) hi hn hl hd (ns.length+2) 0 [] ⟨by simp,by simp,by simp,by simp⟩ (qau _) (by omega);refine⟨qs,?_,h⟩;unfold zqV;rw[show((0:Nat):Int)=0 from rfl,show iL []=[]from rfl]at e;rw[zcw hv,qaa,show(nd ns[v]).parents.isEmpty=true by simp[nd,hp,iL],qdt,qax,e,qaa];exact zhP (x:=⟨ns[v].c,qs,ns[v].rows⟩) hv
structure RowsOk (g c m:Nat) (rows:List (List Nat)):Prop where
 len:rows.length=m
 row:∀ r∈rows,r.length=c/\r.sum=g
theorem zkB{x:NN}(hv:v<ns.length)(hx:x.c=ns[v].c):(ns.set v x).map (·.c)=ns.map (·.c):=by
 rw[qcD,hx];apply qbJ (by simp)<;> grind
def zeO(ns:List NN)(ps:List Nat):List Nat:=ps.map λp=>(ns.map (·.c)).getD p 0
theorem zCA{xs:List Nat}{p:Nat}:(iL xs).getD p 0=((xs.getD p 0:Nat):Int):=by
 grind [iL]
theorem zGD{g:Int}(hl:ns.length<=8)(hv:v<ns.length)(hp:Pl ns.length ns[v].ps)(h8:ns[v].ps.length<=8):
  zb3 ⟨g,ns.map nd⟩ (v:Int)=some (iL (zeO ns ns[v].ps)):=by
 unfold zb3;rw[zcw hv,qaa,zys (by simpa using hl),qaa];have hc:(ns.map nd).map (·.zaF)=iL (ns.map (·.c)):=by simp[iL,nd,Function.comp_def]
 simp only[];rw[hc,show(nd ns[v]).parents=iL ns[v].ps from rfl,zGs (by rw[zal,qak]; exact hp) h8,qaa];congr 1
 simp only[zCA];simp only[zeO,iL,qc3,Function.comp_def]
theorem zrB{g:Nat}{W:List Nat}{ns:List NN}{v m:Nat}(hg:g<=60)(hl:ns.length<=8)(hv:v<ns.length)(hp:Pl ns.length ns[v].ps)(h8:ns[v].ps.length<=8)(hc1:1<=ns[v].c)(hc4:ns[v].c<=4)
  (hs:∀ x∈zeO ns ns[v].ps,1<=x) (hm:zac (zeO ns ns[v].ps)=m) (hm2:m<=1024):∀(n r:Nat) (rows:List (List Nat)),RowsOk g ns[v].c r rows->r<=m->m - r<n ->
  ∃ rows',RowsOk g ns[v].c m rows'/\ztB (g:Int) (v:Int) (iL W) (ns.map nd) (nd ns[v]) n (r:Int) (rows.map iL)=some (rows'.map iL)
 | 0,_,_,_,_,h=>absurd h (qam _)
 | n+1,r,rows,h1,h2,h3=>by
  unfold ztB;have hx:(⟨(nd ns[v]).zaF,(nd ns[v]).parents,rows.map iL⟩:S_api_Node)=nd ⟨ns[v].c,ns[v].ps,rows⟩:=rfl;have hpc:zb3 ⟨g,(ns.set v ⟨ns[v].c,ns[v].ps,rows⟩).map nd⟩ (v:Int)=some (iL (zeO ns ns[v].ps)):=by
   grind [zGD,zeO]
  rw[hx,zhP hv,qaa,hpc,qaa,zCY hs (by simpa [zeO]using h8) (by omega),qaa,hm];by_cases hr:r<m
  .have hmul:r * (ns[v].c+1)<=1024 * 5:=qbi (by omega) (by omega);obtain⟨zs,e1,e2,e3⟩:=zBl (ws:=W) (g:=g) (p:=r * (ns[v].c+1)) (c:=ns[v].c) hg (by omega) hc1 (by omega)
   obtain⟨rows',e4,e5⟩:=zrB hg hl hv hp h8 hc1 hc4 hs hm hm2 (W:=W) n (r+1) (rows ++ [zs]) ⟨by simp[h1.len],by
    intro y hy;rcases qa9.1 hy with hy | hy
    .exact h1.row y hy
    rw[qaJ.1 hy]; exact⟨e1,e2⟩⟩ hr (by omega)
   refine⟨rows',e4,?_⟩;have hcard:(nd ns[v]).zaF=((ns[v].c:Nat):Int):=rfl;have hlen:=h1.len;rw[zaT,qdv hr,qdt,hcard,zai (by omega),<- qaZ,zaC (by omega),e3,qaa,zcU (by simp; omega),qaa,zai (by omega),<- e5];simp
  have:r=m:=by omega
  subst this;exact⟨rows,h1,by rw[zaT,qdw hr,qdu]⟩
theorem zCx{g N:Nat}{W:List Nat}{ns:List NN}{v:Nat}(hg:g<=60)(hl:ns.length<=8)(hv:v<ns.length)(hp:Pl ns.length ns[v].ps)(h8:ns[v].ps.length<=8)(hc1:1<=ns[v].c)(hc4:ns[v].c<=4)
  (hs:∀ x∈zeO ns ns[v].ps,1<=x) (hm2:zac (zeO ns ns[v].ps)<=1024) (hr:ns[v].rows=[]) (hN:1025<=N):
  ∃ rows,RowsOk g ns[v].c (zac (zeO ns ns[v].ps)) rows/\zq7 N (g:Int) (v:Int) (iL W) (ns.map nd)=some ((ns.set v ⟨ns[v].c,ns[v].ps,rows⟩).map nd):=by
 obtain⟨rows,e1,e2⟩:=zrB hg hl hv hp h8 hc1 hc4 hs rfl hm2 (W:=W) N 0 [] ⟨rfl,by simp⟩ (qau _) (by omega);refine⟨rows,e1,?_⟩;unfold zq7;rw[show((0:Nat):Int)=0 from rfl,show([]:List (List Nat)).map iL=[]from rfl]at e2;rw[zcw hv,qaa,show(nd ns[v]).rows.isEmpty=true by simp[nd,hr],qdt,e2,qaa];exact zhP (x:=⟨ns[v].c,ns[v].ps,rows⟩) hv
end Go.Dc
namespace Go.Dc
open Go Go.Mx Go.Lx Go.Proofs
def zbw(p1:S_api_Node)(p0:S_net_network):Nat->Int->Int->Option Int
 | 0,_,_=>none
 | n+1,v5,v16=>(
bif (decide (v16<(p1.parents.length:Int)))then(
(zaE p1.parents v16).bind λx2=>
(zaE p0.zaf x2).bind λx4=>
zbw p1 p0 n (w64 (v5 * x4)) (w64 (v16+1)))
else(
some v5))
def zbu(y11:(Int×(List Int))):Nat->Int->Int->Option (Out Int Bool)
 | 0,_,_=>none
 | n+1,v10,v42=>(
bif (decide (v42<(y11.2.length:Int)))then(
(zaE y11.2 v42).bind λx13=>
((bif (decide (x13<0))then(
some true)
else(
some (decide (v10<x13))):Option Bool)).bind λv52=>
bif v52 then(
some (.ret false))
else(
zbu y11 n (w64 (v10 - x13)) (w64 (v42+1))))
else(
some (.go v10)))
def za6(p0:S_net_network)(p1:S_api_Node):List (Int×(List Int))->Option (Out Unit Bool)
 | []=>some (.go ())
 | y11 :: ys=>(
((zbu y11 ((y11.2.length:Int) - 0+2:Int).toNat p0.net.grain 0:Option (Out Int Bool))).bind λo=>match o with
| .go v10=>(
((bif ((y11.2.length:Int)== p1.zaF)then(
some (!(v10 == 0)))
else(
some true):Option Bool)).bind λv65=>
bif v65 then(
some (.ret false))
else(
za6 p0 p1 ys))
| .ret r=>some (.ret r))
def zbV(p0:S_net_network)(p1:S_api_Node):Option Bool:=
((zbw p1 p0 ((p1.parents.length:Int) - 0+2:Int).toNat 1 0:Option Int)).bind λv5=>
bif ((p1.rows.length:Int)== v5)then(
(zfL p1).bind λr7=>
(zfm r7.rows).bind λu9=>
((za6 p0 p1 (zuo r7.rows):Option (Out Unit Bool))).bind λo=>match o with
| .go _=>(
some true)
| .ret r=>some r)
else(
some false)
theorem zgX{p0:S_net_network}{p1:S_api_Node}{r:Bool}(h:zbV p0 p1=some r):Lx.Fn mC 87 [(.agg [(dI p0.net.grain),(fzE false zab p0.net.nodes),(fzE false (eI .i64) p0.zaf),(fzE false (eI .u64) p0.sets),(fzE false (eI .i64) p0.order)]),(.agg [(dI p1.zaF),(fzE false (eI .i64) p1.parents),(fzE false (eL (eI .i64)) p1.rows)])] (dB r):=by
 refine gnO ?_;unfold zbV at h;refine wSM ?_;obtain⟨o1,j1,h⟩:=bsM h;refine usM [2,3,4] 3 (λa:Int=>([(5,(dI a))],[],[])) λT1 hT1=>?_
 refine EvL.jn T1 (λa=>a=o1) ?_ ?_
 .refine wSM ?_;refine usM [2,3,4,14,15] 3 (λa:(Int×Int)=>([(5,(dI a.1)),(16,(dI a.2))],[],[])) λT2 hT2=>?_
  refine rdM hT2 (λn a=>zbw p1 p0 n a.1 a.2=some o1) (1,0) j1 ?_;rintro n ⟨v5,v16⟩ j1;simp only[zbw]at j1;refine wTM hT2 ?_;refine cBM j1 (λ_ j1=>?_) λ_ j1=>?_
  .exact zde j1 hT1
  obtain⟨x2,g3,x4,g5,j1⟩:=zgs j1;refine sXM (anM (ixM g3) (ixM g5)) ?_;exact zcz hT2 ((w64 (v5 * x4)),(w64 (v16+1))) j1
 rintro v5 rfl;refine wTM hT1 ?_;refine cBM h (λ_ h=>?_) λ_ h=>?_
 .exact rHM h
 obtain⟨r7,g8,h⟩:=bsM h;refine sSM ?_;refine fDM (zkZ g8) ?_;refine sXM @zaj ?_;obtain⟨u9,g10,o12,j12,h⟩:=zgs h;obtain⟨T12,hM12⟩:∃ T:Unit->List LB,T=(λa=>[.cells [(dI p0.net.grain),(fzE false zab p0.net.nodes),(fzE false (eI .i64) p0.zaf),(fzE false (eI .u64) p0.sets),(fzE false (eI .i64) p0.order)],.cells [(dI p1.zaF),(fzE false (eI .i64) p1.parents),(fzE false (eL (eI .i64)) p1.rows)],.cells [(dB false)]]):=⟨_,rfl⟩;refine EvL.zgB (S':=⟨66,[(2,(.ptr 0 0)),(3,(.ptr 1 0)),(4,(.ptr 2 0)),(34,(.clo 129 [] [(.fptr false (zab.c false r7))]))],T12 ()⟩) (by rw[hM12]; exact wAM) ?_;refine EvL.zgF (n0:=3) (zjx r7 g10) rfl (bm:=.block 3 (.seq (.reg false false [⟨some 37,.fld 0 (.s 2),none⟩,⟨some 38,.fld 0 (.s 37),none⟩,⟨some 39,.load none (.s 38),none⟩,⟨some 10,.mov (.s 39),none⟩]) (.seq (.seq (.reg false false [⟨some 40,.mov (.s 9),none⟩,⟨some 41,.len (.s 40),none⟩,⟨some 42,.mov (.c (.int .i64 0)),none⟩]) (.scope (.block 4 (.loop (.seq (.reg false false [⟨some 43,.bin .lss (.s 42) (.s 41),none⟩]) (.seq (.cond (.s 43) (.skip) (.exit 4)) (.seq (.block 5 (.seq (.reg false false [⟨some 44,.idxS 1 (.s 40) (.s 42),none⟩,⟨some 45,.load none (.s 44),none⟩,⟨some 12,.mov (.s 45),none⟩]) (.seq (.seq (.scope (.reg false false [⟨some 46,.mov (.s 12),none⟩,⟨some 47,.bin .lss (.s 46) (.c (.int .i64 0)),none⟩,⟨some 48,.mov (.s 47),none⟩,⟨some 49,.mov (.s 12),some (48,false)⟩,⟨some 50,.mov (.s 10),some (48,false)⟩,⟨some 51,.bin .gtr (.s 49) (.s 50),some (48,false)⟩,⟨some 52,.pick (.s 48) (.c (.bool true)) (.s 51),none⟩])) (.cond (.s 52) (.seq (.reg false false [⟨none,.store 1 (.s 4) (.c (.bool false)),none⟩]) (.ret)) (.skip))) (.reg false false [⟨some 53,.mov (.s 10),none⟩,⟨some 54,.mov (.s 12),none⟩,⟨some 55,.bin .sub (.s 53) (.s 54),none⟩,⟨some 10,.mov (.s 55),none⟩])))) (.reg false false [⟨some 56,.bin .add (.s 42) (.c (.int .i64 1)),none⟩,⟨some 42,.mov (.s 56),none⟩])))))))) (.seq (.scope (.reg false false [⟨some 57,.mov (.s 9),none⟩,⟨some 58,.len (.s 57),none⟩,⟨some 59,.fld 0 (.s 3),none⟩,⟨some 60,.load none (.s 59),none⟩,⟨some 61,.bin .neq (.s 58) (.s 60),none⟩,⟨some 62,.mov (.s 61),none⟩,⟨some 63,.mov (.s 10),some (62,false)⟩,⟨some 64,.bin .neq (.s 63) (.c (.int .i64 0)),some (62,false)⟩,⟨some 65,.pick (.s 62) (.c (.bool true)) (.s 64),none⟩])) (.cond (.s 65) (.seq (.reg false false [⟨none,.store 1 (.s 4) (.c (.bool false)),none⟩]) (.ret)) (.skip)))))) rfl T12 (λi a=>za6 p0 p1 ((zuo r7.rows).drop i)=some o12) (λx L1=>match x with | .normal=>∃ a,o12=.go a/\L1=T12 a | .ret=>L1.length=3/\zdo (3+1) L1/\(zjI [.cell 4 none] ((dB r))) .ret ⟨66,[(2,(.ptr 0 0)),(3,(.ptr 1 0)),(4,(.ptr 2 0)),(34,(.clo 129 [] [(.fptr false (zab.c false r7))]))],L1 ++ [.lost]⟩| _=>False) () ?_ (qau _) ?_ ?_ ?_ (λd L1 hx=>hx.elim) ?_ ?_ ?_ ?_ ?_ ?_
 .intro a; rw[hM12]; rfl
 .exact⟨(qad rfl),(qad rfl),(qad rfl),⟨qds,⟨qds,qds⟩⟩,qds⟩
 .intro a; rw[hM12]; exact⟨⟨qds,qds,qds,qds,qds,qds⟩,⟨qds,qds,qds,qds⟩,⟨qds,qds⟩,qds⟩
 .intro x L1 hx;cases x with
  | normal=>obtain⟨a,_,rfl⟩:=hx; exact⟨by rw[hM12]; rfl,by rw[hM12]; exact⟨⟨qds,qds,qds,qds,qds,qds⟩,⟨qds,qds,qds,qds⟩,⟨qds,qds⟩,qds⟩⟩
  | ret=>exact⟨hx.1,hx.2.1⟩
  | exit id=>exact hx.elim
  | panic d=>exact hx.elim
 .exact j12
 .rintro i ⟨⟩ y11 args G lpF hy hi12 ⟨rfl,rfl⟩ hkin;rw[zf7 hy]at hi12;simp only[za6]at hi12;refine⟨_,_,rfl,rfl,?_⟩;rw[congrFun hM12 ()];refine zad ?_;refine sXM @zaj ?_;obtain⟨o16,j16,hi12⟩:=bsM hi12;refine usM [3,4,9] 4 (λa:Int=>([(10,(dI a))],[],[])) λT16 hT16=>?_
  refine EvL.jn T16 (λa=>o16=.go a) ?_ ?_
  .refine wSM ?_;refine usM [3,4,9,40,41] 4 (λa:(Int×Int)=>([(10,(dI a.1)),(42,(dI a.2))],[],[])) λT19 hT19=>?_
   refine rdM hT19 (λn a=>zbu y11 n a.1 a.2=some o16) (p0.net.grain,0) j16 ?_;rintro n ⟨v10,v42⟩ j16;simp only[zbu]at j16;refine wTM hT19 ?_;refine cBM j16 (λ_ j16=>?_) λ_ j16=>?_
   .exact zsT j16 hT16
   obtain⟨x13,g14,j16⟩:=bsM j16;refine sXM (ixM g14) ?_;obtain⟨o20,j20,j16⟩:=bsM j16;obtain⟨T20,hT20⟩:=zdp hT19 λa:Bool=>uDM (T19 (v10,v42)) [] [(12,(dI x13)),(52,(dB a))] [] []
   refine EvL.jn T20 _ (bJM j20 hT20) ?_;rintro v52 rfl;refine wTM hT20 ?_;refine cBM j16 (λ_ j16=>?_) λ_ j16=>?_
   .exact zcz hT19 ((w64 (v10 - x13)),(w64 (v42+1))) j16
   obtain rfl:=qaf j16;obtain rfl:=qaf hi12;obtain rfl:=qaf h;exact⟨[.cells [(dI p0.net.grain),(fzE false zab p0.net.nodes),(fzE false (eI .i64) p0.zaf),(fzE false (eI .u64) p0.sets),(fzE false (eI .i64) p0.order)],.cells [(dI p1.zaF),(fzE false (eI .i64) p1.parents),(fzE false (eL (eI .i64)) p1.rows)],.cells [(dB false)]],rfl,wKM,rfl,⟨⟨qds,qds,qds,qds,qds,qds⟩,⟨qds,qds,qds,qds⟩,⟨qds,qds⟩,qds⟩,zjI.ret rfl (.lit _)⟩
  rintro v10 rfl;dsimp only at hi12;refine wTM hT16 ?_;obtain⟨o21,j21,hi12⟩:=bsM hi12;obtain⟨T21,hT21⟩:=zdp hT16 λa:Bool=>uKM (T16 v10) [4] [(65,(dB a))] [] []
  refine EvL.jn T21 _ (bJM j21 hT21) ?_;rintro v65 rfl;refine wTM hT21 ?_;refine cBM hi12 (λ_ hi12=>?_) λ_ hi12=>?_
  .exact⟨T12 (),by rw[hM12]; rfl,by rw[hM12]; exact wKM,(),hi12,rfl⟩
  obtain rfl:=qaf hi12;obtain rfl:=qaf h;exact⟨[.cells [(dI p0.net.grain),(fzE false zab p0.net.nodes),(fzE false (eI .i64) p0.zaf),(fzE false (eI .u64) p0.sets),(fzE false (eI .i64) p0.order)],.cells [(dI p1.zaF),(fzE false (eI .i64) p1.parents),(fzE false (eL (eI .i64)) p1.rows)],.cells [(dB false)]],rfl,wKM,rfl,⟨⟨qds,qds,qds,qds,qds,qds⟩,⟨qds,qds,qds,qds⟩,⟨qds,qds⟩,qds⟩,zjI.ret rfl (.lit _)⟩
 .rintro⟨⟩ hi12;rw[qbB]at hi12;simp only[za6]at hi12;exact⟨(),(qaf hi12).symm,rfl⟩
 .rintro _ ⟨⟨⟩,rfl,rfl⟩;dsimp only at h;rw[congrFun hM12 ()];refine zad ?_;refine sXM @zaj ?_;exact rHM h
 .intro id L1 hx; exact hx.elim
 intro L1 hx; exact hx.2.2
def zdG(p0:S_api_Net):Nat->Int->Int->(List Int)->Option (Out (Int×(List Int)) (S_net_network×Int))
 | 0,_,_,_=>none
 | n+1,v5,v50,l2=>(
bif (decide (v50<(p0.nodes.length:Int)))then(
(zaE p0.nodes v50).bind λx8=>
((bif (decide (x8.zaF<1))then(
some true)
else(
some (decide (4<x8.zaF))):Option Bool)).bind λv62=>
bif v62 then(
some (.ret ((S_net_network.mk (S_api_Net.mk 0 []) [] [] []),50)))
else(
(zaE l2 v50).bind λx12=>
(zeT l2 v50 x8.zaF).bind λy14=>
zdG p0 n (w64 (v5 * x8.zaF)) (w64 (v50+1)) y14))
else(
some (.go (v5,l2))))
def zei(x18:S_api_Node)(p0:S_api_Net)(v82:Int):Nat->Int->Int->(List Int)->Option (Out (List Int) (S_net_network×Int))
 | 0,_,_,_=>none
 | n+1,v10,v90,l3'=>(
bif (decide (v90<(x18.parents.length:Int)))then(
(zaE x18.parents v90).bind λx21=>
((bif (decide (x21<=v10))then(
some true)
else(
bif (decide ((p0.nodes.length:Int)<=x21))then(
some true)
else(
some (x21 == v82))):Option Bool)).bind λv109=>
bif v109 then(
some (.ret ((S_net_network.mk (S_api_Net.mk 0 []) [] [] []),50)))
else(
(zaE l3' v82).bind λx26=>
(zpp .u64 1 x21).bind λq28=>
(zeT l3' v82 (orI .u64 x26 q28)).bind λy30=>
zei x18 p0 v82 n x21 (w64 (v90+1)) y30))
else(
some (.go l3')))
def zdH(p0:S_api_Net)(l2:(List Int)):Nat->Int->(List Int)->Option (Out (List Int) (S_net_network×Int))
 | 0,_,_=>none
 | n+1,v82,l3=>(
bif (decide (v82<(p0.nodes.length:Int)))then(
(zaE p0.nodes v82).bind λx18=>
((zei x18 p0 v82 ((x18.parents.length:Int) - 0+2:Int).toNat (-1) 0 l3:Option (Out (List Int) (S_net_network×Int)))).bind λo=>match o with
| .go l3'=>(
(zbV (S_net_network.mk p0 l2 l3' []) x18).bind λr32=>
bif r32 then(
zdH p0 l2 n (w64 (v82+1)) l3')
else(
some (.ret ((S_net_network.mk (S_api_Net.mk 0 []) [] [] []),50))))
| .ret r=>some (.ret r))
else(
some (.go l3)))
def ze1(p0:S_api_Net):Option (S_net_network×Int):=
((bif (decide (p0.grain<1))then(
some true)
else(
bif (decide (60<p0.grain))then(
some true)
else(
bif (decide ((p0.nodes.length:Int)<1))then(
some true)
else(
some (decide (8<(p0.nodes.length:Int)))))):Option Bool)).bind λv34=>
bif v34 then(
some ((S_net_network.mk (S_api_Net.mk 0 []) [] [] []),50))
else(
(zd7 8 (p0.nodes.length:Int) 0).bind λy5=>
((zdG p0 ((p0.nodes.length:Int) - 0+2:Int).toNat 1 0 y5:Option (Out (Int×(List Int)) (S_net_network×Int)))).bind λo=>match o with
| .go (v5,l2)=>(
bif (decide (1024<v5))then(
some ((S_net_network.mk (S_api_Net.mk 0 []) [] [] []),50))
else(
((zdH p0 l2 ((p0.nodes.length:Int) - 0+2:Int).toNat 0 y5:Option (Out (List Int) (S_net_network×Int)))).bind λo=>match o with
| .go l3=>(
(zeA l3).bind λr35=>
bif r35.2 then(
some ((S_net_network.mk p0 l2 l3 r35.1),0))
else(
some ((S_net_network.mk (S_api_Net.mk 0 []) [] [] []),50)))
| .ret r=>some r))
| .ret r=>some r)
theorem zkq{p0:S_api_Net}{r:(S_net_network×Int)}(h:ze1 p0=some r):Lx.FnA mC 59 [(.agg [(dI p0.grain),(fzE false zab p0.nodes)])] (.tup [(.agg [(dI r.1.net.grain),(fzE false zab r.1.net.nodes),(fzE false (eI .i64) r.1.zaf),(fzE false (eI .u64) r.1.sets),(fzE false (eI .i64) r.1.order)]),(dI r.2)]):=by
 refine zCt ?_;unfold ze1 at h;refine wSM ?_;obtain⟨o1,j1,h⟩:=bsM h;refine usM [1,2] 2 (λa:Bool=>([(34,(dB a))],[],[])) λT1 hT1=>?_
 refine EvL.jn T1 _ (bJM j1 hT1) ?_;rintro v34 rfl;refine wTM hT1 ?_;refine cBM h (λ_ h=>?_) λ_ h=>?_
 .obtain⟨y5,g6,h⟩:=bsM h;refine sXM (anM ((zar g6).1.1) (anM ((zar g6).1.2) (anM @qbI (anM (miM g6) (muM g6))))) ?_;obtain⟨o5,j5,h⟩:=bsM h;obtain⟨T5,hT5⟩:=zdp hT1 λa:(Int×(List Int))=>uKM (T1 v34) [2] [(4,(.ptr 4 0)),(5,(dI a.1))] [(0,.gone)] [.els 1 (a.2.map ((eI .i64).c true)),.els 1 (y5.map ((eI .u64).c true)),.cells [(dI p0.grain),(fzE false zab p0.nodes),(.sl 2 0 1 (Int.toNat (p0.nodes.length:Int)) (some (Int.toNat (p0.nodes.length:Int))) (Int.toNat (p0.nodes.length:Int))),(.sl 3 0 1 (Int.toNat (p0.nodes.length:Int)) (some (Int.toNat (p0.nodes.length:Int))) (Int.toNat (p0.nodes.length:Int))),zez]]
  refine EvL.jn T5 (λa=>o5=.go a/\a.2.length=(Int.toNat (p0.nodes.length:Int))) ?_ ?_
  .refine wSM ?_;obtain⟨T8,hT8⟩:=zdp hT1 λa:(Int×Int×(List Int))=>uKM (T1 v34) [2] [(4,(.ptr 4 0)),(5,(dI a.1)),(48,(fzE false zab p0.nodes)),(49,(dI (p0.nodes.length:Int))),(50,(dI a.2.1))] [(0,.gone)] [.els 1 (a.2.2.map ((eI .i64).c true)),.els 1 (y5.map ((eI .u64).c true)),.cells [(dI p0.grain),(fzE false zab p0.nodes),(.sl 2 0 1 (Int.toNat (p0.nodes.length:Int)) (some (Int.toNat (p0.nodes.length:Int))) (Int.toNat (p0.nodes.length:Int))),(.sl 3 0 1 (Int.toNat (p0.nodes.length:Int)) (some (Int.toNat (p0.nodes.length:Int))) (Int.toNat (p0.nodes.length:Int))),zez]]
   refine rdM hT8 (λn a=>zdG p0 n a.1 a.2.1 a.2.2=some o5/\a.2.2.length=(Int.toNat (p0.nodes.length:Int))) (1,0,y5) ⟨j5,zbh g6⟩ ?_;rintro n ⟨v5,v50,l2⟩ ⟨j5,el2⟩;simp only[zdG]at j5;refine wTM hT8 ?_;refine cBM j5 (λ_ j5=>?_) λ_ j5=>?_
   .obtain rfl:=qaf j5;exact zcz hT5 _ ⟨rfl,el2⟩
   obtain⟨x8,g9,j5⟩:=bsM j5;refine sXM (anM @zaj (zaz (n:=3) (e:=zab) rfl g9)) ?_;obtain⟨o9,j9,j5⟩:=bsM j5;obtain⟨T9,hT9⟩:=zdp hT8 λa:Bool=>uDM (T8 (v5,v50,l2)) [] [(6,(dI v50)),(7,(.ptr 5 0)),(62,(dB a))] [] [.cells [(dI x8.zaF),(fzE false (eI .i64) x8.parents),(fzE false (eL (eI .i64)) x8.rows)]]
   refine EvL.jn T9 _ (bJM j9 hT9) ?_;rintro v62 rfl;refine wTM hT9 ?_;refine cBM j5 (λ_ j5=>?_) λ_ j5=>?_
   .obtain⟨x12,g13,y14,g15,j5⟩:=zgs j5;refine sXM (anM el2 (anM (za2 g13) (anM (ltM el2 g13) (anM (giM g13) (siM g15))))) ?_;exact zcz hT8 ((w64 (v5 * x8.zaF)),(w64 (v50+1)),y14) ⟨j5,(zaS g15).trans el2⟩
   obtain rfl:=qaf j5;exact rHM h
  rintro⟨v5,l2⟩ ⟨rfl,el2⟩;dsimp only at h;refine wTM hT5 ?_;refine cBM h (λ_ h=>?_) λ_ h=>?_
  .obtain⟨o34,j34,h⟩:=bsM h;obtain⟨T34,hT34⟩:=zdp hT5 λa:(List Int)=>uDM (T5 (v5,l2)) [5] [] [(3,.els 1 (a.map ((eI .u64).c true)))] []
   refine EvL.jn T34 (λa=>o34=.go a/\a.length=(Int.toNat (p0.nodes.length:Int))) ?_ ?_
   .refine wSM ?_;obtain⟨T51,hT51⟩:=zdp hT5 λa:(Int×(List Int))=>uDM (T5 (v5,l2)) [5] [(80,(fzE false zab p0.nodes)),(81,(dI (p0.nodes.length:Int))),(82,(dI a.1))] [(3,.els 1 (a.2.map ((eI .u64).c true)))] []
    refine rdM hT51 (λn a=>zdH p0 l2 n a.1 a.2=some o34/\a.2.length=(Int.toNat (p0.nodes.length:Int))) (0,y5) ⟨j34,zbh g6⟩ ?_;rintro n ⟨v82,l3⟩ ⟨j34,el3⟩;simp only[zdH]at j34;refine wTM hT51 ?_;refine cBM j34 (λ_ j34=>?_) λ_ j34=>?_
    .obtain rfl:=qaf j34;exact zcz hT34 _ ⟨rfl,el3⟩
    obtain⟨x18,g19,j34⟩:=bsM j34;refine sXM (anM @zaj (zaz (n:=3) (e:=zab) rfl g19)) ?_;obtain⟨o55,j55,j34⟩:=bsM j34;obtain⟨T55,hT55⟩:=zdp hT51 λa:(List Int)=>uDM (T51 (v82,l3)) [] [(9,(.ptr 5 0))] [(3,.els 1 (a.map ((eI .u64).c true)))] [.cells [(dI x18.zaF),(fzE false (eI .i64) x18.parents),(fzE false (eL (eI .i64)) x18.rows)]]
    refine EvL.jn T55 (λa=>o55=.go a/\a.length=(Int.toNat (p0.nodes.length:Int))) ?_ ?_
    .refine wSM ?_;obtain⟨T58,hT58⟩:=zdp hT51 λa:(Int×Int×(List Int))=>uDM (T51 (v82,l3)) [] [(8,(dI v82)),(9,(.ptr 5 0)),(10,(dI a.1)),(88,(fzE false (eI .i64) x18.parents)),(89,(dI (x18.parents.length:Int))),(90,(dI a.2.1))] [(3,.els 1 (a.2.2.map ((eI .u64).c true)))] [.cells [(dI x18.zaF),(fzE false (eI .i64) x18.parents),(fzE false (eL (eI .i64)) x18.rows)]]
     refine rdM hT58 (λn a=>zei x18 p0 v82 n a.1 a.2.1 a.2.2=some o55/\a.2.2.length=(Int.toNat (p0.nodes.length:Int))) ((-1),0,l3) ⟨j55,el3⟩ ?_;rintro n ⟨v10,v90,l3'⟩ ⟨j55,el3'⟩;simp only[zei]at j55;refine wTM hT58 ?_;refine cBM j55 (λ_ j55=>?_) λ_ j55=>?_
     .obtain rfl:=qaf j55;exact zcz hT55 _ ⟨rfl,el3'⟩
     obtain⟨x21,g22,j55⟩:=bsM j55;refine sXM (ixM g22) ?_;obtain⟨o59,j59,j55⟩:=bsM j55;obtain⟨T59,hT59⟩:=zdp hT58 λa:Bool=>uDM (T58 (v10,v90,l3')) [10] [(12,(dI x21)),(109,(dB a))] [] []
     refine EvL.jn T59 _ (bJM j59 hT59) ?_;rintro v109 rfl;refine wTM hT59 ?_;refine cBM j55 (λ_ j55=>?_) λ_ j55=>?_
     .obtain⟨x26,g27,q28,g29,y30,g31,j55⟩:=zjp j55;refine sXM (anM el3' (anM (za2 g27) (anM (ltM el3' g27) (anM (guM g27) (anM ((zbK g29).1) (anM ((zbK g29).2) (suM g31))))))) ?_;exact zcz hT58 (x21,(w64 (v90+1)),y30) ⟨j55,(zaS g31).trans el3'⟩
     obtain rfl:=qaf j55;obtain rfl:=qaf j34;exact rHM h
    rintro l3' ⟨rfl,el3'⟩;dsimp only at j34;refine wTM hT55 ?_;obtain⟨r32,g33,j34⟩:=bsM j34;refine sSM ?_;refine fCM (zgX g33) ?_;refine cBM j34 (λ_ j34=>?_) λ_ j34=>?_
    .obtain rfl:=qaf j34;exact rHM h
    exact zcz hT51 ((w64 (v82+1)),l3') ⟨j34,el3'⟩
   rintro l3 ⟨rfl,el3⟩;dsimp only at h;refine wTM hT34 ?_;obtain⟨r35,g36,h⟩:=bsM h;refine sSM ?_;refine fCM (zns g36) ?_;refine cBM h (λ_ h=>?_) λ_ h=>?_
   .exact rHM h
   exact rHM h
  exact rHM h
 exact rHM h
def zaV(p0:S_api_Factor)(kp0:Int):Option Bool:=
(zb8 p0 kp0).bind λr1=>
some r1
theorem zej{p0:S_api_Factor}{kp0:Int}{r:Bool}(h:zaV p0 kp0=some r):Lx.Fn mC 80 [(.agg [(fzE false (eI .i64) p0.vars),(fzE false (eI .i64) p0.zaf),(fzE false (eI .i64) p0.w)]),(.fptr false [(dI kp0)])] (dB r):=by
 refine gnO ?_;unfold zaV at h;refine zad ?_;obtain⟨r1,g2,h⟩:=bsM h;refine sSM ?_;refine fCM (zgf g2) ?_;exact rHM h
def zbS(p0:(List S_api_Factor))(kp0:Int):Nat->Int->(List S_api_Factor)->(List S_api_Factor)->Option ((List S_api_Factor)×(List S_api_Factor))
 | 0,_,_,_=>none
 | n+1,v10,l0,l1=>(
bif (decide (v10<(p0.length:Int)))then(
(zaE p0 v10).bind λx2=>
(zaV x2 kp0).bind λr4=>
((bif r4 then(
(zdE 72 l0 [x2]).bind λy9=>
some (y9,l1))
else(
(zdE 72 l1 [x2]).bind λy7=>
some (l0,y7)):Option (((List S_api_Factor)×(List S_api_Factor))))).bind λo=>match o with
|(l0',l1')=>(
zbS p0 kp0 n (w64 (v10+1)) l0' l1'))
else(
some (l0,l1)))
def zcX(p0:(List S_api_Factor))(kp0:Int):Option ((List S_api_Factor)×(List S_api_Factor)):=
((zbS p0 kp0 ((p0.length:Int) - 0+2:Int).toNat 0 [] []:Option (((List S_api_Factor)×(List S_api_Factor))))).bind λo=>match o with
|(l0,l1)=>(
some (l0,l1))
theorem zjD{p0:(List S_api_Factor)}{kp0:Int}{r:((List S_api_Factor)×(List S_api_Factor))}(h:zcX p0 kp0=some r):Lx.FnT mC 79 [(fzE false zaa p0),(.clo 80 [] [(.fptr false [(dI kp0)])])] [(.sl 0 0 3 r.1.length none r.1.length),(.sl 1 0 3 r.2.length none r.2.length)] [.grow 3 (r.1.map (zaa.c false)),.grow 3 (r.2.map (zaa.c false))]:=by
 refine zHI (by conv=>lhs; cbv) ?_;unfold zcX at h;refine wSM ?_;obtain⟨o5,j5,h⟩:=bsM h;refine usM [] 0 (λa:((List S_api_Factor)×(List S_api_Factor))=>([(4,(.sl 0 0 3 a.1.length none a.1.length)),(5,(.sl 1 0 3 a.2.length none a.2.length))],[],[.grow 3 (a.1.map (zaa.c false)),.grow 3 (a.2.map (zaa.c false))])) λT5 hT5=>?_
 refine EvL.jn T5 (λa=>a=o5) ?_ ?_
 .refine wSM ?_;obtain⟨T9,hT9⟩:=mkT λa:(Int×(List S_api_Factor)×(List S_api_Factor))=>⟨28,[(1,(.clo 80 [] [(.fptr false [(dI kp0)])])),(4,(.sl 0 0 3 a.2.1.length none a.2.1.length)),(5,(.sl 1 0 3 a.2.2.length none a.2.2.length)),(8,(fzE false zaa p0)),(9,(dI (p0.length:Int))),(10,(dI a.1))],[.grow 3 (a.2.1.map (zaa.c false)),.grow 3 (a.2.2.map (zaa.c false))]⟩
  refine EvL.zgB (zbi.ghost (n:=3) (k:=4) (by decide) rfl) ?_;refine EvL.zgB (zbi.ghost (n:=3) (k:=5) (by decide) rfl) ?_;refine EvL.rounds (α:=(Int×(List S_api_Factor)×(List S_api_Factor))) T9 (λn a=>zbS p0 kp0 n a.1 a.2.1 a.2.2=some o5) ((p0.length:Int) - 0+2:Int).toNat (0,[],[]) (by rw[hT9]; exact wm0 [.k,.k] ⟨MB.gs zaa false [],⟨MB.gs zaa false [],qds⟩⟩) j5 (λ_ h=>nomatch (show(none:Option ((List S_api_Factor)×(List S_api_Factor)))=some o5 from h)) ?_;rintro n ⟨v10,l0,l1⟩ j5;simp only[zbS]at j5;refine wTM hT9 ?_;refine cBM j5 (λ_ j5=>?_) λ_ j5=>?_
  .exact zde j5 hT5
  obtain⟨x2,g3,r4,g5,j5⟩:=zgs j5;refine sXM (anM @zc5 (zaz (n:=3) (e:=zaa) rfl g3)) ?_;refine EvL.fnv rfl rfl (zej g5) rfl (.cons (.zyP (.cons (zeg _ _ (λh=>nomatch h)) (.cons (zeg _ _ (λh=>nomatch h)) (.cons (zeg _ _ (λh=>nomatch h)) .nil)))) (.cons (.fptr (λh=>nomatch h) rfl (Snps.get (.cons (.lit _) .nil))) .nil)) ?_;refine sSM ?_;obtain⟨o10,j10,j5⟩:=bsM j5;obtain⟨T10,hT10⟩:=zdp hT9 λa:((List S_api_Factor)×(List S_api_Factor))=>uDM (T9 (v10,l0,l1)) [4,5] [(4,(.sl 0 0 3 a.1.length none a.1.length)),(5,(.sl 1 0 3 a.2.length none a.2.length))] [(0,.grow 3 (a.1.map (zaa.c false))),(1,.grow 3 (a.2.map (zaa.c false)))] []
  refine EvL.jn T10 (λa=>a=o10) ?_ ?_
  .refine wSM ?_;refine cBM j10 (λ_ j10=>?_) λ_ j10=>?_
   .obtain⟨y7,g8,j10⟩:=bsM j10;refine sXM (anM (zb9 g8) (anM (plM g8) (show l1.map (zaa.c false)++ [[(fzE false (eI .i64) x2.vars),(fzE false (eI .i64) x2.zaf),(fzE false (eI .i64) x2.w)]]=y7.map (zaa.c false)from zdW g8 (zaa.c false)))) ?_;exact zde j10 hT10
   obtain⟨y9,g10,j10⟩:=bsM j10;refine sXM (anM (zb9 g10) (anM (plM g10) (show l0.map (zaa.c false)++ [[(fzE false (eI .i64) x2.vars),(fzE false (eI .i64) x2.zaf),(fzE false (eI .i64) x2.w)]]=y9.map (zaa.c false)from zdW g10 (zaa.c false)))) ?_;exact zde j10 hT10
  rintro⟨l0',l1'⟩ rfl;dsimp only at j5;refine wTM hT10 ?_;exact zcz hT9 ((w64 (v10+1)),l0',l1') j5
 rintro⟨l0,l1⟩ rfl;dsimp only at h;refine wTM hT5 ?_;obtain rfl:=qaf h;exact zBK.ret (⟨28,[(4,(.sl 0 0 3 l0.length none l0.length)),(5,(.sl 1 0 3 l1.length none l1.length))],[.grow 3 (l0.map (zaa.c false)),.grow 3 (l1.map (zaa.c false))]⟩) (wAM) rfl rfl
def zaM(x4:S_api_Node)(v29:Int)(p0:S_eliminate_query):Nat->Int->(List Int)->(List Int)->Option ((List Int)×(List Int))
 | 0,_,_,_=>none
 | n+1,v37,l1',l2'=>(
bif (decide (v37<(x4.parents.length:Int)))then(
(zaE x4.parents v37).bind λx7=>
(zaE l1' v29).bind λx9=>
(zpp .u64 1 x7).bind λq11=>
(zeT l1' v29 (orI .u64 x9 q11)).bind λy13=>
(zaE l2' x7).bind λx15=>
(zpp .u64 1 v29).bind λq17=>
(zeT l2' x7 (orI .u64 x15 q17)).bind λy19=>
zaM x4 v29 p0 n (w64 (v37+1)) y13 y19)
else(
some (l1',l2')))
def zaA(p0:S_eliminate_query):Nat->Int->Int->(List Int)->(List Int)->Option (Int×(List Int)×(List Int))
 | 0,_,_,_,_=>none
 | n+1,v5,v29,l1,l2=>(
bif (decide (v29<(p0.net.nodes.length:Int)))then(
(zaE p0.net.nodes v29).bind λx4=>
((zaM x4 v29 p0 ((x4.parents.length:Int) - 0+2:Int).toNat 0 l1 l2:Option (((List Int)×(List Int))))).bind λo=>match o with
|(l1',l2')=>(
(zaE p0.known v29).bind λx21=>
((bif (decide (0<=x21))then(
(zpp .u64 1 v29).bind λq24=>
some (orI .u64 v5 q24))
else(
some v5):Option Int)).bind λv5'=>
zaA p0 n v5' (w64 (v29+1)) l1' l2'))
else(
some (v5,l1,l2)))
def zaN(p0:S_eliminate_query)(l1:(List Int)):Nat->Int->Int->Option Int
 | 0,_,_=>none
 | n+1,v5'',v78=>(
bif (decide (v78<(((Int.toNat (p0.net.nodes.length:Int)):Nat):Int)))then(
(zaE l1 v78).bind λx28=>
(ziN .u64 v5'' v78).bind λq30=>
((bif ((ziv .u64 q30 1)== 1)then(
some (orI .u64 v5'' x28))
else(
some v5''):Option Int)).bind λv5'''=>
zaN p0 l1 n v5''' (w64 (v78+1)))
else(
some v5''))
def zau(p0:S_eliminate_query)(l1:(List Int)):Nat->Int->Int->Option Int
 | 0,_,_=>none
 | n+1,v5',v74=>(
bif (decide (v74<(p0.net.nodes.length:Int)))then(
((zaN p0 l1 ((((Int.toNat (p0.net.nodes.length:Int)):Nat):Int) - 0+2:Int).toNat v5' 0:Option Int)).bind λv5''=>
zau p0 l1 n v5'' (w64 (v74+1)))
else(
some v5'))
def zaL(N:Nat)(p0:S_eliminate_query)(l1:(List Int))(l2:(List Int))(v5:Int)(v5':Int):Nat->Int->Int->Option Int
 | 0,_,_=>none
 | n+1,v13,v103=>(
bif (decide (v103<(p0.net.nodes.length:Int)))then(
(zcd N v103 l1 l2 v5 v5').bind λr37=>
(ziN .u64 r37 p0.node).bind λq39=>
((bif ((ziv .u64 q39 1)== 1)then(
(zpp .u64 1 v103).bind λq42=>
some (orI .u64 v13 q42))
else(
some v13):Option Int)).bind λv13'=>
zaL N p0 l1 l2 v5 v5' n v13' (w64 (v103+1)))
else(
some v13))
def zaQ(N:Nat)(p0:S_eliminate_query):Option Int:=
(zd7 8 (p0.net.nodes.length:Int) 0).bind λy1=>
((zaA p0 ((p0.net.nodes.length:Int) - 0+2:Int).toNat 0 0 y1 y1:Option ((Int×(List Int)×(List Int))))).bind λo=>match o with
|(v5,l1,l2)=>(
((zau p0 l1 ((p0.net.nodes.length:Int) - 0+2:Int).toNat v5 0:Option Int)).bind λv5'=>
(ziN .u64 v5 p0.node).bind λq33=>
bif ((ziv .u64 q33 1)== 1)then(
some 0)
else(
((zaL N p0 l1 l2 v5 v5' ((p0.net.nodes.length:Int) - 0+2:Int).toNat 0 0:Option Int)).bind λv13=>
some v13))
theorem zft{N:Nat}{p0:S_eliminate_query}{r:Int}(h:zaQ N p0=some r):Lx.Fn mC 43 [(.agg [(dI p0.net.grain),(fzE false zab p0.net.nodes),(fzE false (eI .i64) p0.known),(dI p0.node)])] (dU r):=by
 refine gnO ?_;unfold zaQ at h;refine zad ?_;obtain⟨y1,g2,h⟩:=bsM h;refine sXM (anM ((zar g2).1.1) (anM ((zar g2).1.2) (anM @qbI (muM g2)))) ?_;obtain⟨o10,j10,h⟩:=bsM h;obtain⟨T10,hT10⟩:=mkT λa:(Int×(List Int)×(List Int))=>⟨123,[(1,(.ptr 0 0)),(3,(.sl 1 0 1 (Int.toNat (p0.net.nodes.length:Int)) (some (Int.toNat (p0.net.nodes.length:Int))) (Int.toNat (p0.net.nodes.length:Int)))),(4,(.sl 2 0 1 (Int.toNat (p0.net.nodes.length:Int)) (some (Int.toNat (p0.net.nodes.length:Int))) (Int.toNat (p0.net.nodes.length:Int)))),(5,(dU a.1))],[.cells [(dI p0.net.grain),(fzE false zab p0.net.nodes),(fzE false (eI .i64) p0.known),(dI p0.node)],.els 1 (a.2.1.map ((eI .u64).c true)),.els 1 (a.2.2.map ((eI .u64).c true))]⟩
 refine EvL.jn T10 (λa=>a=o10/\a.2.1.length=(Int.toNat (p0.net.nodes.length:Int))/\a.2.2.length=(Int.toNat (p0.net.nodes.length:Int))) ?_ ?_
 .refine wSM ?_;obtain⟨T17,hT17⟩:=mkT λa:(Int×Int×(List Int)×(List Int))=>⟨123,[(1,(.ptr 0 0)),(3,(.sl 1 0 1 (Int.toNat (p0.net.nodes.length:Int)) (some (Int.toNat (p0.net.nodes.length:Int))) (Int.toNat (p0.net.nodes.length:Int)))),(4,(.sl 2 0 1 (Int.toNat (p0.net.nodes.length:Int)) (some (Int.toNat (p0.net.nodes.length:Int))) (Int.toNat (p0.net.nodes.length:Int)))),(5,(dU a.1)),(27,(fzE false zab p0.net.nodes)),(28,(dI (p0.net.nodes.length:Int))),(29,(dI a.2.1))],[.cells [(dI p0.net.grain),(fzE false zab p0.net.nodes),(fzE false (eI .i64) p0.known),(dI p0.node)],.els 1 (a.2.2.1.map ((eI .u64).c true)),.els 1 (a.2.2.2.map ((eI .u64).c true))]⟩
  refine rdM hT17 (λn a=>zaA p0 n a.1 a.2.1 a.2.2.1 a.2.2.2=some o10/\a.2.2.1.length=(Int.toNat (p0.net.nodes.length:Int))/\a.2.2.2.length=(Int.toNat (p0.net.nodes.length:Int))) (0,0,y1,y1) ⟨j10,zbh g2,zbh g2⟩ ?_;rintro n ⟨v5,v29,l1,l2⟩ ⟨j10,el1,el2⟩;simp only[zaA]at j10;refine wTM hT17 ?_;refine cBM j10 (λ_ j10=>?_) λ_ j10=>?_
  .obtain rfl:=qaf j10;exact zcz hT10 _ ⟨rfl,el1,el2⟩
  obtain⟨x4,g5,j10⟩:=bsM j10;refine sXM (anM @zaj (zaz (n:=3) (e:=zab) rfl g5)) ?_;obtain⟨o18,j18,j10⟩:=bsM j10;obtain⟨T18,hT18⟩:=zdp hT17 λa:((List Int)×(List Int))=>uDM (T17 (v5,v29,l1,l2)) [] [(6,(dI v29))] [(1,.els 1 (a.1.map ((eI .u64).c true))),(2,.els 1 (a.2.map ((eI .u64).c true)))] []
  refine EvL.jn T18 (λa=>a=o18/\a.1.length=(Int.toNat (p0.net.nodes.length:Int))/\a.2.length=(Int.toNat (p0.net.nodes.length:Int))) ?_ ?_
  .refine wSM ?_;obtain⟨T19,hT19⟩:=zdp hT17 λa:(Int×(List Int)×(List Int))=>uDM (T17 (v5,v29,l1,l2)) [] [(6,(dI v29)),(35,(fzE false (eI .i64) x4.parents)),(36,(dI (x4.parents.length:Int))),(37,(dI a.1))] [(1,.els 1 (a.2.1.map ((eI .u64).c true))),(2,.els 1 (a.2.2.map ((eI .u64).c true)))] []
   refine rdM hT19 (λn a=>zaM x4 v29 p0 n a.1 a.2.1 a.2.2=some o18/\a.2.1.length=(Int.toNat (p0.net.nodes.length:Int))/\a.2.2.length=(Int.toNat (p0.net.nodes.length:Int))) (0,l1,l2) ⟨j18,el1,el2⟩ ?_;rintro n ⟨v37,l1',l2'⟩ ⟨j18,el1',el2'⟩;simp only[zaM]at j18;refine wTM hT19 ?_;refine cBM j18 (λ_ j18=>?_) λ_ j18=>?_
   .obtain rfl:=qaf j18;exact zcz hT18 _ ⟨rfl,el1',el2'⟩
   obtain⟨x7,g8,j18⟩:=bsM j18;obtain⟨x9,g10,j18⟩:=bsM j18;obtain⟨q11,g12,j18⟩:=bsM j18;obtain⟨y13,g14,j18⟩:=bsM j18;obtain⟨x15,g16,j18⟩:=bsM j18;obtain⟨q17,g18,j18⟩:=bsM j18;obtain⟨y19,g20,j18⟩:=bsM j18;refine sXM (anM (ixM g8) (anM el1' (anM (za2 g10) (anM (ltM el1' g10) (anM (guM g10) (anM ((zbK g12).1) (anM ((zbK g12).2) (anM (suM g14) (anM el2' (anM (ltM el2' g16) (anM (guM g16) (anM ((zbK g18).2) (suM g20))))))))))))) ?_;exact zcz hT19 ((w64 (v37+1)),y13,y19) ⟨j18,(zaS g14).trans el1',(zaS g20).trans el2'⟩
  rintro⟨l1',l2'⟩ ⟨rfl,el1',el2'⟩;dsimp only at j10;refine wTM hT18 ?_;obtain⟨x21,g22,j10⟩:=bsM j10;refine sXM (ixM g22) ?_;obtain⟨o20,j20,j10⟩:=bsM j10;obtain⟨T20,hT20⟩:=zdp hT18 λa:Int=>uDM (T18 (l1',l2')) [5,6] [(5,(dU a))] [] []
  refine EvL.jn T20 (λa=>a=o20) ?_ ?_
  .refine wSM ?_;refine cBM j20 (λ_ j20=>?_) λ_ j20=>?_
   .exact zde j20 hT20
   obtain⟨q24,g25,j20⟩:=bsM j20;refine sXM (anM ((zbK g25).1) ((zbK g25).2)) ?_;exact zde j20 hT20
  rintro v5' rfl;refine wTM hT20 ?_;exact zcz hT17 (v5',(w64 (v29+1)),l1',l2') ⟨j10,el1',el2'⟩
 rintro⟨v5,l1,l2⟩ ⟨rfl,el1,el2⟩;dsimp only at h;refine wTM hT10 ?_;obtain⟨o45,j45,h⟩:=bsM h;obtain⟨T45,hT45⟩:=zdp hT10 λa:Int=>uDM (T10 (v5,l1,l2)) [5] [(5,(dU a)),(10,(dU v5))] [] []
 refine EvL.jn T45 (λa=>a=o45) ?_ ?_
 .refine wSM ?_;obtain⟨T62,hT62⟩:=zdp hT10 λa:(Int×Int)=>uDM (T10 (v5,l1,l2)) [5] [(5,(dU a.1)),(10,(dU v5)),(73,(dI (p0.net.nodes.length:Int))),(74,(dI a.2))] [] []
  refine rdM hT62 (λn a=>zau p0 l1 n a.1 a.2=some o45) (v5,0) j45 ?_;rintro n ⟨v5',v74⟩ j45;simp only[zau]at j45;refine wTM hT62 ?_;refine cBM j45 (λ_ j45=>?_) λ_ j45=>?_
  .exact zde j45 hT45
  refine sXM el1 ?_;obtain⟨o66,j66,j45⟩:=bsM j45;obtain⟨T66,hT66⟩:=zdp hT62 λa:Int=>uDM (T62 (v5',v74)) [5] [(5,(dU a))] [] []
  refine EvL.jn T66 (λa=>a=o66) ?_ ?_
  .refine wSM ?_;obtain⟨T69,hT69⟩:=zdp hT62 λa:(Int×Int)=>uDM (T62 (v5',v74)) [5] [(5,(dU a.1)),(76,(.sl 1 0 1 (Int.toNat (p0.net.nodes.length:Int)) (some (Int.toNat (p0.net.nodes.length:Int))) (Int.toNat (p0.net.nodes.length:Int)))),(77,(dI (((Int.toNat (p0.net.nodes.length:Int)):Nat):Int))),(78,(dI a.2))] [] []
   refine rdM hT69 (λn a=>zaN p0 l1 n a.1 a.2=some o66) (v5',0) j66 ?_;rintro n ⟨v5'',v78⟩ j66;simp only[zaN]at j66;refine wTM hT69 ?_;refine cBM j66 (λ_ j66=>?_) λ_ j66=>?_
   .exact zde j66 hT66
   obtain⟨x28,g29,j66⟩:=bsM j66;obtain⟨q30,g31,j66⟩:=bsM j66;refine sXM (anM el1 (anM (za2 g29) (anM (ltM el1 g29) (anM (guM g29) ((zaX g31).2))))) ?_;obtain⟨o70,j70,j66⟩:=bsM j66;obtain⟨T70,hT70⟩:=zdp hT69 λa:Int=>uDM (T69 (v5'',v78)) [5] [(5,(dU a))] [] []
   refine EvL.jn T70 _ (bJM j70 hT70) ?_;rintro v5''' rfl;refine wTM hT70 ?_;exact zcz hT69 (v5''',(w64 (v78+1))) j66
  rintro v5'' rfl;refine wTM hT66 ?_;exact zcz hT62 (v5'',(w64 (v74+1))) j45
 rintro v5' rfl;refine wTM hT45 ?_;obtain⟨q33,g34,h⟩:=bsM h;refine sXM (anM ((zaX g34).1) ((zaX g34).2)) ?_;refine cBM h (λ_ h=>?_) λ_ h=>?_
 .obtain⟨o74,j74,h⟩:=bsM h;obtain⟨T74,hT74⟩:=mkT λa:Int=>⟨123,[(13,(dU a))],[]⟩
  refine EvL.jn T74 (λa=>a=o74) ?_ ?_
  .refine wSM ?_;obtain⟨T77,hT77⟩:=zdp hT45 λa:(Int×Int)=>uDM (T45 v5') [] [(13,(dU a.1)),(102,(dI (p0.net.nodes.length:Int))),(103,(dI a.2))] [] []
   refine rdM hT77 (λn a=>zaL N p0 l1 l2 v5 v5' n a.1 a.2=some o74) (0,0) j74 ?_;rintro n ⟨v13,v103⟩ j74;simp only[zaL]at j74;refine wTM hT77 ?_;refine cBM j74 (λ_ j74=>?_) λ_ j74=>?_
   .exact zde j74 hT74
   obtain⟨r37,g38,j74⟩:=bsM j74;refine sSM ?_;refine fCM (zhA g38) ?_;obtain⟨q39,g40,j74⟩:=bsM j74;refine sXM (anM ((zaX g40).1) ((zaX g40).2)) ?_;obtain⟨o78,j78,j74⟩:=bsM j74;obtain⟨T78,hT78⟩:=zdp hT77 λa:Int=>uDM (T77 (v13,v103)) [13] [(13,(dU a))] [] []
   refine EvL.jn T78 (λa=>a=o78) ?_ ?_
   .refine wSM ?_;refine cBM j78 (λ_ j78=>?_) λ_ j78=>?_
    .exact zde j78 hT78
    obtain⟨q42,g43,j78⟩:=bsM j78;refine sXM (anM ((zbK g43).1) ((zbK g43).2)) ?_;exact zde j78 hT78
   rintro v13' rfl;refine wTM hT78 ?_;exact zcz hT77 (v13',(w64 (v103+1))) j74
  rintro v13 rfl;refine wTM hT74 ?_;exact rHM h
 exact rHM h
end Go.Dc
