/-
 Draft.Net: the parents of a node. Conditions: none.
-/
import Derived.Test.YtbjogdohfhdaiaaCfQt
set_option linter.unusedSimpArgs false
set_option linter.unusedVariables false
set_option maxRecDepth 100000
set_option maxHeartbeats 4000000
namespace Go.Dc
open Go Go.Mx Go.Lx Go.Proofs
def zwt(num:List Int)(ps8 u k:Int)(ps:List Int):Option Bool:=
 (zaC num k).bind λx=>bif x == u then((zkk .u8 ps8 (IntKind.u64.wrap k)).bind λq=>bif ziu .u8 q 1 == 1 then some (decide ((ps.length:Int)<3))else some false)else some false
def zor(num:List Int)(i ps8 u:Int):Nat->Int->List Int->Option (List Int)
 | 0,_,_=>none
 | n+1,k,ps=>bif decide (k<i)then((zwt num ps8 u k ps).bind λb=>bif b then((zc2 8 ps [u]).bind λps2=>zor num i ps8 u n (w64 (k+1)) ps2)else zor num i ps8 u n (w64 (k+1)) ps)else some ps
def zqp(num:List Int)(i ps8 count:Int):Nat->Int->List Int->Option (List Int)
 | 0,_,_=>none
 | n+1,u,ps=>bif decide (u<count)then((zor num i ps8 u (i.toNat+2) 0 ps).bind λps2=>zqp num i ps8 count n (w64 (u+1)) ps2)else some ps
def zov(num:List Int)(i v count ps8:Int)(nodes:List S_api_Node):Option (List S_api_Node):=
 (zaC nodes v).bind λx=>bif x.parents.isEmpty then((zqp num i ps8 count (count.toNat+2) 0 []).bind λps=>zd2 nodes v ⟨x.card,ps,x.rows⟩)else none
def zw1:C:=
 (.seq (.seq (rg [oM 101 14,
 oM 102 10,
 oB 103 .lss 101 102])
 (.cond (.s 103) (.skip)
 (.exit 6)))
 (.seq (.block 7 (.seq (.scope (rg [oM 106 5,
 oM 107 14,
 oI 108 1 106 107,
 oL 109 108,
 oM 110 13,
 oB 111 .eql 109 110,
 oM 112 111,
 oFg 113 1 11 112 true,
 oLg 114 113 112 true,
 oMg 115 14 112 true,
 ⟨some 116,.conv .u64 (.s 115),some (112,true)⟩,
 ⟨some 117,.bin .shr (.s 114) (.s 116),some (112,true)⟩,
 ⟨some 118,.bin .and (.s 117) (.c (.int .u8 1)),some (112,true)⟩,
 ⟨some 119,.bin .eql (.s 118) (.c (.int .u8 1)),some (112,true)⟩,
 ⟨some 120,.pick (.s 112) (.s 119) (.c (.bool false)),none⟩,
 oM 121 120,
 oFg 122 1 4 121 true,
 oLg 123 122 121 true,
 oMg 124 12 121 true,
 ⟨some 125,.idxS 3 (.s 123) (.s 124),some (121,true)⟩,
 oFg 126 1 125 121 true,
 oLg 127 126 121 true,
 ⟨some 128,.len (.s 127),some (121,true)⟩,
 oDg 129 .lss 128 3 121 true,
 ⟨some 130,.pick (.s 121) (.s 129) (.c (.bool false)),none⟩]))
 (.scope (.cond (.s 130) (.reg true false [oF 131 1 4,
 oL 132 131,
 oM 133 12,
 oF 134 1 4,
 oL 135 134,
 oM 136 12,
 oI 137 3 135 136,
 oF 138 1 137,
 oL 139 138,
 oM 140 13,
 ⟨some 141,.bsl 1 1 [(.int .i64 0)] [(0,(.s 140))],none⟩,
 ⟨none,.avo [(.s 131)] (.s 139),none⟩,
 oT 142 1 8 139 141,
 oI 143 3 132 133,
 oF 144 1 143,
 oS 1 144 142])
 (.skip)))))
 (rg [oM 104 14,
 oD 105 .add 104 1,
 oM 14 105])))
def zxM:C:=
 (.seq (.seq (rg [oM 96 13,
 oM 97 3,
 oB 98 .lss 96 97])
 (.cond (.s 98) (.skip)
 (.exit 4)))
 (.seq (.block 5 (.seq (rg [oK 14 0])
 (.scope (.block 6 (.loop zw1)))))
 (rg [oM 99 13,
 oD 100 .add 99 1,
 oM 13 100])))
section
variable (b0 b1:LB) (c40 c42:D) (num:List Int) (i v count ps8 grain:Int) (cnt:Nat) (nodes:List S_api_Node) (x:S_api_Node)
end
variable{nodes':List S_api_Node}
theorem zAd{k:List K}{Q:LX->LSt->Prop}{b0 b1:LB}{c40 c42:D}{num:List Int}{i v count ps8 grain:Int}{cnt:Nat}{nodes:List S_api_Node}(g:zov num i v count ps8 nodes=some nodes')(hb0:∀ kp,LB.kin kp b0)(hb1:∀ kp,LB.kin kp b1)(hc0:∀ kp,D.kin kp c40)(hc2:∀ kp,D.kin kp c42)(hl:nodes.length=cnt)(hk:EvL mC 0 k ⟨187,[(1,.ptr 0 0),(2,.ptr 1 0),(3,dI count),(4,.ptr 3 0),(5,fzE true (eI .i64) num),(10,dI i),(11,.ptr 4 0),(12,dI v)],[b0,b1,.els 3 (nodes'.map (zai.c true)),.cells [dI grain,.sl 2 0 3 cnt (some cnt) cnt],.cells [c40,dU8 ps8,c42]]⟩ Q):
  EvL mC 0 (.code (.scope (.block 4 (.loop zxM))):: k) ⟨187,[(1,.ptr 0 0),(2,.ptr 1 0),(3,dI count),(4,.ptr 3 0),(5,fzE true (eI .i64) num),(10,dI i),(11,.ptr 4 0),(12,dI v),(13,dI 0)],[b0,b1,.els 3 (nodes.map (zai.c true)),.cells [dI grain,.sl 2 0 3 cnt (some cnt) cnt],.cells [c40,dU8 ps8,c42]]⟩ Q:=by
 unfold zov at g;obtain⟨x,gx,g⟩:=bind_some g;cases hp:x.parents.isEmpty with
 | false=>rw[hp]at g; cases g
 | true=>
 rw[hp,qdl]at g;obtain⟨ps,gu,g⟩:=bind_some g;have hv0:=zaL gx;have hv1:v<((cnt:Nat):Int):=hl ▸ zb3 gx;have hxe:=zaQ gx (zai.c true);have hxl:=(qab.1 (ziI gx)).1;have hgs:∀ C:List D,((nodes.map (zai.c true)).set v.toNat C)[v.toNat]? = some C:=λC=>by rw[qaC (by simpa using hxl)]
 obtain⟨HP,hHP⟩:∃ HP:List Int->List LB,HP=(λa=>[b0,b1,.els 3 ((nodes.map (zai.c true)).set v.toNat [dI x.card,.sl 5 0 1 a.length none a.length,nE true (eL (eI .i64)) x.rows]),.cells [dI grain,.sl 2 0 3 cnt (some cnt) cnt],.cells [c40,dU8 ps8,c42],.grow 1 (a.map ((eI .i64).c true))]):=⟨_,rfl⟩;refine EvL.jn (α:=Unit) (λ_=>⟨187,[(1,.ptr 0 0),(2,.ptr 1 0),(3,dI count),(4,.ptr 3 0),(5,fzE true (eI .i64) num),(10,dI i),(11,.ptr 4 0),(12,dI v)],[b0,b1,.els 3 (nodes'.map (zai.c true)),.cells [dI grain,.sl 2 0 3 cnt (some cnt) cnt],.cells [c40,dU8 ps8,c42]]⟩) (λ_=>True) ?_ (λ_ _=>hk);refine zab ?_;simp only[rnA];refine EvL.zjG (zaT.zxb (n:=1) (b:=2) (i:=v.toNat) (o:=1) (by decide) rfl hxe (by rw[zed,zw4 _ _ hp]; rfl)) ?_;obtain⟨T,hT⟩:∃ T:Int×List Int->LSt,T=(λa=>⟨187,[(1,.ptr 0 0),(2,.ptr 1 0),(3,dI count),(4,.ptr 3 0),(5,fzE true (eI .i64) num),(10,dI i),(11,.ptr 4 0),(12,dI v),(13,dI a.1)],HP a.2⟩):=⟨_,rfl⟩;refine EvL.rounds T (λn a=>zqp num i ps8 count n a.1 a.2=some ps) (count.toNat+2) (0,[]) (by rw[hT,hHP]; exact zaT.sub ⟨rfl,rfl,rfl,rfl,rfl,rfl,rfl,rfl,rfl,qdk⟩) gu (λ_ h=>nomatch h) ?_;rintro n ⟨u,a⟩ h;simp only[zqp]at h;rw[congrFun hT (u,a),congrFun hHP a];simp only[zxM,zqj];refine zab ?_;cases c1:decide (u<count)with
 | false=>
  rw[c1,qdm]at h;cases h;simp only[rnA,Nat.reduceEqDiff,Nat.reduceLT,c1];exact⟨(),qdk,wm0 [.k,.k,.k,.k,.k,.f] ⟨.same (hb0 _),.same (hb1 _),MB.close g (.cons (.same trivial) (.cons (.fr (ztf (t:=true) rfl rfl rfl rfl (λh=>by cases h<;>rfl))) (.cons (.same (zmZ _ _ _ _)) .nil))),MB.cs ⟨qdk,rfl,qdk⟩,MB.cs ⟨hc0 _,qdk,hc2 _,qdk⟩,qdk⟩⟩
 | true=>
  rw[c1,qdl]at h;obtain⟨a2,gk,h⟩:=bind_some h;simp only[rnA,Nat.reduceEqDiff,Nat.reduceLT,c1];refine EvL.scope (zab ?_);simp only[rnA];obtain⟨TK,hTK⟩:∃ TK:Int×List Int->LSt,TK=(λa=>⟨187,[(1,.ptr 0 0),(2,.ptr 1 0),(3,dI count),(4,.ptr 3 0),(5,fzE true (eI .i64) num),(10,dI i),(11,.ptr 4 0),(12,dI v),(13,dI u),(14,dI a.1)],HP a.2⟩):=⟨_,rfl⟩;refine EvL.rounds TK (λn a=>zor num i ps8 u n a.1 a.2=some a2) (i.toNat+2) (0,a) (by rw[hTK,hHP]; exact zaT.sub ⟨rfl,rfl,rfl,rfl,rfl,rfl,rfl,rfl,rfl,rfl,qdk⟩) gk (λ_ h=>nomatch h) ?_;rintro m ⟨kk,b⟩ hk2;simp only[zor]at hk2;rw[congrFun hTK (kk,b),congrFun hHP b];simp only[zw1,zqj];refine zab ?_;cases c2:decide (kk<i)with
  | false=>
   rw[c2,qdm]at hk2;replace hk2:=qal hk2; subst hk2;simp only[rnA,Nat.reduceEqDiff,Nat.reduceLT,c2];exact⟨(w64 (u+1),b),h,by rw[hT,hHP]; exact zaT.sub ⟨rfl,rfl,rfl,rfl,rfl,rfl,rfl,rfl,rfl,qdk⟩⟩
  | true=>
   rw[c2,qdl]at hk2;obtain⟨t,gc,hk2⟩:=bind_some hk2;unfold zwt at gc;obtain⟨y,gy,gc⟩:=bind_some gc;simp only[rnA,Nat.reduceEqDiff,Nat.reduceLT,c2];refine EvL.scope (zab ?_);cases c3:(y == u)with
   | false=>
    rw[c3,qdm]at gc;replace gc:=qal gc; subst gc;rw[qdm]at hk2;simp only[rnA,Nat.reduceEqDiff,Nat.reduceLT,c3,zao (n:=1) (e:=(eI .i64)) rfl gy];refine EvL.scope (zab ?_);simp only[rnA,Nat.reduceEqDiff,Nat.reduceLT];exact⟨(w64 (kk+1),b),hk2,by rw[hTK,hHP]; exact zaT.sub ⟨rfl,rfl,rfl,rfl,rfl,rfl,rfl,rfl,rfl,rfl,qdk⟩⟩
   | true=>
    rw[c3,qdl]at gc;obtain⟨q,gq,gc⟩:=bind_some gc;cases c4:(ziu .u8 q 1 == 1)with
    | false=>
     rw[c4,qdm]at gc;replace gc:=qal gc; subst gc;rw[qdm]at hk2;simp only[rnA,Nat.reduceEqDiff,Nat.reduceLT,c3,c4,zao (n:=1) (e:=(eI .i64)) rfl gy,(zbm gq).1,(zbm gq).2];refine EvL.scope (zab ?_);simp only[rnA,Nat.reduceEqDiff,Nat.reduceLT];exact⟨(w64 (kk+1),b),hk2,by rw[hTK,hHP]; exact zaT.sub ⟨rfl,rfl,rfl,rfl,rfl,rfl,rfl,rfl,rfl,rfl,qdk⟩⟩
    | true=>
     rw[c4,qdl]at gc;replace gc:=qal gc; subst gc;simp only[rnA,Nat.reduceEqDiff,Nat.reduceLT,c3,c4,zao (n:=1) (e:=(eI .i64)) rfl gy,(zbm gq).1,(zbm gq).2,hv0,hv1,qaG,hl,hgs];refine EvL.scope (zab ?_);cases c5:decide ((b.length:Int)<3)with
     | false=>
      rw[c5,qdm]at hk2;simp only[rnA,Nat.reduceEqDiff,Nat.reduceLT];exact⟨(w64 (kk+1),b),hk2,by rw[hTK,hHP]; exact zaT.sub ⟨rfl,rfl,rfl,rfl,rfl,rfl,rfl,rfl,rfl,rfl,qdk⟩⟩
     | true=>
      rw[c5,qdl]at hk2;obtain⟨b2,gb,hk2⟩:=bind_some hk2;simp only[rnA,Nat.reduceEqDiff,Nat.reduceLT,Nat.reduceAdd,Nat.reduceLeDiff,Nat.reduceBEq,hv0,hv1,qaG,hl,hgs,List.set_set,zby gb,(show b.length+1=b2.length from zfb gb),(show b.map ((eI .i64).c true)++ [[dI u]]=b2.map ((eI .i64).c true)from zdo gb ((eI .i64).c true))];exact⟨(w64 (kk+1),b2),hk2,by rw[hTK,hHP]; exact wm0 [.k,.k,.k,.k,.k,.k] ⟨.same (hb0 _),.same (hb1 _),MB.opn ⟨qdk,rfl,zmZ _ _ _ _,qdk⟩,MB.cs ⟨qdk,rfl,qdk⟩,MB.cs ⟨hc0 _,qdk,hc2 _,qdk⟩,MB.gs (eI .i64) true b2,qdk⟩⟩
theorem zjZ{num:List Int}{i v count ps8:Int}{nodes:List S_api_Node}(g:zov num i v count ps8 nodes=some nodes'):nodes'.length=nodes.length:=by
 unfold zov at g;obtain⟨x,gx,g⟩:=bind_some g;cases hp:x.parents.isEmpty with
 | false=>rw[hp]at g; cases g
 | true=>
 rw[hp,qdl]at g;obtain⟨ps,gu,g⟩:=bind_some g;exact za4 g
def zhh(x:S_api_Node):Option S_api_Node:=some x
def zjp:C:=
 .seq (rg [oW 1 0,
 ⟨some 2,.mov (.c .nilFunc),none⟩])
 (.seq (rg [⟨some 3,.clo 169 [] [(.s 1)],none⟩,
 oM 2 3])
 (.ret))
theorem zlK:zlG mC 150=some (4,zjp,[.tmp 2],false):=zcr (by kernel_rfl)
theorem znN{x r:S_api_Node}(h:zhh x=some r):Lx.FnA mC 150 [.agg (zad.c false x)] (.clo 169 [] [.fptr false (zad.c false r)]):=by
 cases h;refine FnA.of zlK (zbG rfl) (qah rfl) ?_;simp only[zjp,zqj];refine zab ?_;simp only[rnA,Nat.reduceEqDiff,reduceIte,Nat.reduceLT,Nat.reduceAdd,Nat.reduceLeDiff,Nat.reduceMul,Nat.reduceSub,Int.reduceLE,Int.reduceLT,Int.reduceBEq,Nat.reduceBEq,reduceCtorEq,zal];refine zpl.ret rfl (.clo rfl rfl (λi d d' h1 h2=>by simp at h1) λi d d' h1 h2=>?_);cases i with
 | zero=>
  simp only[qcd,qad]at h1 h2;subst h1;subst h2;exact .ptr rfl (qap _) λk d d' h3 h4=>by
   rw[qaK]at h3;exact(zad.snp (L:=_) (t:=false) (t':=false) x id).get k d d' h3 h4
 | succ i=>simp at h1
def zmV:C:=
 (.seq (rg [oB 9 .lss 8 7])
 (.seq (.cond (.s 9) (.skip)
 (.exit 0))
 (.seq (.block 1 (.seq (rg [oM 10 8,
 oI 11 1 6 8,
 oL 12 11,
 oM 3 10,
 oM 4 12])
 (.seq (rg [oM 13 0,
 oM 14 3,
 oM 15 4,
 ⟨some 16,.zdV (.s 13) [(.s 14),(.s 15)],none⟩,
 ⟨some 17,.un .not (.s 16),none⟩])
 (.cond (.s 17) (.ret)
 (.skip)))))
 (rg [oD 18 .add 8 1,
 oM 8 18]))))
def zwO:C:=
 .seq (rg [oF 5 2 1,
 oL 6 5,
 oE 7 6,
 oK 8 0])
 (.scope (.block 0 (.loop zmV)))
theorem zwu:zlG mC 169=some (19,zwO,[],false):=zcr (by kernel_rfl)
variable{α:Type}
theorem zvr{xs:List α}{i:Nat}{x:α}(h:xs[i]? = some x):(zxk xs)[i]? = some ((i:Int),x):=by
 simp[zxk,h]
theorem zwn(xs:List α):(zxk xs).length=xs.length:=by simp[zxk]
variable{L L1:List LB}
theorem zqX(h:L=L1 ++ []):L=L1:=by simpa using h
theorem zm3(x:S_api_Node){u:Unit}(hu:zeh x.rows=some u):Gen mC 169 [] [.fptr false (zad.c false x)] (zxk x.rows) (λy n0 args G=>args=[dI y.1,fzE false (eI .i64) y.2]/\G=[]):=by
 intro n0 β P Ps hβ hlen hround L hP;refine zbA.ofM zwu (zbG rfl) (qah rfl) ?_;simp only[zwO,zqj];refine zab ?_;simp only[rnA,Nat.reduceEqDiff,Nat.reduceLT,Nat.reduceAdd,Nat.reduceLeDiff,reduceCtorEq,zal,za1];refine EvL.scope (zab ?_);simp only[rnA];have hw:∀(i:Nat),(i:Int)<x.rows.length->IntKind.i64.wrap ((i:Int)+1)=((i+1:Nat):Int):=by
  intro i hi;have:=zfr hu;rw[wrap64 (by omega) (by omega)];omega
 refine EvL.loop (α:=Nat×List LB) (λa=>⟨19,[(0,.yld β),(6,fzE false (eL (eI .i64)) x.rows),(7,dI x.rows.length),(8,dI a.1)],a.2⟩) (λa=>P a.1 a.2/\a.1<=x.rows.length) (λa=>x.rows.length - a.1) (0,L) (zaT.sub ⟨rfl,rfl,rfl,rfl,qdk⟩) ⟨hP,qaw _⟩ ?_;rintro⟨i,L'⟩ ⟨hPi,hi⟩;simp only[zmV,zqj];refine zab ?_;cases hc:decide ((i:Int)<(x.rows.length:Int))with
 | false=>
  simp only[rnA,Nat.reduceEqDiff,Nat.reduceLT,reduceCtorEq,hc];refine⟨[],rfl,L',[],by simp,hlen _ _ hPi,.inl ?_⟩;rw[zwn];have h1:=of_decide_eq_false hc;have h2:i=x.rows.length:=by omega
  rw[<- h2];exact hPi
 | true=>
  have h1:=qds hc;have h2:i<x.rows.length:=by omega
  have hg:zaC x.rows (i:Int)=some x.rows[i]:=zlq h2;simp only[rnA,Nat.reduceEqDiff,Nat.reduceLT,reduceCtorEq,hc,zao (n:=1) (e:=eL (eI .i64)) rfl hg];refine EvL.yield rfl rfl rfl (hround i ((i:Int),x.rows[i]) L' _ [] (zvr (qac h2)) hPi ⟨rfl,rfl⟩|> λh=>by rw[qaY]at h; exact h) ?_;rintro b L2 ⟨L1,hL2,hl1,hb⟩;have:=zqX hL2;subst this;cases b with
  | true=>
   simp only[rnA,Nat.reduceEqDiff,Nat.reduceLT,reduceCtorEq];refine⟨(i+1,L2),⟨hb,h2⟩,?_,zaT.sub ⟨rfl,rfl,rfl,?_,qdk⟩⟩
   .show x.rows.length - (i+1)<x.rows.length - i; omega
   .simp only[lk,if_true];rw[hw i h1]
  | false=>
   simp only[rnA,Nat.reduceEqDiff,Nat.reduceLT,reduceCtorEq];exact⟨[],rfl,L2,[],by simp,hl1,.inr hb⟩
def znn:C:=
 (.seq (rg [oB 14 .lss 13 12])
 (.seq (.cond (.s 14) (.skip)
 (.exit 0))
 (.seq (.block 1 (.seq (rg [oM 15 13,
 oI 16 1 11 13,
 oL 17 16,
 oM 7 15,
 oM 8 17])
 (.seq (rg [oM 18 6,
 oM 19 8,
 oB 20 .quo 18 19,
 oM 6 20])
 (.seq (.seq (rg [oM 21 0,
 oM 22 7,
 oM 23 5,
 oM 24 6,
 oB 25 .quo 23 24,
 ⟨some 26,.zdV (.s 21) [(.s 22),(.s 25)],none⟩,
 ⟨some 27,.un .not (.s 26),none⟩])
 (.cond (.s 27) (.ret)
 (.skip)))
 (rg [oM 28 5,
 oM 29 6,
 oB 30 .rem 28 29,
 oM 5 30])))))
 (rg [oD 31 .add 13 1,
 oM 13 31]))))
def zwR:C:=
 .seq (.reg true false [oL 9 1,
 oL 10 2,
 oM 5 9,
 oM 6 10])
 (.seq (rg [oL 11 3,
 oE 12 11,
 oK 13 0])
 (.scope (.block 0 (.loop znn))))
theorem zvk:zlG mC 151=some (32,zwR,[],false):=zcr (by kernel_rfl)
def zuZ:List Int->Int->Int->Nat->Option (List (Int×Int))
 | [],_,_,_=>some []
 | c :: cs,step,rest,p=>(zqO .i64 step c).bind λst=>(zqO .i64 rest st).bind λv=>(znx rest st).bind λr=>(zuZ cs st r (p+1)).map λl=>((p:Int),v):: l
def zzg(cards:List Int)(size i:Int):Option (List (Int×Int)):=(zeh cards).bind λ_=>zuZ cards size i 0
variable{u:List (Int×Int)}
theorem ztH{c:Int}{cs:List Int}{step rest:Int}{p:Nat}(h:zuZ (c :: cs) step rest p=some u):
  ∃ st v r l,zqO .i64 step c=some st/\zqO .i64 rest st=some v/\znx rest st=some r/\zuZ cs st r (p+1)=some l/\u=((p:Int),v):: l:=by
 unfold zuZ at h;obtain⟨st,h1,h⟩:=bind_some h;obtain⟨v,h2,h⟩:=bind_some h;obtain⟨r,h3,h⟩:=bind_some h;cases h4:zuZ cs st r (p+1)with
 | none=>rw[h4]at h; cases h
 | some l=>rw[h4]at h; cases h; exact⟨st,v,r,l,h1,h2,h3,h4,rfl⟩
theorem zrk(h:L=L1 ++ []):L=L1:=by simpa using h
variable{cards:List Int}
theorem zhN{size i:Int}(hu:zzg cards size i=some u):
  Gen mC 151 [] [.fptr false ((eI .i64).c false i),.fptr false ((eI .i64).c false size),.fptr false ((eL (eI .i64)).c false cards)] u (λy n0 args G=>args=[dI y.1,dI y.2]/\G=[]):=by
 intro n0 β P Ps hβ hlen hround L hP;refine zbA.ofM zvk (zbG rfl) (qah rfl) ?_;obtain⟨_,hsm,hv⟩:=bind_some hu;simp only[zwR,zqj];refine zab ?_;simp only[rnA,Nat.reduceEqDiff,Nat.reduceLT,Nat.reduceAdd,reduceCtorEq,za1];refine EvL.scope (zab ?_);simp only[rnA];have hw:∀(k:Nat),(k:Int)<cards.length->IntKind.i64.wrap ((k:Int)+1)=((k+1:Nat):Int):=by
  intro k hk;have:=zfr hsm;rw[wrap64 (by omega) (by omega)];omega
 refine EvL.loop (α:=Nat×Int×Int×List LB) (λa=>⟨32,[(0,.yld β),(5,dI a.2.1),(6,dI a.2.2.1),(11,fzE false (eI .i64) cards),(12,dI cards.length),(13,dI a.1)],a.2.2.2⟩)
  (λa=>P a.1 a.2.2.2/\a.1<=cards.length/\zuZ (cards.drop a.1) a.2.2.1 a.2.1 a.1=some (u.drop a.1)/\a.1<=u.length) (λa=>cards.length - a.1) (0,i,size,L) (zaT.sub ⟨rfl,rfl,rfl,rfl,rfl,rfl,qdk⟩) ⟨hP,qaw _,hv,qaw _⟩ ?_
 rintro⟨k,rest,step,L'⟩ ⟨hPi,hk,hvk,hku⟩;simp only at hPi hk hvk hku;simp only[znn,zqj];refine zab ?_;cases hc:decide ((k:Int)<(cards.length:Int))with
 | false=>
  simp only[rnA,Nat.reduceEqDiff,Nat.reduceLT,reduceCtorEq,hc];refine⟨[],rfl,L',[],by simp,hlen _ _ hPi,.inl ?_⟩;have h1:=of_decide_eq_false hc;have h2:k=cards.length:=by omega
  rw[h2,qcW]at hvk;have h3:u.drop k=[]:=by
   rw[h2];have:=qal hvk;exact this.symm
  have h4:u.length<=k:=qdh.1 h3;have h5:k=u.length:=by omega
  rw[<- h5];exact hPi
 | true=>
  have h1:=qds hc;have h2:k<cards.length:=by omega
  have hg:zaC cards (k:Int)=some cards[k]:=zlq h2;rw[qat h2]at hvk;obtain⟨st,v,r,l,q1,q2,q3,q4,q5⟩:=ztH hvk;have huk:k<u.length:=by
   refine Nat.lt_of_not_le λhn=>?_
   rw[qaD hn]at q5;cases q5
  have hul:u[k]=((k:Int),v)/\u.drop (k+1)=l:=by
   rw[qat huk]at q5;exact⟨(qc5 q5).1,(qc5 q5).2⟩
  simp only[rnA,Nat.reduceEqDiff,Nat.reduceLT,reduceCtorEq,hc,zao (n:=1) (e:=eI .i64) rfl hg,zla q1,znF q1,zla q2,znF q2];refine EvL.yield rfl rfl rfl (hround k ((k:Int),v) L' _ [] (by rw[qac huk,hul.1]) hPi ⟨rfl,rfl⟩|> λh=>by rw[qaY]at h; exact h) ?_;rintro b L2 ⟨L1,hL2,hl1,hb⟩;have:=zrk hL2;subst this;cases b with
  | true=>
   simp only[rnA,Nat.reduceEqDiff,Nat.reduceLT,reduceCtorEq,zhe q3,zii q3];refine⟨(k+1,r,st,L2),⟨hb,h2,by simp only; rw[hul.2]; exact q4,huk⟩,?_,zaT.sub ⟨rfl,rfl,rfl,rfl,rfl,?_,qdk⟩⟩
   .show cards.length - (k+1)<cards.length - k; omega
   .simp only[lk,if_true];rw[hw k h1]
  | false=>
   simp only[rnA,Nat.reduceEqDiff,Nat.reduceLT,reduceCtorEq];exact⟨[],rfl,L2,[],by simp,hl1,.inr hb⟩
def zee(cards:List Int)(size i:Int):Option (List Int×Int×Int):=some (cards,size,i)
def zfW:C:=
 .seq (rg [oW 3 0,
 oW 4 1,
 oW 5 2,
 ⟨some 6,.mov (.c .nilFunc),none⟩])
 (.seq (rg [⟨some 7,.clo 151 [] [(.s 5),(.s 4),(.s 3)],none⟩,
 oM 6 7])
 (.ret))
theorem zhP:zlG mC 136=some (8,zfW,[.tmp 6],false):=zcr (by kernel_rfl)
theorem zof{β:Nat}(e:En α)(x:α)(h:L[β]? = some (.cells (e.c false x))):Snp L false (.ptr β 0) (.fptr false (e.c false x)):=
 .ptr h (by omega) λk d d' h3 h4=>by
  rw[qaK]at h3;exact(e.snp (L:=L) (t:=false) (t':=false) x id).get k d d' h3 h4
theorem zi6{size i:Int}{r:List Int×Int×Int}(h:zee cards size i=some r):
  Lx.FnA mC 136 [fzE false (eI .i64) cards,dI size,dI i] (.clo 151 [] [.fptr false ((eI .i64).c false r.2.2),.fptr false ((eI .i64).c false r.2.1),.fptr false ((eL (eI .i64)).c false r.1)]):=by
 cases h;refine FnA.of zhP (zbG rfl) (qah rfl) ?_;simp only[zfW,zqj];refine zab ?_;simp only[rnA,Nat.reduceEqDiff,reduceIte,Nat.reduceLT,Nat.reduceAdd,Nat.reduceLeDiff,Nat.reduceMul,Nat.reduceSub,Int.reduceLE,Int.reduceLT,Int.reduceBEq,Nat.reduceBEq,reduceCtorEq];exact zpl.ret rfl (.clo rfl rfl (Snps.get .nil) (Snps.get (.cons (zof (eI .i64) i rfl) (.cons (zof (eI .i64) size rfl) (.cons (zof (eL (eI .i64)) cards rfl) .nil)))))
end Go.Dc
