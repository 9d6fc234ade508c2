/-
 What r02_Draft_Permutation computes. Conditions: none.
-/
import Derived.Test.YtbjogdohfhdaiaaCfJ3
import Derived.Test.YtbjogdohfhdaiaaCfJ1
set_option linter.unusedSimpArgs false
set_option linter.unusedVariables false
set_option maxRecDepth 100000
set_option maxHeartbeats 4000000
set_option maxHeartbeats 8000000
namespace Go.Dc
open Go Go.Mx Go.Lx Go.Proofs
def zav(N:Nat)(p0:S_haruspexref02_Draft):Nat->Int->(List Int)->Option (List Int)
 | 0,_,_=>none
 | n+1,v4,l1=>(
(zbD N p0).bind λr1=>
bif (decide (v4<(r1.length:Int)))then(
((bif (decide (v4<(p0.order.length:Int)))then(
(zaC p0.order v4).bind λx5=>
(znx (w64 x5) (w64 (v4+1))).bind λq7=>
some q7)
else(
some 0):Option Int)).bind λv5=>
(ze8 l1 0 v5).bind λy9=>
(zfk 8 y9).bind λy11=>
(zc2 8 y9 [v4]).bind λy13=>
(ze8 l1 v5 l1.length).bind λy15=>
(zc2 8 y13 y15).bind λy17=>
zav N p0 n (w64 (v4+1)) y17)
else(
some l1))
def zaV(N:Nat)(p0:S_haruspexref02_Draft):Option (List Int):=
((zav N p0 N 0 []:Option (List Int))).bind λl1=>
some l1
variable{N:Nat}{r:(List Int)}
theorem zeu{p0:S_haruspexref02_Draft}(h:zaV N p0=some r):Lx.Fn mC 66 [(.agg [(fzE false (eI .u8) p0.c),(.lit (.int .u16 p0.which)),(fzE false (eI .u8) p0.order)])] (fzE true (eI .i64) r):=by
 refine gnO ?_;unfold zaV at h;refine wSM ?_;obtain⟨o5,j5,h⟩:=bsM h;obtain⟨T5,hT5⟩:=mkT λa:(List Int)=>⟨42,[(3,(.sl 1 0 1 a.length none a.length))],[.gone,.grow 1 (a.map ((eI .i64).c true))]⟩
 refine EvL.jn T5 (λa=>a=o5) ?_ ?_
 .refine wSM ?_;obtain⟨T9,hT9⟩:=mkT λa:(Int×(List Int))=>⟨42,[(1,(.ptr 0 0)),(3,(.sl 1 0 1 a.2.length none a.2.length)),(4,(dI a.1))],[.cells [(fzE false (eI .u8) p0.c),(.lit (.int .u16 p0.which)),(fzE false (eI .u8) p0.order)],.grow 1 (a.2.map ((eI .i64).c true))]⟩
  refine EvL.zjG (zaT.ghost (n:=1) (k:=3) (by decide) rfl) ?_;refine EvL.rounds (α:=(Int×(List Int))) T9 (λn a=>zav N p0 n a.1 a.2=some o5) N (0,[]) (by rw[hT9]; exact wm0 [.k,.k] ⟨MB.cs ⟨qdk,qdk,qdk,qdk⟩,⟨MB.gs (eI .i64) true [],qdk⟩⟩) j5 (λ_ h=>nomatch (show(none:Option (List Int))=some o5 from h)) ?_;rintro n ⟨v4,l1⟩ j5;simp only[zav]at j5;refine wTM hT9 ?_;obtain⟨r1,g2,j5⟩:=bsM j5;refine sSM ?_;refine fCM (zgr g2) ?_;refine cBM j5 (λ_ j5=>?_) λ_ j5=>?_
  .exact zeV j5 hT5
  obtain⟨o10,j10,j5⟩:=bsM j5;obtain⟨T10,hT10⟩:=zdD hT9 λa:Int=>uDM (T9 (v4,l1)) [] [(5,(dI a))] [] []
  refine EvL.jn T10 (λa=>a=o10) ?_ ?_
  .refine wSM ?_;refine cBM j10 (λ_ j10=>?_) λ_ j10=>?_
   .exact zeV j10 hT10
   obtain⟨x5,g6,j10⟩:=bsM j10;obtain⟨q7,g8,j10⟩:=bsM j10;refine zu2 (zao (n:=1) (e:=(eI .u8)) rfl g6) (zhe g8) (zii g8) ?_;exact zeV j10 hT10
  rintro v5 rfl;rw[congrFun hT10 v5];refine EvL.zjG (S':=⟨42,[(1,(.ptr 0 0)),(3,(fzE true (eI .i64) l1)),(4,(dI v4)),(5,(dI v5))],[.cells [(fzE false (eI .u8) p0.c),(.lit (.int .u16 p0.which)),(fzE false (eI .u8) p0.order)]]⟩) (zaT.m0 [.k,.f] rfl (msq (mf rfl (zo5 (e:=(eI .i64)) (t:=true) rfl rfl (.inr rfl) rfl rfl (λk h=>nomatch h) (λh=>by cases h<;>rfl)) (msq (msq trivial)))) ⟨MB.cs ⟨qdk,qdk,qdk,qdk⟩,qdk⟩) (zab ?_);obtain⟨y9,g10,j5⟩:=bsM j5;obtain⟨y11,g12,j5⟩:=bsM j5;obtain⟨y13,g14,j5⟩:=bsM j5;obtain⟨y15,g16,j5⟩:=bsM j5;obtain⟨y17,g18,j5⟩:=bsM j5;refine ziz (zAq (n:=1) (e:=(eI .i64)) rfl g10) (zyw (n:=1) (e:=(eI .i64)) rfl) (zmP g12) (zby g14) (plM g14) (anM (piM g14) (anM (zAZ (n:=1) (e:=(eI .i64)) rfl g16) (anM (zby g18) (anM (show y13.length+y15.length=y17.length from zfb g18) (show y13.map ((eI .i64).c true)++ y15.map ((eI .i64).c true)=y17.map ((eI .i64).c true)from zdo g18 ((eI .i64).c true)))))) ?_;exact zdk hT9 ((w64 (v4+1)),y17) j5
 rintro l1 rfl;refine wTM hT5 ?_;exact rHM h
def zbf(p0:S_api_Net)(p1:Int):Option (List Int):=
(zaC p0.nodes p1).bind λx1=>
(zdO p0).bind λr3=>
(zgE r3 x1.parents).bind λr5=>
some r5
theorem zg1{p0:S_api_Net}{p1:Int}(h:zbf p0 p1=some r):Lx.Fn mC 68 [(.agg [(dI p0.grain),(fzE false zad p0.nodes)]),(dI p1)] (fzE true (eI .i64) r):=by
 refine gnO ?_;unfold zbf at h;refine zab ?_;obtain⟨x1,g2,h⟩:=bind_some h;obtain⟨r3,g4,h⟩:=bind_some h;try simp only[rnA,Nat.reduceEqDiff,reduceIte,Nat.reduceLT,Nat.reduceAdd,Nat.reduceLeDiff,Nat.reduceMul,Nat.reduceSub,Int.reduceLE,Int.reduceLT,Int.reduceBEq,Nat.reduceBEq,reduceCtorEq,zal,zaP,za6,zao (n:=3) (e:=zad) rfl g2]
 refine EvL.fn (znp g4) rfl rfl (.cons (.zrH (.cons (.lit _) (.cons (zbL _ _ (λh=>nomatch h)) .nil))) .nil) ?_;obtain⟨r5,g6,h⟩:=bind_some h;try simp only[rnA,Nat.reduceEqDiff,reduceIte,Nat.reduceLT,Nat.reduceAdd,Nat.reduceLeDiff,Nat.reduceMul,Nat.reduceSub,Int.reduceLE,Int.reduceLT,Int.reduceBEq,Nat.reduceBEq,reduceCtorEq,zal,zaP]
 refine EvL.fn (zua g6) rfl rfl (.cons (zbL _ _ (λh=>nomatch h)) (.cons (zbL _ _ (λh=>nomatch h)) .nil)) ?_;try simp only[rnA,Nat.reduceEqDiff,reduceIte,Nat.reduceLT,Nat.reduceAdd,Nat.reduceLeDiff,Nat.reduceMul,Nat.reduceSub,Int.reduceLE,Int.reduceLT,Int.reduceBEq,Nat.reduceBEq,reduceCtorEq,zal,zaP]
 replace h:=qal h; subst h;exact zg4.ret rfl (zbL _ _ (λ_=>rfl))
def zre(grain v:Int)(W:List Int)(nodes:List S_api_Node)(x:S_api_Node):Nat->Int->List (List Int)->Option (List (List Int))
 | 0,_,_=>none
 | n+1,r,rows=>(zd2 nodes v ⟨x.card,x.parents,rows⟩).bind λcur=>
   (zbf ⟨grain,cur⟩ v).bind λpc=>(zen pc).bind λsz=>
   bif decide (r<sz)then((zfq grain x.card W (w64 (r * w64 (x.card+1)))).bind λy=>(zc2 24 rows [y]).bind λrows2=>zre grain v W nodes x n (w64 (r+1)) rows2)else some rows
def znS(N:Nat)(grain v:Int)(W:List Int)(nodes:List S_api_Node):Option (List S_api_Node):=
 (zaC nodes v).bind λx=>bif x.rows.isEmpty then((zre grain v W nodes x N 0 []).bind λrows=>zd2 nodes v ⟨x.card,x.parents,rows⟩)else none
def zxe:C:=
 (.seq (.seq (rg [oM 145 15,
 oN 146 2 4,
 oM 147 12,
 oV 148 68 146 147,
 oU 149 67 148,
 oB 150 .lss 145 149])
 (.cond (.s 150) (.skip)
 (.exit 8)))
 (.seq (.block 9 (.reg true true [oF 153 1 4,
 oL 154 153,
 oM 155 12,
 oF 156 1 4,
 oL 157 156,
 oM 158 12,
 oI 159 3 157 158,
 oF 160 2 159,
 oL 161 160,
 oF 162 0 4,
 oL 163 162,
 oF 164 1 4,
 oL 165 164,
 oM 166 12,
 oI 167 3 165 166,
 oF 168 0 167,
 oL 169 168,
 oF 170 2 11,
 oL 171 170,
 oM 172 15,
 oF 173 1 4,
 oL 174 173,
 oM 175 12,
 oI 176 3 174 175,
 oF 177 0 176,
 oL 178 177,
 oD 179 .add 178 1,
 oB 180 .mul 172 179,
 ⟨some 181,.call 69 [(.s 163),(.s 169),(.s 171),(.s 180)],none⟩,
 ⟨some 182,.bsl 1 1 [(.slice none 0 0)] [(0,(.s 181))],none⟩,
 ⟨none,.avo [(.s 153)] (.s 161),none⟩,
 oT 183 1 24 161 182,
 oI 184 3 154 155,
 oF 185 2 184,
 oS 1 185 183]))
 (rg [oM 151 15,
 oD 152 .add 151 1,
 oM 15 152])))
variable{nodes:List S_api_Node}{v:Int}
theorem zBu{L:List LB}{cur:List S_api_Node}{y:S_api_Node}{c:List D}(g:zd2 nodes v y=some cur)(hc:Snps L false c (zad.c false y)):
  Pw (Snp L false) ((nodes.map (zai.c true)).set v.toNat c) (cur.map (zad.c false)):=by
 rw[<- zbS g (zad.c false)];exact Pw.set (Pw.map (λx=>⟨(zcP (L:=L) (t:=true) (u:=false) (λh=>nomatch h) x).len,(zcP (L:=L) (t:=true) (u:=false) (λh=>nomatch h) x).get⟩) nodes) hc.len hc.get _
variable{W:List Int}{i:Int}{nodes':List S_api_Node}
theorem zAM{k:List K}{Q:LX->LSt->Prop}{b0 b1:LB}{c40 c41:D}{num:List Int}{count grain:Int}{cnt:Nat}(g:znS N grain v W nodes=some nodes')(hb0:∀ kp,LB.kin kp b0)(hb1:∀ kp,LB.kin kp b1)(hc0:∀ kp,D.kin kp c40)(hc1:∀ kp,D.kin kp c41)(hl:nodes.length=cnt)(hk:EvL mC 0 k ⟨187,[(1,.ptr 0 0),(2,.ptr 1 0),(3,dI count),(4,.ptr 3 0),(5,fzE true (eI .i64) num),(10,dI i),(11,.ptr 4 0),(12,dI v)],[b0,b1,.els 3 (nodes'.map (zai.c true)),.cells [dI grain,.sl 2 0 3 cnt (some cnt) cnt],.cells [c40,c41,fzE false (eI .u8) W]]⟩ Q):
  EvL mC 0 (.code (.scope (.block 8 (.loop zxe))):: k) ⟨187,[(1,.ptr 0 0),(2,.ptr 1 0),(3,dI count),(4,.ptr 3 0),(5,fzE true (eI .i64) num),(10,dI i),(11,.ptr 4 0),(12,dI v),(15,dI 0)],[b0,b1,.els 3 (nodes.map (zai.c true)),.cells [dI grain,.sl 2 0 3 cnt (some cnt) cnt],.cells [c40,c41,fzE false (eI .u8) W]]⟩ Q:=by
 unfold znS at g;obtain⟨x,gx,g⟩:=bind_some g;cases hp:x.rows.isEmpty with
 | false=>rw[hp]at g; cases g
 | true=>
 rw[hp,qdl]at g;obtain⟨rows,gu,g⟩:=bind_some g;have hv0:=zaL gx;have hv1:v<((cnt:Nat):Int):=hl ▸ zb3 gx;have hxe:=zaQ gx (zai.c true);have hxl:=(qab.1 (ziI gx)).1;have hgs:∀ C:List D,((nodes.map (zai.c true)).set v.toNat C)[v.toNat]? = some C:=λC=>by rw[qaC (by simpa using hxl)]
 refine EvL.jn (α:=Unit) (λ_=>⟨187,[(1,.ptr 0 0),(2,.ptr 1 0),(3,dI count),(4,.ptr 3 0),(5,fzE true (eI .i64) num),(10,dI i),(11,.ptr 4 0),(12,dI v)],[b0,b1,.els 3 (nodes'.map (zai.c true)),.cells [dI grain,.sl 2 0 3 cnt (some cnt) cnt],.cells [c40,c41,fzE false (eI .u8) W]]⟩) (λ_=>True) ?_ (λ_ _=>hk);refine zab ?_;simp only[rnA];refine EvL.zjG (zaT.zxb (n:=1) (b:=2) (i:=v.toNat) (o:=2) (by decide) rfl hxe (by rw[zed,zw4 _ _ hp]; rfl)) ?_;obtain⟨T,hT⟩:∃ T:Int×List (List Int)->LSt,T=(λa=>⟨187,[(1,.ptr 0 0),(2,.ptr 1 0),(3,dI count),(4,.ptr 3 0),(5,fzE true (eI .i64) num),(10,dI i),(11,.ptr 4 0),(12,dI v),(15,dI a.1)],[b0,b1,.els 3 ((nodes.map (zai.c true)).set v.toNat [dI x.card,nE true (eI .i64) x.parents,.sl 5 0 1 a.2.length none a.2.length]),.cells [dI grain,.sl 2 0 3 cnt (some cnt) cnt],.cells [c40,c41,fzE false (eI .u8) W],.grow 1 (a.2.map ((eL (eI .i64)).c true))]⟩):=⟨_,rfl⟩;refine EvL.rounds T (λn a=>zre grain v W nodes x n a.1 a.2=some rows) N (0,[]) (by rw[hT]; exact zaT.sub ⟨rfl,rfl,rfl,rfl,rfl,rfl,rfl,rfl,rfl,qdk⟩) gu (λ_ h=>nomatch h) ?_;rintro n ⟨r,a⟩ h;simp only[zre]at h;obtain⟨cur,gcur,h⟩:=bind_some h;obtain⟨pc,gpc,h⟩:=bind_some h;obtain⟨sz,gsz,h⟩:=bind_some h;rw[congrFun hT (r,a)];simp only[zxe,zqj];refine zab ?_;simp only[rnA,Nat.reduceEqDiff,Nat.reduceLT,Nat.reduceAdd,Nat.reduceLeDiff];refine EvL.fn (zg1 gpc) rfl rfl (.cons (.zrH (.cons (.lit _) (.cons (zhW (e:=zad) rfl (.inl rfl) (by rw[qaG,qaX]; exact hl.symm) (by rw[qaG,qaX]; exact hl.symm) (λk h=>by cases h; exact qap _) (zBu gcur (.cons (.lit _) (.cons (zoC _ _ (λh=>nomatch h)) (.cons (zf5 (e:=(eL (eI .i64))) (t:=true) rfl (.inr rfl) rfl rfl (λk h=>nomatch h) (λh=>nomatch h)) .nil))))) .nil))) (.cons (.lit _) .nil)) ?_;simp only[rnA,Nat.reduceLT];refine EvL.fn (zoo gsz) rfl rfl (.cons (zbL _ _ (λh=>nomatch h)) .nil) ?_;cases c1:decide (r<sz)with
 | false=>
  rw[c1,qdm]at h;replace h:=qal h; subst h;simp only[rnA,Nat.reduceEqDiff,Nat.reduceLT,c1];exact⟨(),qdk,wm0 [.k,.k,.k,.k,.k,.f] ⟨.same (hb0 _),.same (hb1 _),MB.close g (.cons (.same trivial) (.cons (.same (zmZ _ _ _ _)) (.cons (.fr (ztf (t:=true) rfl rfl rfl rfl (λh=>by cases h<;>rfl))) .nil))),MB.cs ⟨qdk,rfl,qdk⟩,MB.cs ⟨hc0 _,hc1 _,qdk,qdk⟩,qdk⟩⟩
 | true=>
  rw[c1,qdl]at h;obtain⟨y,gy,h⟩:=bind_some h;obtain⟨b2,gb,h⟩:=bind_some h;simp only[rnA,Nat.reduceEqDiff,Nat.reduceLT,c1,hv0,hv1,qaG,hl,hgs];refine EvL.fn (zrl gy) rfl rfl (.cons (.lit _) (.cons (.lit _) (.cons (zbL _ _ (λh=>nomatch h)) (.cons (.lit _) .nil)))) ?_;simp only[rnA,Nat.reduceEqDiff,Nat.reduceLT,Nat.reduceAdd,Nat.reduceLeDiff,Nat.reduceBEq,hv0,hv1,qaG,hl,hgs,List.set_set,zby gb,(show a.length+1=b2.length from zfb gb),(show a.map ((eL (eI .i64)).c true)++ [[fzE true (eI .i64) y]]=b2.map ((eL (eI .i64)).c true)from zdo gb ((eL (eI .i64)).c true))];exact⟨(w64 (r+1),b2),h,by rw[hT]; exact wm0 [.k,.k,.k,.k,.k,.k] ⟨.same (hb0 _),.same (hb1 _),MB.opn ⟨qdk,zmZ _ _ _ _,rfl,qdk⟩,MB.cs ⟨qdk,rfl,qdk⟩,MB.cs ⟨hc0 _,hc1 _,qdk,qdk⟩,MB.gs (eL (eI .i64)) true b2,qdk⟩⟩
theorem zri{grain:Int}(g:znS N grain v W nodes=some nodes'):nodes'.length=nodes.length:=by
 unfold znS at g;obtain⟨x,gx,g⟩:=bind_some g;cases hp:x.rows.isEmpty with
 | false=>rw[hp]at g; cases g
 | true=>
 rw[hp,qdl]at g;obtain⟨ps,gu,g⟩:=bind_some g;exact za4 g
def vC(x:List Int)(i:Nat):D:=dU (x.getD i 0)
theorem zse{L:List LB}{t':Bool}(x:List Int):∀ l:List Nat,Snps L t' (l.map (vC x)) (l.map (vC x))
 | []=>.nil
 | _ :: r=>.cons (.lit _) (zse x r)
theorem zxB(x:List Int):∀ l:List Nat,D.frs (l.map (vC x))
 | []=>trivial
 | _ :: r=>⟨qdk,zxB x r⟩
theorem zs4(kp:Nat->Bool)(x:List Int):∀ l:List Nat,D.zg5 kp (l.map (vC x))
 | []=>trivial
 | _ :: r=>⟨qdk,zs4 kp x r⟩
def e16:En (List Int) where
 n:=16
 c _ x:=(List.range 16).map (vC x)
 pos:=by decide
 len _ _:=by simp
 snp x _:=zse x _
 mz x _ i d d' h1 h2:=by
  rw[h1]at h2; cases h2;obtain⟨k,_,rfl⟩:=qaJ.1 (qay h1);exact .lit _
 fr x:=zxB x _
 kin kp t x:=zs4 kp x _
def z16:List Int:=List.replicate 16 0
variable{t:Bool}{x:List Int}
theorem zdN:(e16.c t x).length=16:=e16.len t x
theorem zBW:([dU 0,dU 0,dU 0,dU 0,dU 0,dU 0,dU 0,dU 0,dU 0,dU 0,dU 0,dU 0,dU 0,dU 0,dU 0,dU 0]:List D)=e16.c t z16:=rfl
theorem zfv{w:Int}(hx:x.length=16)(h:zaC x i=some w):(e16.c t x)[i.toNat]? = some (dU w):=by
 have h1:=zaQ h λy=>y
 rw[qcg]at h1;have hi:i.toNat<16:=hx ▸ (qab.1 h1).1;show((List.range 16).map (vC x))[i.toNat]? = _;rw[qaO,qbR hi];simp[vC,qaj,h1]
theorem zkW{y:List Int}{w:Int}(hx:x.length=16)(h:zd2 x i w=some y):zox (e16.c t x) i.toNat [dU w]=e16.c t y:=by
 have h1:=zbS h λy=>y
 rw[qcg,qcg]at h1;subst h1;obtain⟨h0,h2⟩:0<=i/\i<x.length:=by
  unfold zd2 at h;split at h
  .assumption
  cases h
 have hi:i.toNat<16:=by omega
 refine qcM λj=>?_
 show((e16.c t x).take i.toNat ++ [dU w]++ (e16.c t x).drop (i.toNat+1))[j]? =((List.range 16).map (vC (x.set i.toNat w)))[j]?;have hl:(e16.c t x).length=16:=zdN;have hg:∀ k:Nat,(e16.c t x)[k]? =((List.range 16).map (vC x))[k]?:=λk=>rfl
 by_cases hj:j<16
 .rw[qaO,qbR hj,qaM];rcases Nat.lt_trichotomy j i.toNat with h3 | h3 | h3
  .rw[qaI,qaf (by simp[hl]; omega),qaA,if_pos h3,hg,qaO,qbR hj,qaM];simp[vC,qaj,qar (by omega:i.toNat≠j)]
  .subst h3;rw[qaI,qak (by simp[hl]; omega)];simp[hl,qbd (Nat.le_of_lt hj),vC,qaj,qaC (show i.toNat<x.length by omega)]
  rw[qak (by simp[hl]; omega),qaB,hg];have:i.toNat+1+(j - ((e16.c t x).take i.toNat ++ [dU w]).length)=j:=by simp[hl]; omega
  rw[this,qaO,qbR hj,qaM];simp[vC,qaj,qar (by omega:i.toNat≠j)]
 rw[qaP (by simp[hl]; omega),qaP (by simp; omega)]
def zkd(x:List Int)(i:Int):Option (List Int):=
 (zo9 .u64 1 (i.tmod 64)).bind λb=>(zaC x (w64 (i.tdiv 64))).bind λw=>zd2 x (w64 (i.tdiv 64)) (orI .u64 w b)
def zjH(rows:List (List (List Int)))(v x i:Int):Option (List (List (List Int))):=
 (zaC rows v).bind λrow=>(zaC row x).bind λip=>(zkd ip i).bind λip'=>(zd2 row x ip').bind λrow'=>zd2 rows v row'
def zxC(i:Int)(vals:List Int):Nat->Int->List (List (List Int))->Option (List (List (List Int)))
 | 0,_,_=>none
 | n+1,v,rows=>bif decide (v<(vals.length:Int))then(zaC vals v).bind λx=>(zjH rows v x i).bind λrows'=>zxC i vals n (w64 (v+1)) rows' else some rows
def zxD:List (Int×List Int)->List (List (List Int))->Option (List (List (List Int)))
 | [],rows=>some rows
 | y :: ys,rows=>(zxC y.1 y.2 (y.2.length+2) 0 rows).bind λrows'=>zxD ys rows'
def zeC:List Int->Option (List (List (List Int)))
 | []=>some []
 | k :: ks=>(zd5 128 k z16).bind λr=>(zeC ks).map λl=>r :: l
def zaW(cards:List Int):Option (List (List (List Int))):=
 (zeh cards).bind λ_=>(zd5 24 (cards.length:Int) ([]:List (List Int))).bind λ_=>(zeC cards).bind λrows=>(zBH cards).bind λu=>zxD u rows
theorem zgb:∀ {cards:List Int} {rows:List (List (List Int))},zeC cards=some rows->rows.length=cards.length
 | [],rows,h=>by cases h; rfl
 | k :: ks,rows,h=>by
  unfold zeC at h;obtain⟨r,_,h⟩:=bind_some h;obtain⟨l,hl,rfl⟩:=mapM_some h;simp[zgb hl]
theorem zgg:∀ {cards:List Int} {rows:List (List (List Int))},zeC cards=some rows->∀(v:Nat) (h1:v<cards.length) (h2:v<rows.length),zd5 128 cards[v] z16=some rows[v]
 | [],rows,h,v,h1,_=>by simp at h1
 | k :: ks,rows,h,v,h1,h2=>by
  unfold zeC at h;obtain⟨r,hr,h⟩:=bind_some h;obtain⟨l,hl,rfl⟩:=mapM_some h;cases v with
  | zero=>exact hr
  | succ v=>exact zgg hl v (by simpa using h1) (by simpa using h2)
def slH:Nat->List Nat->List (List D)
 | _,[]=>[]
 | b,k :: r=>[.sl b 0 16 k (some k) k]:: slH (b+1) r
theorem zf3:∀(cs:List Nat) (b:Nat),(slH b cs).length=cs.length
 | [],_=>rfl
 | k :: r,b=>by simp[slH,zf3 r]
theorem zuM:∀(cs:List Nat) (b v:Nat) (h:v<cs.length),(slH b cs)[v]? = some [.sl (b+v) 0 16 cs[v] (some cs[v]) cs[v]]
 | [],_,v,h=>by simp at h
 | k :: r,b,0,_=>by simp[slH]
 | k :: r,b,v+1,h=>by
  simp only[slH,qa6,qci];rw[zuM r (b+1) v (by simpa using h),show b+1+v=b+(v+1) by omega]
theorem zsL:∀(cs:List Nat) (b k:Nat),slH b (cs ++ [k])=slH b cs ++ [[.sl (b+cs.length) 0 16 k (some k) k]]
 | [],b,k=>by simp[slH]
 | x :: r,b,k=>by
  simp only[slH,qaL,qaH];rw[zsL r (b+1) k,show b+1+r.length=b+(r.length+1) by omega]
theorem zwS{n:Nat}:∀(cs:List Nat) (b:Nat),b+cs.length<=n->∀ cells∈slH b cs,D.scs n cells
 | [],b,_,cells,h=>by simp[slH]at h
 | k :: r,b,hb,cells,h=>by
  simp only[slH,qbc,qaH]at h hb;rcases h with rfl | h
  .exact⟨by show b<n; omega,qdk⟩
  exact zwS r (b+1) (by omega) cells h
def zrs(r:List (List Int)):LB:=.els 16 (r.map (e16.c true))
def zjf(n:Nat):LB:=.cells [.sl 0 0 1 n (some n) n]
def znv(rows:List (List (List Int)))(v:Nat):List LB:=.els 1 (slH 2 ((rows.take v).map List.length)++ List.replicate (rows.length - v) [zfy]):: zjf rows.length ::(rows.take v).map zrs
def zhw(ls:List Nat)(rows:List (List (List Int))):List LB:=.els 1 (slH 2 ls):: zjf ls.length :: rows.map zrs
section
variable {rows:List (List (List Int))} {ls:List Nat}
variable{v:Nat}
theorem zvB(hv:v<=rows.length):(znv rows v).length=2+v:=by simp[znv]; omega
theorem zvW(v:Nat)(X:List LB):(znv rows v ++ X)[1]? = some (zjf rows.length):=rfl
theorem zwq(v:Nat)(X:List LB):(znv rows v ++ X)[0]? = some (.els 1 (slH 2 ((rows.take v).map List.length)++ List.replicate (rows.length - v) [zfy])):=rfl
theorem zt6(hv:v<rows.length):(znv rows v ++ [zrs rows[v]]).set 0 (.els 1 ((slH 2 ((rows.take v).map List.length)++ List.replicate (rows.length - v) [zfy]).set v [.sl (2+v) 0 16 rows[v].length (some rows[v].length) rows[v].length]))=znv rows (v+1):=by
 have hl:(slH 2 ((rows.take v).map List.length)).length=v:=by rw[zf3]; simp; omega
 have h1:rows.length - v=(rows.length - (v+1))+1:=by omega
 unfold znv;rw[qaL,qaL,qbK,List.take_succ_eq_append_getElem hv,qb8,qaS,qc1,zsL,qb8,qbD _ _ (by omega),hl,qbw,h1,qaU,qbK];simp[qbd (Nat.le_of_lt hv)]
theorem zwv(hl:rows.map List.length=ls):znv rows rows.length=zhw ls rows:=by
 unfold znv zhw;subst hl;simp
theorem zgq(hr:rows.length=ls.length):(zhw ls rows).length=2+ls.length:=by simp[zhw,hr]; omega
theorem zqb(hv:v<rows.length)(X:List LB):(zhw ls rows ++ X)[2+v]? = some (zrs rows[v]):=by
 unfold zhw;rw[show 2+v=v+1+1 by omega,qaL,qaL,qa6,qa6,qaf (by simpa using hv)];simp[hv]
theorem zv4(hv:v<rows.length)(r:List (List Int))(X:List LB):(zhw ls rows ++ X).set (2+v) (zrs r)=zhw ls (rows.set v r)++ X:=by
 unfold zhw;rw[show 2+v=v+1+1 by omega,qaL,qaL,qbL,qbL,qcQ _ _ (by simpa using hv)];simp
theorem zyB(n:Nat)(r:List (List Int)):LB.sc n (zrs r):=zsA e16 _ _ _
theorem zjM{n:Nat}:∀(rows:List (List (List Int))),zcB n (rows.map zrs)
 | []=>trivial
 | r :: rows=>⟨zyB n r,zjM rows⟩
theorem zuT{n:Nat}(hn:2+ls.length<=n)(rows:List (List (List Int))):zcB n (zhw ls rows):=⟨λcells h=>zwS ls 2 hn cells h,⟨by show 0<n; omega,qdk⟩,zjM rows⟩
end
structure LOk (ls:List Nat) (rows:List (List (List Int))):Prop where
 len:rows.map List.length=ls
 w:∀ row∈rows,∀ ip∈row,ip.length=16
theorem LOk.ln{ls:List Nat}{rows:List (List (List Int))}(h:LOk ls rows):rows.length=ls.length:=by rw[<- h.len,qaX]
variable{i:Int}
theorem zqv{x y:List Int}(h:zkd x i=some y):y.length=x.length:=by
 unfold zkd at h;obtain⟨_,_,h⟩:=bind_some h;obtain⟨_,_,h⟩:=bind_some h;exact za4 h
theorem zkG{α:Type}{xs ys:List α}{x:α}(h:zd2 xs i x=some ys):ys=xs.set i.toNat x:=by
 have h1:=zbS h λy=>y
 rw[qcg,qcg]at h1;exact h1.symm
theorem LOk.put{ls:List Nat}{rows rows':List (List (List Int))}{v x:Int}(h:LOk ls rows)(hp:zjH rows v x i=some rows'):LOk ls rows':=by
 unfold zjH at hp;obtain⟨row,g1,hp⟩:=bind_some hp;obtain⟨ip,g2,hp⟩:=bind_some hp;obtain⟨ip',g3,hp⟩:=bind_some hp;obtain⟨row',g4,hp⟩:=bind_some hp;have hr:=qay (by have:=zaQ g1 λy=>y; rwa [qcg]at this);have hi:=qay (by have:=zaQ g2 λy=>y; rwa [qcg]at this);have e1:=zkG hp;have e2:=zkG g4;constructor
 .rw[e1,qct,za4 g4,<- h.len];refine qcM λj=>?_
  have h1:=zaQ g1 List.length;by_cases hj:v.toNat=j
  .subst hj;rw[h1,qaC (qab.1 h1).1]
  rw[qar hj]
 intro a ha b hb;rw[e1]at ha;rcases qbg ha with ha | rfl
 .exact h.w a ha b hb
 rw[e2]at hb;rcases qbg hb with hb | rfl
 .exact h.w row hr b hb
 rw[zqv g3]; exact h.w row hr ip hi
theorem zsd{ls:List Nat}{i:Int}{vals:List Int}:∀(n:Nat) (v:Int) (rows rows':List (List (List Int))),LOk ls rows->zxC i vals n v rows=some rows'->LOk ls rows'
 | 0,_,_,_,_,h=>nomatch h
 | n+1,v,rows,rows',hl,h=>by
  unfold zxC at h;cases hc:decide (v<(vals.length:Int))with
  | false=>rw[hc,qdm]at h; cases h; exact hl
  | true=>
   rw[hc,qdl]at h;obtain⟨x,_,h⟩:=bind_some h;obtain⟨r1,g,h⟩:=bind_some h;exact zsd n _ _ _ (hl.put g) h
variable{cards:List Int}
theorem zj1{rows:List (List (List Int))}(h:zeC cards=some rows):LOk (rows.map List.length) rows:=by
 refine⟨rfl,λrow hr ip hi=>?_⟩;obtain⟨v,hv,rfl⟩:=List.getElem_of_mem hr;have h1:=zgg h v (by rw[<- zgb h]; exact hv) hv;have h2:rows[v]=List.replicate (rows[v]).length z16:=by
  have:=zcR h1 λy=>y
  rw[qcg,<- zbB h1]at this;exact this.symm
 rw[h2]at hi;rw[(qcE.1 hi).2];rfl
theorem zw9{L:List LB}:∀(rows:List (List (List Int))) (b:Nat),(∀ v (h:v<rows.length),L[b+v]? = some (zrs rows[v]))->Pw (Snp L true) (slH b (rows.map List.length)) (rows.map ((eL e16).c true))
 | [],b,_=>.nil
 | r :: rs,b,h=>.cons rfl (λj d d' h1 h2=>by
   obtain⟨rfl,rfl⟩:=zhq h1 h2
   exact zf5 (e:=e16) (t:=true) rfl (.inl (h 0 (Nat.zero_lt_succ _))) rfl rfl (λk h=>by cases h; exact qap _) λ_=>rfl) (zw9 rs (b+1) λv hv=>by rw[show b+1+v=b+(v+1) by omega]; exact h (v+1) (qdg hv))
theorem zge{r:List (List (List Int))}(h:zaW cards=some r):Lx.Fn mC 102 [fzE false (eI .i64) cards] (fzE true (eL e16) r):=by
 refine gnO ?_;unfold zaW at h;obtain⟨_,hsm,h⟩:=bind_some h;obtain⟨_,hmk,h⟩:=bind_some h;obtain⟨rows,hrw,h⟩:=bind_some h;obtain⟨u,hu,h⟩:=bind_some h;have hlr:=zgb hrw;have hsl:=zfr hsm;refine zab ?_;simp only[rnA,Nat.reduceEqDiff,Nat.reduceLT,Nat.reduceLeDiff,reduceCtorEq,za1,(zaK hmk).1.1,(zaK hmk).1.2,qbC,qaq];refine EvL.jn (λa:Unit=>⟨55,[(0,fzE false (eI .i64) cards),(3,.ptr 1 0)],zhw (rows.map List.length) rows⟩) (λ_=>True) ?_ ?_
 .refine zab ?_;simp only[rnA];refine EvL.loop (α:=Nat) (λv=>⟨55,[(0,fzE false (eI .i64) cards),(3,.ptr 1 0),(13,fzE false (eI .i64) cards),(14,dI cards.length),(15,dI v)],znv rows v⟩) (λv=>v<=rows.length) (λv=>rows.length - v) 0 ?_ (qaw _) ?_
  .have e0:([.els 1 (List.replicate cards.length [zfy]),.cells [.sl 0 0 1 cards.length (some cards.length) cards.length]]:List LB)=znv rows 0:=by simp[znv,slH,zjf,hlr]
   rw[e0];exact zaT.sub ⟨rfl,rfl,rfl,rfl,rfl,qdk⟩
  intro v hv;refine zab ?_;by_cases hv2:v<cards.length
  .have hlt:decide ((v:Int)<(cards.length:Int))=true:=qdn (by omega);have hw2:IntKind.i64.wrap ((v:Int)+1)=((v+1:Nat):Int):=by rw[wrap64 (by omega) (by omega)]; rfl
   have hv3:v<rows.length:=by omega
   have hmv:=zgg hrw v hv2 hv3;have hk:=zaK hmv;have hkl:cards[v].toNat=rows[v].length:=(zbB hmv).symm;have hrep:List.replicate cards[v].toNat (e16.c true z16)=rows[v].map (e16.c true):=zcR hmv (e16.c true);have hPl:(znv rows v).length=2+v:=zvB (by omega);have h1:=λX=>zvW (rows:=rows) v X
   have h10:(znv rows v)[1]? = some (zjf rows.length):=rfl;have h0:=λX=>zwq (rows:=rows) v X
   have hst:=zt6 hv3;have hRl:(slH 2 ((rows.take v).map List.length)++ List.replicate (rows.length - v) [zfy]).length=rows.length:=by simp[zf3]; omega
   have hRg:(slH 2 ((rows.take v).map List.length)++ List.replicate (rows.length - v) [zfy])[v]? = some [zfy]:=by
    have hsl:(slH 2 ((rows.take v).map List.length)).length=v:=by rw[zf3]; simp; omega
    rw[qak (by omega),hsl,qbw,qbX,if_pos (by omega)]
   have hidx:zaC cards (v:Int)=some cards[v]:=zlq hv2;have hvi:((v:Int)<(rows.length:Int))=True:=eq_true (by omega);generalize (slH 2 ((rows.take v).map List.length)++ List.replicate (rows.length - v) [zfy])=rsl at *;unfold zrs at hst;unfold zjf at h1 h10;generalize znv rows v=M at *;generalize rows[v]=rv at *;generalize cards[v]=k at *;simp only[rnA,Nat.reduceEqDiff,Nat.reduceLT,Nat.reduceAdd,Nat.reduceLeDiff,reduceCtorEq,hlt,zao (n:=1) (e:=eI .i64) rfl hidx,h10,hk.1.1,hk.1.2,qbC,hPl,h0,hRl,hRg,qaF,qaq,zBW,hkl,hw2,hvi];refine⟨v+1,by omega,by omega,?_⟩;have e:(M ++ [LB.els 16 (List.replicate rv.length (e16.c true z16))]).set 0 (.els 1 (rsl.set v [.sl (2+v) 0 16 rv.length (some rv.length) rv.length]))=znv rows (v+1):=by rw[<- hkl,hrep,hkl]; exact hst
   show zaT 0 ⟨55,_,(M ++ [LB.els 16 (List.replicate rv.length (e16.c true z16))]).set 0 (.els 1 (rsl.set v [.sl (2+v) 0 16 rv.length (some rv.length) rv.length]))⟩ _;rw[e];refine zaT.sub ?_;exact⟨rfl,rfl,rfl,rfl,rfl,qdk⟩
  have hlt:decide ((v:Int)<(cards.length:Int))=false:=qdo (by omega);have hve:v=rows.length:=by omega
  subst hve;rw[zwv rfl];simp only[rnA,Nat.reduceEqDiff,Nat.reduceLT,reduceCtorEq,hlt];exact⟨(),qdk,zaT.sub ⟨rfl,rfl,qdk⟩⟩
 intro _ _;have hLk:=zj1 hrw;generalize hls:rows.map List.length=ls at *;have hln:=hLk.ln;refine zab ?_;simp only[rnA,Nat.reduceLT,reduceCtorEq];refine fDM (ze0 (r:=cards) rfl) ?_;refine EvL.zjG (S':=⟨55,[(3,.ptr 1 0),(27,.clo 149 [] [.fptr false ((eL (eI .i64)).c false cards)])],zhw ls rows⟩) (zaT.sub ⟨rfl,rfl,qdk⟩) ?_;refine EvL.zpH (γ:={ a:List (List (List Int)) // LOk ls a }) (n0:=2+ls.length) (zeU hu) rfl (by conv=>lhs; cbv) (λa=>zhw ls a.1) (λi a=>zxD (u.drop i) a.1=some r) (λx L1=>match x with | .normal=>LOk ls r/\L1=zhw ls r | _=>False) ⟨rows,hLk⟩ ?_ (qaw _) ?_ ?_ ?_ (λd L1 hx=>hx.elim) ?_ ?_ ?_ ?_ ?_ ?_
 .intro a; exact zgq a.2.ln
 .exact⟨by show 1<_; omega,⟨qdk,⟨qdk,qdk⟩⟩,qdk⟩
 .intro a; exact zuT (by omega) _
 .intro x L1 hx;cases x with
  | normal=>obtain⟨hx,rfl⟩:=hx; exact⟨zgq hx.ln,zuT (by omega) _⟩
  | ret=>exact hx.elim
  | exit id=>exact hx.elim
  | panic d=>exact hx.elim
 .exact h
 .rintro i ⟨a,ha⟩ y args G lpF hy hi ⟨rfl,rfl⟩ hkin;simp only at hi;rw[zki hy]at hi;simp only[zxD]at hi;obtain⟨b,hb,hi⟩:=bind_some hi;refine⟨_,_,rfl,rfl,?_⟩;obtain⟨T,hT⟩:∃ T:Int×{ a:List (List (List Int)) // LOk ls a }->LSt,T=λp=>⟨55,[(3,.ptr 1 0),(6,dI y.1),(30,.sl (2+ls.length+1) 0 1 y.2.length (some y.2.length) y.2.length),(31,dI y.2.length),(32,dI p.1)],zhw ls p.2.1 ++ [lpF,.els 1 (y.2.map ((eI .i64).c true))]⟩:=⟨_,rfl⟩
  have hm1:∀ c,(zhw ls c ++ [lpF,.els 1 (y.2.map ((eI .i64).c true))])[1]? = some (zjf ls.length):=λc=>rfl
  have hm0:∀ c,(zhw ls c ++ [lpF,.els 1 (y.2.map ((eI .i64).c true))])[0]? = some (.els 1 (slH 2 ls)):=λc=>rfl
  have hmv:∀ c,LOk ls c->(zhw ls c ++ [lpF,.els 1 (y.2.map ((eI .i64).c true))])[2+ls.length+1]? = some (.els 1 (y.2.map ((eI .i64).c true))):=λc hc=>by
   rw[qak (by rw[zgq hc.ln]; omega),zgq hc.ln,show 2+ls.length+1 - (2+ls.length)=1 by omega];rfl
  have hmr:∀(c:List (List (List Int))) (v:Nat) (hv:v<c.length),(zhw ls c ++ [lpF,.els 1 (y.2.map ((eI .i64).c true))])[2+v]? = some (zrs c[v]):=λc v hv=>zqb hv _
  have hms:∀(c:List (List (List Int))) (v:Nat) (hv:v<c.length) row,(zhw ls c ++ [lpF,.els 1 (y.2.map ((eI .i64).c true))]).set (2+v) (zrs row)=zhw ls (c.set v row)++ [lpF,.els 1 (y.2.map ((eI .i64).c true))]:=λc v hv row=>zv4 hv row _
  refine zab ?_;simp only[rnA,Nat.reduceEqDiff,Nat.reduceLT,hmv a ha];refine EvL.jn T (λp=>p.2.1=b) ?_ ?_
  .refine zab ?_;simp only[rnA];refine EvL.rounds T (λn p=>zxC y.1 y.2 n p.1 p.2.1=some b) (y.2.length+2) (0,⟨a,ha⟩) (by rw[hT]; refine zaT.sub ?_; exact⟨rfl,rfl,rfl,rfl,rfl,qdk⟩) hb (λ_ h=>nomatch (show none=some _ from h)) ?_;rintro n ⟨v,c,hc⟩ hp;simp only[zxC]at hp;rw[congrFun hT (v,⟨c,hc⟩)];refine zab ?_;simp only;cases hcc:decide (v<(y.2.length:Int))with
   | false=>
    rw[hcc,qdm]at hp;simp only[rnA,Nat.reduceEqDiff,Nat.reduceLT,hcc];exact⟨(v,⟨c,hc⟩),qal hp,by rw[hT]; refine zaT.sub ?_; exact⟨rfl,rfl,rfl,rfl,rfl,qdk⟩⟩
   | true=>
    rw[hcc,qdl]at hp;obtain⟨x,g1,hp⟩:=bind_some hp;obtain⟨c',g2,hp⟩:=bind_some hp;have hc':=hc.put g2;unfold zjH at g2;obtain⟨row,g3,g2⟩:=bind_some g2;obtain⟨ip,g4,g2⟩:=bind_some g2;obtain⟨ip',g5,g2⟩:=bind_some g2;obtain⟨row',g6,g2⟩:=bind_some g2;unfold zkd at g5;obtain⟨bt,g7,g5⟩:=bind_some g5;obtain⟨w,g8,g5⟩:=bind_some g5;have hv0:=zaL g3;have hvl:v.toNat<c.length:=by have:=zb3 g3; omega
    have hrow:c[v.toNat]=row:=by
     have:=zaQ g3 λy=>y
     rw[qcg,qac hvl]at this;exact qal this
    have hlv:v.toNat<ls.length:=by rw[<- hc.ln]; exact hvl
    have hll:ls[v.toNat]=row.length:=by
     have h1:=hc.len;subst h1;rw[List.getElem_map,hrow]
    have hvn:v<(ls.length:Int):=by omega
    have hip:ip.length=16:=by
     refine hc.w row ?_ ip ?_
     .rw[<- hrow]; exact qas _
     have:=zaQ g4 λy=>y
     rw[qcg]at this;exact qay this
    have hsl2:=zuM ls 2 v.toNat hlv;rw[hll]at hsl2;have hr1:=hmr c v.toNat hvl;rw[hrow]at hr1;have hr2:=hms c v.toNat hvl row';rw[<- zkG g2]at hr2;have h1:=hm1 c;have h0:=hm0 c;have hv5:=hmv c hc;have hl0:=zf3 ls 2;have hq:((IntKind.i64.wrap (y.1.tdiv 64)).toNat<=15)=True:=eq_true (by have h2:=zb3 g8; have h3:=zaL g8; rw[hip]at h2; change 0<=IntKind.i64.wrap (y.1.tdiv 64)at h3; change IntKind.i64.wrap (y.1.tdiv 64)<_ at h2; omega);have hput:List.take (IntKind.i64.wrap (y.1.tdiv 64)).toNat (e16.c true ip)++ [D.lit (.int .u64 (IntKind.u64.wrap (BitVec.ofInt IntKind.u64.bits w ||| BitVec.ofInt IntKind.u64.bits bt).toNat))]++ List.drop ((IntKind.i64.wrap (y.1.tdiv 64)).toNat+1) (e16.c true ip)=e16.c true ip':=zkW hip g5;unfold zrs at hr1 hr2;unfold zjf at h1;generalize zhw ls c ++ [lpF,.els 1 (y.2.map ((eI .i64).c true))]=M at *;generalize slH 2 ls=es at *;simp only[rnA,Nat.reduceEqDiff,Nat.reduceLT,Nat.reduceLeDiff,Int.reduceBEq,hv5,zaL g1,(show v<((y.2.length:Nat):Int)from zb3 g1),zaQ g1 ((eI .i64).c true),h1,h0,hl0,hvn,hsl2,hr1,zaL g4,(show x<((row.length:Nat):Int)from zb3 g4),zaQ g4 (e16.c true),zaL g8,(show w64 (y.1.tdiv 64)<((16:Nat):Int)from hip ▸ zb3 g8),qbI,zfv hip g8,(zdj g7).1,(zdj g7).2,hq,hput,zdN,zbS g6 (e16.c true),hr2];exact⟨(w64 (v+1),⟨c',hc'⟩),hp,by rw[hT]; refine zaT.sub ?_; exact⟨rfl,rfl,rfl,rfl,rfl,qdk⟩⟩
  rintro⟨v,c,hc⟩ rfl;rw[congrFun hT (v,⟨c,hc⟩)];refine zab ?_;simp only[rnA];exact⟨zhw ls c,zgq hc.ln,zaT.sub trivial,⟨c,hc⟩,hi,rfl⟩
 .rintro⟨a,ha⟩ hi;simp only[qcW]at hi;cases hi;exact⟨ha,rfl⟩
 .rintro _ ⟨hr,rfl⟩;refine zab ?_;have h1:(zhw ls r ++ [LB.lost])[1]? = some (zjf ls.length):=rfl;have hpw:Pw (Snp (zhw ls r ++ [LB.lost]) true) (slH 2 ls) (r.map ((eL e16).c true)):=by
   have:=zw9 (L:=zhw ls r ++ [LB.lost]) r 2 λv hv=>zqb hv _
   rwa [hr.len]at this
  unfold zjf at h1;simp only[rnA,Nat.reduceEqDiff,Nat.reduceLT,h1];exact zg4.ret rfl (zhW (e:=eL e16) rfl (.inl rfl) (zf3 ls 2).symm (zf3 ls 2).symm (λk h=>by cases h; exact qap _) hpw)
 .intro id L1 hx; exact hx.elim
 intro L1 hx; exact hx.elim
def zbp(p0:S_api_Circuit):Nat->Int->Int->Option (Out Int Int)
 | 0,_,_=>none
 | n+1,v3,v33=>(
bif (decide (v33<(p0.cards.length:Int)))then(
(zaC p0.cards v33).bind λx6=>
((bif (decide (x6<1))then(
some true)
else(
some (decide (4<x6))):Option Bool)).bind λv42=>
bif v42 then(
some (.ret 150))
else(
zbp p0 n (w64 (v3 * x6)) (w64 (v33+1))))
else(
some (.go v3)))
def zbq(p0:S_api_Circuit):Nat->Int->Option (Out Unit Int)
 | 0,_=>none
 | n+1,v52=>(
bif (decide (v52<(p0.gates.length:Int)))then(
(zaC p0.gates v52).bind λx12=>
(zbh p0 v52 x12).bind λr14=>
bif r14 then(
zbq p0 n (w64 (v52+1)))
else(
some (.ret 150)))
else(
some (.go ())))
def zca(p0:S_api_Circuit):Option Int:=
((bif (decide ((p0.cards.length:Int)<1))then(
some true)
else(
bif (decide (8<(p0.cards.length:Int)))then(
some true)
else(
bif (decide ((p0.gates.length:Int)<1))then(
some true)
else(
some (decide (4000<(p0.gates.length:Int)))))):Option Bool)).bind λv29=>
bif v29 then(
some 150)
else(
((zbp p0 ((p0.cards.length:Int) - 0+2:Int).toNat 1 0:Option (Out Int Int))).bind λo=>match o with
| .go v3=>(
bif (decide (1024<v3))then(
some 150)
else(
((zbq p0 ((p0.gates.length:Int) - 0+2:Int).toNat 0:Option (Out Unit Int))).bind λo=>match o with
| .go _=>(
some 0)
| .ret r=>some r))
| .ret r=>some r)
variable{p0:S_api_Circuit}
theorem zeQ{r:Int}(h:zca p0=some r):Lx.Fn mC 11 [(.agg [(fzE false (eI .i64) p0.cards),(fzE false zaa p0.gates)])] (dI r):=by
 refine gnO ?_;unfold zca at h;refine wSM ?_;obtain⟨o1,j1,h⟩:=bsM h;obtain⟨T1,hT1⟩:=mkT λa:Bool=>⟨63,[(1,(.ptr 0 0)),(29,(dB a))],[.cells [(fzE false (eI .i64) p0.cards),(fzE false zaa p0.gates)]]⟩
 refine EvL.jn T1 _ (bJM j1 hT1) ?_;rintro v29 rfl;refine wTM hT1 ?_;refine cBM h (λ_ h=>?_) λ_ h=>?_
 .obtain⟨o5,j5,h⟩:=bsM h;obtain⟨T5,hT5⟩:=zdD hT1 λa:Int=>uKM (T1 v29) [1] [(3,(dI a))] [] []
  refine EvL.jn T5 (λa=>o5=.go a) ?_ ?_
  .refine wSM ?_;obtain⟨T8,hT8⟩:=zdD hT1 λa:(Int×Int)=>uKM (T1 v29) [1] [(3,(dI a.1)),(31,(fzE false (eI .i64) p0.cards)),(32,(dI (p0.cards.length:Int))),(33,(dI a.2))] [] []
   refine rdM hT8 (λn a=>zbp p0 n a.1 a.2=some o5) (1,0) j5 ?_;rintro n ⟨v3,v33⟩ j5;simp only[zbp]at j5;refine wTM hT8 ?_;refine cBM j5 (λ_ j5=>?_) λ_ j5=>?_
   .exact zzG j5 hT5
   obtain⟨x6,g7,j5⟩:=bsM j5;refine sXM (ixM g7) ?_;obtain⟨o9,j9,j5⟩:=bsM j5;obtain⟨T9,hT9⟩:=zdD hT8 λa:Bool=>uDM (T8 (v3,v33)) [] [(5,(dI x6)),(42,(dB a))] [] []
   refine EvL.jn T9 _ (bJM j9 hT9) ?_;rintro v42 rfl;refine wTM hT9 ?_;refine cBM j5 (λ_ j5=>?_) λ_ j5=>?_
   .exact zdk hT8 ((w64 (v3 * x6)),(w64 (v33+1))) j5
   obtain rfl:=qal j5;exact rHM h
  rintro v3 rfl;dsimp only at h;refine wTM hT5 ?_;refine cBM h (λ_ h=>?_) λ_ h=>?_
  .obtain⟨o10,j10,h⟩:=bsM h;obtain⟨T10,hT10⟩:=mkT λa:Unit=>⟨63,[],[]⟩
   refine EvL.jn T10 (λa=>o10=.go a) ?_ ?_
   .refine wSM ?_;obtain⟨T11,hT11⟩:=zdD hT5 λa:Int=>uKM (T5 v3) [1] [(50,(fzE false zaa p0.gates)),(51,(dI (p0.gates.length:Int))),(52,(dI a))] [] []
    refine rdM hT11 (λn a=>zbq p0 n a=some o10) 0 j10 ?_;rintro n v52 j10;simp only[zbq]at j10;refine wTM hT11 ?_;refine cBM j10 (λ_ j10=>?_) λ_ j10=>?_
    .exact zzG j10 hT10
    obtain⟨x12,g13,j10⟩:=bsM j10;obtain⟨r14,g15,j10⟩:=bsM j10;refine zku @zaD (zao (n:=5) (e:=zaa) rfl g13) ?_;refine fCM (zfM g15) ?_;refine cBM j10 (λ_ j10=>?_) λ_ j10=>?_
    .obtain rfl:=qal j10;exact rHM h
    exact zdk hT11 (w64 (v52+1)) j10
   rintro⟨⟩ rfl;dsimp only at h;refine wTM hT10 ?_;exact rHM h
  exact rHM h
 exact rHM h
def zaX(x4:S_api_Gate)(v15:Int)(p0:S_api_Circuit):Nat->Int->(List Int)->Option (List Int)
 | 0,_,_=>none
 | n+1,v32,l1''=>(
bif (decide (v32<(x4.args.length:Int)))then(
(zaC x4.args v32).bind λx14=>
(zaC l1'' v15).bind λx16=>
(zaC l1'' x14).bind λx18=>
(zbY [x16,x18]).bind λr20=>
(zd2 l1'' v15 r20).bind λy22=>
zaX x4 v15 p0 n (w64 (v32+1)) y22)
else(
some l1''))
def zaY(p0:S_api_Circuit):Nat->Int->(List Int)->Option (List Int)
 | 0,_,_=>none
 | n+1,v15,l1=>(
bif (decide (v15<(p0.gates.length:Int)))then(
(zaC p0.gates v15).bind λx4=>
((bif (x4.kind == 2)then(
(zo9 .u64 1 x4.var).bind λq7=>
(zaC l1 v15).bind λx9=>
(zd2 l1 v15 q7).bind λy11=>
some y11)
else(
some l1):Option (List Int))).bind λl1'=>
((zaX x4 v15 p0 ((x4.args.length:Int) - 0+2:Int).toNat 0 l1':Option (List Int))).bind λl1''=>
zaY p0 n (w64 (v15+1)) l1'')
else(
some l1))
def zbj(p0:S_api_Circuit):Option (List Int):=
(zd5 8 (p0.gates.length:Int) 0).bind λy1=>
((zaY p0 ((p0.gates.length:Int) - 0+2:Int).toNat 0 y1:Option (List Int))).bind λl1=>
some l1
variable{r:(List Int)}
theorem zfP(h:zbj p0=some r):Lx.Fn mC 55 [(.agg [(fzE false (eI .i64) p0.cards),(fzE false zaa p0.gates)])] (fzE true (eI .u64) r):=by
 refine gnO ?_;unfold zbj at h;refine zab ?_;obtain⟨y1,g2,h⟩:=bsM h;refine zwN ((zaK g2).1.1) ((zaK g2).1.2) @qbC (muM g2) ?_;obtain⟨o10,j10,h⟩:=bsM h;obtain⟨T10,hT10⟩:=mkT λa:(List Int)=>⟨52,[(3,(.sl 1 0 1 (Int.toNat (p0.gates.length:Int)) (some (Int.toNat (p0.gates.length:Int))) (Int.toNat (p0.gates.length:Int))))],[.gone,.els 1 (a.map ((eI .u64).c true))]⟩
 refine EvL.jn T10 (λa=>a=o10/\a.length=(Int.toNat (p0.gates.length:Int))) ?_ ?_
 .refine wSM ?_;obtain⟨T17,hT17⟩:=mkT λa:(Int×(List Int))=>⟨52,[(3,(.sl 1 0 1 (Int.toNat (p0.gates.length:Int)) (some (Int.toNat (p0.gates.length:Int))) (Int.toNat (p0.gates.length:Int)))),(13,(fzE false zaa p0.gates)),(14,(dI (p0.gates.length:Int))),(15,(dI a.1))],[.gone,.els 1 (a.2.map ((eI .u64).c true))]⟩
  refine rdM hT17 (λn a=>zaY p0 n a.1 a.2=some o10/\a.2.length=(Int.toNat (p0.gates.length:Int))) (0,y1) ⟨j10,zbB g2⟩ ?_;rintro n ⟨v15,l1⟩ ⟨j10,el1⟩;simp only[zaY]at j10;refine wTM hT17 ?_;refine cBM j10 (λ_ j10=>?_) λ_ j10=>?_
  .obtain rfl:=qal j10;exact zdk hT10 _ ⟨rfl,el1⟩
  obtain⟨x4,g5,j10⟩:=bsM j10;refine zku @zaD (zao (n:=5) (e:=zaa) rfl g5) ?_;obtain⟨o18,j18,j10⟩:=bsM j10;obtain⟨T18,hT18⟩:=zdD hT17 λa:(List Int)=>uDM (T17 (v15,l1)) [] [(4,(dI v15)),(5,(.ptr 2 0))] [(1,.els 1 (a.map ((eI .u64).c true)))] [.cells [(dI x4.kind),(dI x4.var),(dI x4.val),(dI x4.n),(fzE false (eI .i64) x4.args)]]
  refine EvL.jn T18 (λa=>a=o18/\a.length=(Int.toNat (p0.gates.length:Int))) ?_ ?_
  .refine wSM ?_;refine cBM j18 (λ_ j18=>?_) λ_ j18=>?_
   .obtain rfl:=qal j18;exact zdk hT18 _ ⟨rfl,el1⟩
   obtain⟨q7,g8,j18⟩:=bsM j18;obtain⟨x9,g10,j18⟩:=bsM j18;obtain⟨y11,g12,j18⟩:=bsM j18;refine ziz ((zdj g8).1) ((zdj g8).2) el1 (zaL g10) (ltM el1 g10) (anM (guM g10) (suM g12)) ?_;obtain rfl:=qal j18;exact zdk hT18 _ ⟨rfl,(za4 g12).trans el1⟩
  rintro l1' ⟨rfl,el1'⟩;refine wTM hT18 ?_;obtain⟨o19,j19,j10⟩:=bsM j10;obtain⟨T19,hT19⟩:=zdD hT17 λa:(List Int)=>uDM (T17 (v15,l1)) [] [] [(1,.els 1 (a.map ((eI .u64).c true)))] []
  refine EvL.jn T19 (λa=>a=o19/\a.length=(Int.toNat (p0.gates.length:Int))) ?_ ?_
  .refine wSM ?_;obtain⟨T20,hT20⟩:=zdD hT17 λa:(Int×(List Int))=>uDM (T17 (v15,l1)) [] [(4,(dI v15)),(30,(fzE false (eI .i64) x4.args)),(31,(dI (x4.args.length:Int))),(32,(dI a.1))] [(1,.els 1 (a.2.map ((eI .u64).c true)))] []
   refine rdM hT20 (λn a=>zaX x4 v15 p0 n a.1 a.2=some o19/\a.2.length=(Int.toNat (p0.gates.length:Int))) (0,l1') ⟨j19,el1'⟩ ?_;rintro n ⟨v32,l1''⟩ ⟨j19,el1''⟩;simp only[zaX]at j19;refine wTM hT20 ?_;refine cBM j19 (λ_ j19=>?_) λ_ j19=>?_
   .obtain rfl:=qal j19;exact zdk hT19 _ ⟨rfl,el1''⟩
   obtain⟨x14,g15,j19⟩:=bsM j19;obtain⟨x16,g17,j19⟩:=bsM j19;obtain⟨x18,g19,j19⟩:=bsM j19;obtain⟨r20,g21,j19⟩:=bsM j19;refine ziz (ixM g15) el1'' (zaL g17) (ltM el1'' g17) (guM g17) (anM (zaL g19) (anM (ltM el1'' g19) (guM g19))) ?_;refine EvL.fn (zfm g21) rfl rfl (.cons (zf5 (e:=(eI .u64)) (t:=true) rfl (.inl rfl) rfl rfl (λk h=>by cases h; exact qap _) (λh=>nomatch h)) .nil) ?_;obtain⟨y22,g23,j19⟩:=bsM j19;refine zxN el1'' (zaL g17) (ltM el1'' g17) (guM g17) (suM g23) ?_;exact zdk hT20 ((w64 (v32+1)),y22) ⟨j19,(za4 g23).trans el1''⟩
  rintro l1'' ⟨rfl,el1''⟩;refine wTM hT19 ?_;exact zdk hT17 ((w64 (v15+1)),l1'') ⟨j10,el1''⟩
 rintro l1 ⟨rfl,el1⟩;refine wTM hT10 ?_;exact rHM h
def zcV(p0:Int)(p1:Int):Option Int:=
(zdn (IntKind.u64.wrap p0) (IntKind.u64.wrap p1)).bind λr1=>
((bif (decide (0<r1.1))then(
some true)
else(
some (decide (4611686018427387903<r1.2))):Option Bool)).bind λv20=>
bif v20 then(
some 4611686018427387904)
else(
some (w64 r1.2))
theorem zbX{p0:Int}{p1:Int}{r:Int}(h:zcV p0 p1=some r):Lx.Fn mC 112 [(dI p0),(dI p1)] (dI r):=by
 refine gnO ?_;unfold zcV at h;refine zab ?_;obtain⟨r1,g2,h⟩:=bsM h;refine sSM ?_;refine fCM (zlk g2) ?_;obtain⟨o1,j1,h⟩:=bsM h;obtain⟨T1,hT1⟩:=mkT λa:Bool=>⟨23,[(6,(dU r1.2)),(20,(dB a))],[]⟩
 refine EvL.jn T1 (λa=>a=o1) ?_ ?_
 .refine wSM ?_;refine cBM j1 (λc3 j1=>?_) λc3 j1=>?_
  .refine sXM c3 ?_;exact zeV j1 hT1
  refine sXM c3 ?_;exact zeV j1 hT1
 rintro v20 rfl;refine wTM hT1 ?_;refine cBM h (λc4 h=>?_) λc4 h=>?_
 .refine sXM c4 ?_;exact rHM h
 refine sXM c4 ?_;exact rHM h
def zaN(p1:S_api_Node)(p0:S_net_network):Nat->Int->Int->Option Int
 | 0,_,_=>none
 | n+1,v5,v16=>(
bif (decide (v16<(p1.parents.length:Int)))then(
(zaC p1.parents v16).bind λx2=>
(zaC p0.cards x2).bind λx4=>
zaN p1 p0 n (w64 (v5 * x4)) (w64 (v16+1)))
else(
some v5))
def zaO(y11:(Int×(List Int))):Nat->Int->Int->Option (Out Int Bool)
 | 0,_,_=>none
 | n+1,v10,v42=>(
bif (decide (v42<(y11.2.length:Int)))then(
(zaC y11.2 v42).bind λx13=>
((bif (decide (x13<0))then(
some true)
else(
some (decide (v10<x13))):Option Bool)).bind λv52=>
bif v52 then(
some (.ret false))
else(
zaO y11 n (w64 (v10 - x13)) (w64 (v42+1))))
else(
some (.go v10)))
def zaH(p0:S_net_network)(p1:S_api_Node):List (Int×(List Int))->Option (Out Unit Bool)
 | []=>some (.go ())
 | y11 :: ys=>(
((zaO y11 ((y11.2.length:Int) - 0+2:Int).toNat p0.net.grain 0:Option (Out Int Bool))).bind λo=>match o with
| .go v10=>(
((bif ((y11.2.length:Int)== p1.card)then(
some (!(v10 == 0)))
else(
some true):Option Bool)).bind λv65=>
bif v65 then(
some (.ret false))
else(
zaH p0 p1 ys))
| .ret r=>some (.ret r))
def zbd(p0:S_net_network)(p1:S_api_Node):Option Bool:=
((zaN p1 p0 ((p1.parents.length:Int) - 0+2:Int).toNat 1 0:Option Int)).bind λv5=>
bif ((p1.rows.length:Int)== v5)then(
(zhh p1).bind λr7=>
(zeh r7.rows).bind λu9=>
((zaH p0 p1 (zxk r7.rows):Option (Out Unit Bool))).bind λo=>match o with
| .go _=>(
some true)
| .ret r=>some r)
else(
some false)
theorem zft{p0:S_net_network}{p1:S_api_Node}{r:Bool}(h:zbd p0 p1=some r):Lx.Fn mC 133 [(.agg [(dI p0.net.grain),(fzE false zad p0.net.nodes),(fzE false (eI .i64) p0.cards),(fzE false (eI .u64) p0.sets),(fzE false (eI .i64) p0.order)]),(.agg [(dI p1.card),(fzE false (eI .i64) p1.parents),(fzE false (eL (eI .i64)) p1.rows)])] (dB r):=by
 refine gnO ?_;unfold zbd at h;refine wSM ?_;obtain⟨o1,j1,h⟩:=bsM h;obtain⟨T1,hT1⟩:=mkT λa:Int=>⟨66,[(2,(.ptr 0 0)),(3,(.ptr 1 0)),(4,(.ptr 2 0)),(5,(dI a))],[.cells [(dI p0.net.grain),(fzE false zad p0.net.nodes),(fzE false (eI .i64) p0.cards),(fzE false (eI .u64) p0.sets),(fzE false (eI .i64) p0.order)],.cells [(dI p1.card),(fzE false (eI .i64) p1.parents),(fzE false (eL (eI .i64)) p1.rows)],.cells [(dB false)]]⟩
 refine EvL.jn T1 (λa=>a=o1) ?_ ?_
 .refine wSM ?_;obtain⟨T2,hT2⟩:=mkT λa:(Int×Int)=>⟨66,[(2,(.ptr 0 0)),(3,(.ptr 1 0)),(4,(.ptr 2 0)),(5,(dI a.1)),(14,(fzE false (eI .i64) p1.parents)),(15,(dI (p1.parents.length:Int))),(16,(dI a.2))],[.cells [(dI p0.net.grain),(fzE false zad p0.net.nodes),(fzE false (eI .i64) p0.cards),(fzE false (eI .u64) p0.sets),(fzE false (eI .i64) p0.order)],.cells [(dI p1.card),(fzE false (eI .i64) p1.parents),(fzE false (eL (eI .i64)) p1.rows)],.cells [(dB false)]]⟩
  refine rdM hT2 (λn a=>zaN p1 p0 n a.1 a.2=some o1) (1,0) j1 ?_;rintro n ⟨v5,v16⟩ j1;simp only[zaN]at j1;refine wTM hT2 ?_;refine cBM j1 (λ_ j1=>?_) λ_ j1=>?_
  .exact zeV j1 hT1
  obtain⟨x2,g3,j1⟩:=bsM j1;obtain⟨x4,g5,j1⟩:=bsM j1;refine zku (ixM g3) (ixM g5) ?_;exact zdk hT2 ((w64 (v5 * x4)),(w64 (v16+1))) j1
 rintro v5 rfl;refine wTM hT1 ?_;refine cBM h (λ_ h=>?_) λ_ h=>?_
 .exact rHM h
 obtain⟨r7,g8,h⟩:=bsM h;refine sSM ?_;refine fDM (znN g8) ?_;refine sXM @zal ?_;obtain⟨u9,g10,h⟩:=bsM h;obtain⟨o12,j12,h⟩:=bsM h;obtain⟨T12,hM12⟩:∃ T:Unit->List LB,T=(λa=>[.cells [(dI p0.net.grain),(fzE false zad p0.net.nodes),(fzE false (eI .i64) p0.cards),(fzE false (eI .u64) p0.sets),(fzE false (eI .i64) p0.order)],.cells [(dI p1.card),(fzE false (eI .i64) p1.parents),(fzE false (eL (eI .i64)) p1.rows)],.cells [(dB false)]]):=⟨_,rfl⟩;refine EvL.zjG (S':=⟨66,[(2,(.ptr 0 0)),(3,(.ptr 1 0)),(4,(.ptr 2 0)),(34,(.clo 169 [] [(.fptr false (zad.c false r7))]))],T12 ()⟩) (by rw[hM12]; exact wAM) ?_;refine EvL.zpH (n0:=3) (zm3 r7 g10) rfl (bm:=.block 3 (.seq (.reg false false [⟨some 37,.fld 0 (.s 2),none⟩,⟨some 38,.fld 0 (.s 37),none⟩,⟨some 39,.load none (.s 38),none⟩,⟨some 10,.mov (.s 39),none⟩]) (.seq (.seq (.reg false false [⟨some 40,.mov (.s 9),none⟩,⟨some 41,.len (.s 40),none⟩,⟨some 42,.mov (.c (.int .i64 0)),none⟩]) (.scope (.block 4 (.loop (.seq (.reg false false [⟨some 43,.bin .lss (.s 42) (.s 41),none⟩]) (.seq (.cond (.s 43) (.skip) (.exit 4)) (.seq (.block 5 (.seq (.reg false false [⟨some 44,.idxS 1 (.s 40) (.s 42),none⟩,⟨some 45,.load none (.s 44),none⟩,⟨some 12,.mov (.s 45),none⟩]) (.seq (.seq (.scope (.reg false false [⟨some 46,.mov (.s 12),none⟩,⟨some 47,.bin .lss (.s 46) (.c (.int .i64 0)),none⟩,⟨some 48,.mov (.s 47),none⟩,⟨some 49,.mov (.s 12),some (48,false)⟩,⟨some 50,.mov (.s 10),some (48,false)⟩,⟨some 51,.bin .gtr (.s 49) (.s 50),some (48,false)⟩,⟨some 52,.pick (.s 48) (.c (.bool true)) (.s 51),none⟩])) (.cond (.s 52) (.seq (.reg false false [⟨none,.store 1 (.s 4) (.c (.bool false)),none⟩]) (.ret)) (.skip))) (.reg false false [⟨some 53,.mov (.s 10),none⟩,⟨some 54,.mov (.s 12),none⟩,⟨some 55,.bin .sub (.s 53) (.s 54),none⟩,⟨some 10,.mov (.s 55),none⟩])))) (.reg false false [⟨some 56,.bin .add (.s 42) (.c (.int .i64 1)),none⟩,⟨some 42,.mov (.s 56),none⟩])))))))) (.seq (.scope (.reg false false [⟨some 57,.mov (.s 9),none⟩,⟨some 58,.len (.s 57),none⟩,⟨some 59,.fld 0 (.s 3),none⟩,⟨some 60,.load none (.s 59),none⟩,⟨some 61,.bin .neq (.s 58) (.s 60),none⟩,⟨some 62,.mov (.s 61),none⟩,⟨some 63,.mov (.s 10),some (62,false)⟩,⟨some 64,.bin .neq (.s 63) (.c (.int .i64 0)),some (62,false)⟩,⟨some 65,.pick (.s 62) (.c (.bool true)) (.s 64),none⟩])) (.cond (.s 65) (.seq (.reg false false [⟨none,.store 1 (.s 4) (.c (.bool false)),none⟩]) (.ret)) (.skip)))))) rfl T12 (λi a=>zaH p0 p1 ((zxk r7.rows).drop i)=some o12) (λx L1=>match x with | .normal=>∃ a,o12=.go a/\L1=T12 a | .ret=>L1.length=3/\zcB (3+1) L1/\(zg4 [.cell 4 none] ((dB r))) .ret ⟨66,[(2,(.ptr 0 0)),(3,(.ptr 1 0)),(4,(.ptr 2 0)),(34,(.clo 169 [] [(.fptr false (zad.c false r7))]))],L1 ++ [.lost]⟩| _=>False) () ?_ (qaw _) ?_ ?_ ?_ (λd L1 hx=>hx.elim) ?_ ?_ ?_ ?_ ?_ ?_
 .intro a; rw[hM12]; rfl
 .exact⟨(qah rfl),(qah rfl),(qah rfl),⟨qdk,⟨qdk,qdk⟩⟩,qdk⟩
 .intro a; rw[hM12]; exact⟨⟨qdk,qdk,qdk,qdk,qdk,qdk⟩,⟨qdk,qdk,qdk,qdk⟩,⟨qdk,qdk⟩,qdk⟩
 .intro x L1 hx;cases x with
  | normal=>obtain⟨a,_,rfl⟩:=hx; exact⟨by rw[hM12]; rfl,by rw[hM12]; exact⟨⟨qdk,qdk,qdk,qdk,qdk,qdk⟩,⟨qdk,qdk,qdk,qdk⟩,⟨qdk,qdk⟩,qdk⟩⟩
  | ret=>exact⟨hx.1,hx.2.1⟩
  | exit id=>exact hx.elim
  | panic d=>exact hx.elim
 .exact j12
 .rintro i ⟨⟩ y11 args G lpF hy hi12 ⟨rfl,rfl⟩ hkin;rw[zki hy]at hi12;simp only[zaH]at hi12;refine⟨_,_,rfl,rfl,?_⟩;rw[congrFun hM12 ()];refine zab ?_;refine sXM @zal ?_;obtain⟨o16,j16,hi12⟩:=bsM hi12;obtain⟨T16,hT16⟩:=mkT λa:Int=>⟨66,[(3,(.ptr 1 0)),(4,(.ptr 2 0)),(9,(fzE false (eI .i64) y11.2)),(10,(dI a))],[.cells [(dI p0.net.grain),(fzE false zad p0.net.nodes),(fzE false (eI .i64) p0.cards),(fzE false (eI .u64) p0.sets),(fzE false (eI .i64) p0.order)],.cells [(dI p1.card),(fzE false (eI .i64) p1.parents),(fzE false (eL (eI .i64)) p1.rows)],.cells [(dB false)],lpF]⟩
  refine EvL.jn T16 (λa=>o16=.go a) ?_ ?_
  .refine wSM ?_;obtain⟨T19,hT19⟩:=mkT λa:(Int×Int)=>⟨66,[(3,(.ptr 1 0)),(4,(.ptr 2 0)),(9,(fzE false (eI .i64) y11.2)),(10,(dI a.1)),(40,(fzE false (eI .i64) y11.2)),(41,(dI (y11.2.length:Int))),(42,(dI a.2))],[.cells [(dI p0.net.grain),(fzE false zad p0.net.nodes),(fzE false (eI .i64) p0.cards),(fzE false (eI .u64) p0.sets),(fzE false (eI .i64) p0.order)],.cells [(dI p1.card),(fzE false (eI .i64) p1.parents),(fzE false (eL (eI .i64)) p1.rows)],.cells [(dB false)],lpF]⟩
   refine rdM hT19 (λn a=>zaO y11 n a.1 a.2=some o16) (p0.net.grain,0) j16 ?_;rintro n ⟨v10,v42⟩ j16;simp only[zaO]at j16;refine wTM hT19 ?_;refine cBM j16 (λ_ j16=>?_) λ_ j16=>?_
   .exact zzG j16 hT16
   obtain⟨x13,g14,j16⟩:=bsM j16;refine sXM (ixM g14) ?_;obtain⟨o20,j20,j16⟩:=bsM j16;obtain⟨T20,hT20⟩:=zdD hT19 λa:Bool=>uDM (T19 (v10,v42)) [] [(12,(dI x13)),(52,(dB a))] [] []
   refine EvL.jn T20 _ (bJM j20 hT20) ?_;rintro v52 rfl;refine wTM hT20 ?_;refine cBM j16 (λ_ j16=>?_) λ_ j16=>?_
   .exact zdk hT19 ((w64 (v10 - x13)),(w64 (v42+1))) j16
   obtain rfl:=qal j16;obtain rfl:=qal hi12;obtain rfl:=qal h;exact⟨[.cells [(dI p0.net.grain),(fzE false zad p0.net.nodes),(fzE false (eI .i64) p0.cards),(fzE false (eI .u64) p0.sets),(fzE false (eI .i64) p0.order)],.cells [(dI p1.card),(fzE false (eI .i64) p1.parents),(fzE false (eL (eI .i64)) p1.rows)],.cells [(dB false)]],rfl,wKM,rfl,⟨⟨qdk,qdk,qdk,qdk,qdk,qdk⟩,⟨qdk,qdk,qdk,qdk⟩,⟨qdk,qdk⟩,qdk⟩,zg4.ret rfl (.lit _)⟩
  rintro v10 rfl;dsimp only at hi12;refine wTM hT16 ?_;obtain⟨o21,j21,hi12⟩:=bsM hi12;obtain⟨T21,hT21⟩:=zdD hT16 λa:Bool=>uKM (T16 v10) [4] [(65,(dB a))] [] []
  refine EvL.jn T21 _ (bJM j21 hT21) ?_;rintro v65 rfl;refine wTM hT21 ?_;refine cBM hi12 (λ_ hi12=>?_) λ_ hi12=>?_
  .exact⟨T12 (),by rw[hM12]; rfl,by rw[hM12]; exact wKM,(),hi12,rfl⟩
  obtain rfl:=qal hi12;obtain rfl:=qal h;exact⟨[.cells [(dI p0.net.grain),(fzE false zad p0.net.nodes),(fzE false (eI .i64) p0.cards),(fzE false (eI .u64) p0.sets),(fzE false (eI .i64) p0.order)],.cells [(dI p1.card),(fzE false (eI .i64) p1.parents),(fzE false (eL (eI .i64)) p1.rows)],.cells [(dB false)]],rfl,wKM,rfl,⟨⟨qdk,qdk,qdk,qdk,qdk,qdk⟩,⟨qdk,qdk,qdk,qdk⟩,⟨qdk,qdk⟩,qdk⟩,zg4.ret rfl (.lit _)⟩
 .rintro⟨⟩ hi12;rw[qcW]at hi12;simp only[zaH]at hi12;exact⟨(),(qal hi12).symm,rfl⟩
 .rintro _ ⟨⟨⟩,rfl,rfl⟩;dsimp only at h;rw[congrFun hM12 ()];refine zab ?_;refine sXM @zal ?_;exact rHM h
 .intro id L1 hx; exact hx.elim
 intro L1 hx; exact hx.2.2
def zau(p0:Int):List (Int×Int)->(List Int)->Option (List Int)
 | [],l0=>some l0
 | y5 :: ys,l0=>(
(zaC l0 y5.1).bind λx6=>
(zd2 l0 y5.1 y5.2).bind λy8=>
zau p0 ys y8)
def zbU(p0:Int)(p1:((List Int)×Int×Int)):Option (List Int):=
(zd5 8 p0 0).bind λy1=>
(zzg p1.1 p1.2.1 p1.2.2).bind λu3=>
((zau p0 u3 y1:Option (List Int))).bind λl0=>
some l0
theorem zfL{p0:Int}{p1:((List Int)×Int×Int)}(h:zbU p0 p1=some r):Lx.Fn mC 135 [(dI p0),(.clo 151 [] [(.fptr false ((eI .i64).c false p1.2.2)),(.fptr false ((eI .i64).c false p1.2.1)),(.fptr false ((eL (eI .i64)).c false p1.1))])] (fzE true (eI .i64) r):=by
 refine gnO ?_;unfold zbU at h;refine zab ?_;obtain⟨y1,g2,h⟩:=bsM h;refine zwN ((zaK g2).1.1) ((zaK g2).1.2) @qbC (miM g2) ?_;obtain⟨u3,g4,h⟩:=bsM h;obtain⟨o1,j1,h⟩:=bsM h;obtain⟨T1,hM1⟩:∃ T:(List Int)->List LB,T=(λa=>[.els 1 (a.map ((eI .i64).c true)),.cells [(.sl 0 0 1 (Int.toNat p0) (some (Int.toNat p0)) (Int.toNat p0))]]):=⟨_,rfl⟩;refine EvL.zjG (S':=⟨18,[(5,(.ptr 1 0)),(10,(.clo 151 [] [(.fptr false ((eI .i64).c false p1.2.2)),(.fptr false ((eI .i64).c false p1.2.1)),(.fptr false ((eL (eI .i64)).c false p1.1))]))],T1 y1⟩) (by rw[hM1]; exact wAM) ?_;refine EvL.zpH (n0:=2) (zhN g4) rfl (bm:=.block 1 (.reg false false [⟨some 13,.load none (.s 5),none⟩,⟨some 14,.mov (.s 6),none⟩,⟨some 15,.mov (.s 7),none⟩,⟨some 16,.idxS 1 (.s 13) (.s 14),none⟩,⟨none,.store 1 (.s 16) (.s 15),none⟩])) rfl T1 (λi a=>zau p0 (u3.drop i) a=some o1/\a.length=(Int.toNat p0)) (λx L1=>match x with | .normal=>∃ a,o1=a/\a.length=(Int.toNat p0)/\L1=T1 a | .ret=>L1.length=2/\zcB (2+1) L1/\(zg4 [.tmp 4] ((fzE true (eI .i64) r))) .ret ⟨18,[(5,(.ptr 1 0)),(10,(.clo 151 [] [(.fptr false ((eI .i64).c false p1.2.2)),(.fptr false ((eI .i64).c false p1.2.1)),(.fptr false ((eL (eI .i64)).c false p1.1))]))],L1 ++ [.lost]⟩| _=>False) y1 ?_ (qaw _) ?_ ?_ ?_ (λd L1 hx=>hx.elim) ?_ ?_ ?_ ?_ ?_ ?_
 .intro a; rw[hM1]; rfl
 .exact⟨(qah rfl),⟨qdk,⟨qdk,qdk,qdk,qdk⟩⟩,qdk⟩
 .intro a; rw[hM1]; exact⟨(zsA (eI .i64) _ _ _),⟨(qah rfl),qdk⟩,qdk⟩
 .intro x L1 hx;cases x with
  | normal=>obtain⟨a,_,_,rfl⟩:=hx; exact⟨by rw[hM1]; rfl,by rw[hM1]; exact⟨(zsA (eI .i64) _ _ _),⟨(qah rfl),qdk⟩,qdk⟩⟩
  | ret=>exact⟨hx.1,hx.2.1⟩
  | exit id=>exact hx.elim
  | panic d=>exact hx.elim
 .exact⟨j1,zbB g2⟩
 .rintro i l0 y5 args G lpF hy ⟨hi1,el0⟩ ⟨rfl,rfl⟩ hkin;rw[zki hy]at hi1;simp only[zau]at hi1;refine⟨_,_,rfl,rfl,?_⟩;rw[congrFun hM1 l0];refine zab ?_;obtain⟨x6,g7,hi1⟩:=bsM hi1;obtain⟨y8,g9,hi1⟩:=bsM hi1;refine zxN el0 (zaL g7) (ltM el0 g7) (giM g7) (siM g9) ?_;exact⟨T1 y8,by rw[hM1]; rfl,by rw[hM1]; exact wKM,y8,⟨hi1,(za4 g9).trans el0⟩,rfl⟩
 .rintro l0 ⟨hi1,el0⟩;rw[qcW]at hi1;simp only[zau]at hi1;exact⟨l0,(qal hi1).symm,el0,rfl⟩
 .rintro _ ⟨l0,oeq,el0,rfl⟩;have oeq2:=oeq.symm;subst oeq2;rw[congrFun hM1 l0];refine wSM ?_;exact rHM h
 .intro id L1 hx; exact hx.elim
 intro L1 hx; exact hx.2.2
def zdq(p0:(List Int)):Option (Int×Int):=
(zbW p0).bind λr1=>
bif r1.2 then(
some (r1.1,0))
else(
some (0,20))
theorem zkU{p0:(List Int)}{r:(Int×Int)}(h:zdq p0=some r):Lx.Fn mC 83 [(fzE false (eI .i64) p0)] (.tup [(dI r.1),(dI r.2)]):=by
 refine gnO ?_;unfold zdq at h;refine zab ?_;obtain⟨r1,g2,h⟩:=bind_some h;try simp only[rnA,Nat.reduceLT,reduceCtorEq]
 refine EvL.fn (zfY g2) rfl rfl (.cons (zbL _ _ (λh=>nomatch h)) .nil) ?_;try simp only[rnA,Nat.reduceEqDiff,Nat.reduceLT,reduceCtorEq]
 cases c3:r1.2
 .rw[c3,qdm]at h;try simp only[rnA,Nat.reduceLT]
  replace h:=qal h; subst h;exact zg4.ret rfl (Snp.zrr (.cons (.lit _) (.cons (.lit _) .nil)))
 rw[c3,qdl]at h;try simp only[rnA,Nat.reduceEqDiff,Nat.reduceLT,reduceCtorEq]
 replace h:=qal h; subst h;exact zg4.ret rfl (Snp.zrr (.cons (.lit _) (.cons (.lit _) .nil)))
end Go.Dc
