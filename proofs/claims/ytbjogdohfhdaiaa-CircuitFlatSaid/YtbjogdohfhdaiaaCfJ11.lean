/-
 Rows of bytes and bytes as arguments; arguments behind a call. Conditions: none.
-/
import Derived.Test.YtbjogdohfhdaiaaCfSa
import Derived.Test.YtbjogdohfhdaiaaCfJ10
import Derived.Test.YtbjogdohfhdaiaaCfJ8
set_option linter.unusedSimpArgs false
set_option linter.unusedVariables false
set_option maxRecDepth 100000
namespace Go.Proofs.Ytbjogdohfhdaiaa.S
open Go Go.Mx Go.Lx Go.Dc Go.ChangeShapes Go.WideShapes Go.ChangeAt Go.RowKit
theorem zgy{H:Type}{enc:TypeId×Value->H}{W W':World}(hb:Below W.heap.size W W'):∀ {ts:List TypeId} {vs:List Value} {ds:List (DataW H)} {ps:List MemPlace},
  DataW.TrodAll enc Try.prog W 0 (λ_=>true) true ts vs ds ps->(∀ t∈ts,Try.prog.readableRec t=true/\t<Try.prog.types.size)->(∀ x∈ps,x.block<W.heap.size)->
  DataW.TrodAll enc Try.prog W' 0 (λb=>decide (b<W.heap.size)) true ts vs ds ps
 | [],vs,ds,ps,h,_,_=>by
  obtain⟨rfl,rfl,rfl⟩:=trodAll_nil h;exact trodAll_mk0
 | t :: ts,vs,ds,ps,h,ht,hlt=>by
  obtain⟨v,vs',d,ds',p,q,rfl,rfl,rfl,h1,h2⟩:=trodAll_cons h;obtain⟨r1,r2⟩:=ht t qao;exact⟨p,q,Below.trod laidOut r1 r2 h1 hb (λx hx=>hlt x (qcT _ hx)),zgy hb h2 (λt h=>ht t (qai _ h)) (λx hx=>hlt x (List.mem_append_right _ hx)),rfl⟩
theorem zzP:Dec znk [.int .u8,.int .u8,.int .u8,.int .u8,.int .u8,.int .u8,.int .u8,.int .u8] (λx=>okI .u8 x.a0/\okI .u8 x.a1/\okI .u8 x.a2/\okI .u8 x.a3/\okI .u8 x.a4/\okI .u8 x.a5/\okI .u8 x.a6/\okI .u8 x.a7):=
 Dec.iso (Dec.pair (Dec.int .u8) (Dec.pair (Dec.int .u8) (Dec.pair (Dec.int .u8) (Dec.pair (Dec.int .u8) (Dec.pair (Dec.int .u8) (Dec.pair (Dec.int .u8) (Dec.pair (Dec.int .u8) (Dec.int .u8))))))))
  (λx:A8_Intu8=>(x.a0,x.a1,x.a2,x.a3,x.a4,x.a5,x.a6,x.a7)) (λa=>⟨a.1,a.2.1,a.2.2.1,a.2.2.2.1,a.2.2.2.2.1,a.2.2.2.2.2.1,a.2.2.2.2.2.2.1,a.2.2.2.2.2.2.2⟩) (λ_=>rfl)
theorem zxs:zdL Try.prog 8 5=some [.int .u8]:=by kernel_rfl
theorem zCW:ztu Try.prog 5=false:=by kernel_rfl
theorem zAL:Try.prog.readableRec 5=true:=by kernel_rfl
theorem zCf{d:D}(h:ShA Try.prog 8 5 d):∃ n:Int,(0<=n/\n<=255)/\d=dU8 n:=by
 obtain⟨x,h1,h2⟩:=(Dec.int .u8).one zCW zxs h;exact⟨x,zjF h1,by injection h2⟩
theorem zCN:(274:Nat)<Try.prog.types.size:=qds (by kernel_rfl)
theorem ztB{t:Nat}(ht:t<=274):t<Try.prog.types.size:=qcG ht zCN
theorem ztD{xs:List Int}(h:okL (okI .u8) xs):∃ ns:List Nat,(∀ x∈ns,x<=255)/\xs=iL ns:=by
 obtain⟨ns,h1,h2⟩:=Dc.zoS (l:=xs) (f:=λn:Nat=>(n:Int)) (T:=λn=>n<=255) λy hy=>by
  have:=zjF (h.2 y hy);exact⟨y.toNat,by omega,by omega⟩
 exact⟨ns,h1,h2⟩
theorem zsZ:Dec zan [.int .u8,.int .u8,.sl [.int .u8]] (λx=>okI .u8 x.card/\okI .u8 x.parents/\okL (okI .u8) x.w):=
 Dec.iso (Dec.pair (Dec.int .u8) (Dec.pair (Dec.int .u8) (Dec.list (Dec.int .u8)))) (λx:S_haruspexref05_Piece=>(x.card,x.parents,x.w)) (λa=>⟨a.1,a.2.1,a.2.2⟩) (λ_=>rfl)
theorem zsu:Dec zcZ [.int .u8,.sl [.int .u8,.int .u8,.sl [.int .u8]],.sl [.int .u8]]
  (λx=>okI .u8 x.grain/\okL (λx=>okI .u8 x.card/\okI .u8 x.parents/\okL (okI .u8) x.w) x.nodes/\okL (okI .u8) x.order):=
 Dec.iso (Dec.pair (Dec.int .u8) (Dec.pair (Dec.list zsZ) (Dec.list (Dec.int .u8)))) (λx:S_haruspexref05_Draft=>(x.grain,x.nodes,x.order)) (λa=>⟨a.1,a.2.1,a.2.2⟩) (λ_=>rfl)
theorem zvJ{x:S_haruspexref05_Draft}(h:okI .u8 x.grain/\okL (λx=>okI .u8 x.card/\okI .u8 x.parents/\okL (okI .u8) x.w) x.nodes/\okL (okI .u8) x.order):∃ d:DraftN,DraftOk d/\x=zcs d:=by
 obtain⟨grain,nodes,order⟩:=x;obtain⟨h1,h2,h3⟩:=h;have hg:=zjF h1;obtain⟨os,o1,o2⟩:=ztD h3;obtain⟨ps,p1,p2⟩:=Dc.zoS (l:=nodes) (f:=zpv) (T:=λn=>n.card<=255) λy hy=>by
  obtain⟨g1,g2,g3⟩:=h2.2 y hy;have k1:=zjF g1;have k2:=zjF g2;obtain⟨ws,w1,w2⟩:=ztD g3;refine⟨⟨y.card.toNat,y.parents.toNat,ws⟩,by simp only; omega,?_⟩;obtain⟨a,b,c⟩:=y;simp only at k1 k2 w2;subst w2;simp only[zpv,qcu k1.1,qcu k2.1]
 refine⟨⟨grain.toNat,ps,os⟩,⟨by simp only at hg ⊢; omega,p1,o1⟩,?_⟩;simp only at o2 p2 hg;subst o2 p2;simp only[zcs,qcu hg.1]
theorem zwQ:zdL Try.prog 8 60=some [.int .u8,.sl [.int .u8,.int .u8,.sl [.int .u8]],.sl [.int .u8]]:=by kernel_rfl
theorem zCy:ztu Try.prog 60=true:=by kernel_rfl
theorem zA4:Try.prog.readableRec 60=true:=by kernel_rfl
theorem zvj{d:D}(h:ShA Try.prog 8 60 d):∃ dr:DraftN,DraftOk dr/\d=.agg (zcZ.c false (zcs dr)):=by
 obtain⟨x,h1,h2⟩:=zsu.agg zCy zwQ h;obtain⟨dr,h3,rfl⟩:=zvJ h1;exact⟨dr,h3,h2⟩
end Go.Proofs.Ytbjogdohfhdaiaa.S
namespace Go.Dc
open Go Go.Mx Go.Lx
theorem zBh:∀(cs:List Nat) (w:Nat),ziP cs w=dig cs w
 | [],_=>rfl
 | c :: cs,w=>by unfold ziP dig; rw[zBh cs]
theorem zxt:∀ {l:List Nat} {x:Nat},x∈l->x<=l.sum
 | y :: l,x,h=>by
  rw[qc6];rcases qbc.1 h with rfl | h
  .exact qbQ _ _
  exact qax (zxt h) (qcK _ _)
variable{g:Nat}{ns:List NN}
theorem zz0{w v:Nat}(h:RightN g ns)(hw:w<zae (ns.map (·.c)))(hv:v<ns.length):
  ∃(row:List Nat) (x:Nat),ns[v].rows[zwo 0 (cvs (ns.map (·.c)) (ziP (ns.map (·.c)) w) ns[v].ps)]? = some row/\row[(ziP (ns.map (·.c)) w).getD v 0]? = some x/\x<=60:=by
 have hvm:=qas hv;have hcl:(ns.map (·.c)).length=ns.length:=by simp
 have hdlt:∀ p,p<ns.length->(ziP (ns.map (·.c)) w).getD p 0<(ns.map (·.c)).getD p 0:=λp hp=>by
  have:=zol hw p (by omega);rw[show(ns.map (·.c)).getD p 0=(ns.map (·.c))[p]'(by omega) by simp[hp]];exact this
 have hcv:∀ x∈cvs (ns.map (·.c)) (ziP (ns.map (·.c)) w) ns[v].ps,x.2<x.1:=λx hx=>by
  obtain⟨p,hp,rfl⟩:=qaJ.1 hx;exact hdlt p (h.lt _ hvm p hp)
 have h1:(cvs (ns.map (·.c)) (ziP (ns.map (·.c)) w) ns[v].ps).map (·.1)=ns[v].ps.map λp=>(ns.map (·.c)).getD p 0:=by simp[cvs,qbG]
 have hlt:=(zrw _ 0 hcv).1;rw[qaK,qbS,h1]at hlt;have hrows:=h.rows _ hvm;have hil:zwo 0 (cvs (ns.map (·.c)) (ziP (ns.map (·.c)) w) ns[v].ps)<ns[v].rows.length:=by rw[hrows.len]; exact hlt
 have hrow:=hrows.row _ (qas hil);have hxl:(ziP (ns.map (·.c)) w).getD v 0<ns[v].rows[zwo 0 (cvs (ns.map (·.c)) (ziP (ns.map (·.c)) w) ns[v].ps)].length:=by
  rw[hrow.1];have:=hdlt v hv;simpa [hv]using this
 have:=zxt (qas hxl);have:=h.g2;exact⟨_,_,qac hil,qac hxl,by omega⟩
theorem zBn{g w:Nat}{ns:List NN}{r1:S_net_network×Int}{r4:List Int×Int}(h:RightN g ns)(hw:w<zae (ns.map (·.c)))(h1:r1.1.cards=iL (ns.map (·.c)))(h0:r1.1.net=zcS g ns)(h4:r4.1=iL (ziP (ns.map (·.c)) w)):
  ∀(n v a:Nat),v<=ns.length->ns.length - v<n->a<=60 ^ v->∃ W:Nat,W<=60 ^ 8/\zcf r1 r4 n (a:Int) (v:Int)=some (W:Int)
 | 0,_,_,_,h,_=>absurd h (qan _)
 | n+1,v,a,h2,h3,ha=>by
  unfold zcf;have hnl:(zcS g ns).nodes.length=ns.length:=by simp[zcS]
  have hn:=h.n2;have hcl:(ns.map (·.c)).length=ns.length:=by simp
  have hdl:=zh0 (ns.map (·.c)) w;rw[h0,hnl,zaq];by_cases hv:v<ns.length
  .obtain⟨row,x,q1,q2,q3⟩:=zz0 h hw hv;have hvm:=qas hv;have hpl:=h.zCz hvm;have hdlt:∀ p,p<ns.length->(ziP (ns.map (·.c)) w).getD p 0<(ns.map (·.c)).getD p 0:=λp hp=>by
    have:=zol hw p (by omega);rw[show(ns.map (·.c)).getD p 0=(ns.map (·.c))[p]'(by omega) by simp[hp]];exact this
   have e:=zlR (x:=nd ns[v]) (r1:=r1) (r4:=r4) h1 h4 rfl (λp hp=>by rw[hcl]; exact h.lt _ hvm p hp) hdl hpl (λp hp=>hdlt p (h.lt _ hvm p hp)) (ns[v].ps.length+2) 0 0 (qaw _)
    (by rw[qa8]; have:=h.zz1 hvm; omega) (by omega)
   rw[show((0:Nat):Int)=0 from rfl,qa8]at e;obtain⟨i,hi⟩:∃ i,zwo 0 (cvs (ns.map (·.c)) (ziP (ns.map (·.c)) w) ns[v].ps)=i:=⟨_,rfl⟩;rw[hi]at q1 e;have hax:a * x<=60 ^ (v+1):=by rw[Nat.pow_succ]; exact qa9 ha q3
   have hp8:60 ^ (v+1)<=60 ^ 8:=qbu (by decide) (by omega);have h60:(60:Nat) ^ 8=167961600000000:=by decide
   obtain⟨W,g0,g1⟩:=zBn h hw h1 h0 h4 n (v+1) (a * x) hv (by omega) hax;have hrow:zaC (ns[v].rows.map iL) (i:Int)=some (iL row):=by
    obtain⟨hil,hir⟩:=qab.1 q1;rw[zax (by simpa using hil)];simp[hir]
   have hx:zaC (iL row) (((ziP (ns.map (·.c)) w).getD v 0:Nat):Int)=some (x:Int):=by
    obtain⟨hil,hir⟩:=qab.1 q2;rw[zaz hil,hir]
   refine⟨W,g0,?_⟩
   rw[qdn hv,qdl,show zaC (zcS g ns).nodes (v:Int)=some (nd ns[v])from zcq hv,qaa,show(nd ns[v]).parents.length=ns[v].ps.length by simp[nd,zam],zaJ,e,qaa,
     show(nd ns[v]).rows=ns[v].rows.map iL from rfl,hrow,qaa,h4,zs2 (by omega),qaa,hx,qaa,<- qa4,zaF (by omega),zak (by omega),g1]
  exact⟨a,qax ha (qbu (by decide) (by omega)),by rw[qdo hv,qdm]⟩
theorem zyp{w:Nat}(h:RightN g ns)(hw:w<zae (ns.map (·.c))):∃ W:Nat,W<=60 ^ 8/\zbQ (zcS g ns) (w:Int)=some ((W:Int),0)/\zbO (zcS g ns) (w:Int)=some (iL (dig (ns.map (·.c)) w),0):=by
 obtain⟨os,_,_,e2⟩:=zuO h;have hv:=zrO h.cs hw;have hn:=h.n2;have hnl:(zcS g ns).nodes.length=ns.length:=by simp[zcS]
 obtain⟨W,g0,g1⟩:=zBn (r1:=(⟨zcS g ns,iL (ns.map (·.c)),iL (zbT ns),iL os⟩,0)) (r4:=(iL (ziP (ns.map (·.c)) w),0)) h hw rfl rfl rfl (ns.length+2) 0 1 (qaw _) (by omega) (qap 1);rw[show((0:Nat):Int)=0 from rfl,show((1:Nat):Int)=1 from rfl]at g1;refine⟨W,g0,?_,?_⟩
 .unfold zbQ;rw[e2,qaa];simp only[];rw[show((0:Int)== 0)=true from rfl,qdl,hv,qaa];simp only[];rw[show((0:Int)== 0)=true from rfl,qdl,hnl,zaJ,g1,qaa]
 unfold zbO;rw[e2,qaa];simp only[];rw[show((0:Int)== 0)=true from rfl,qdl,hv,qaa,zBh]
theorem zv6(h:RightN g ns):zdp (zcS g ns)=some (((zae (ns.map (·.c)):Nat):Int),0):=by
 obtain⟨os,_,_,e⟩:=zuO h;have hc:=h.cs;have hl:=hc.len;have hp:=hc.prod;have hcs:∀ c∈ns.map (·.c),1<=c/\c<=8:=λc hm=>by have:=hc.card c hm; omega
 have hk:zkg (iL (ns.map (·.c)))=true:=by
  unfold zkg;rw[zam,qdn (by omega),zmK hcs (by omega)]; rfl
 unfold zdp;rw[e,qaa];simp only[];rw[show((0:Int)== 0)=true from rfl,qdl,zAn,hk,qdl,zsc,qaa]
def zuY(v c:Nat):List S_api_Gate:=(List.range c).map λx:Nat=>⟨2,(v:Int),(x:Int),0,[]⟩
def isAll(cs:List Nat):Nat->List S_api_Gate
 | 0=>[]
 | v+1=>isAll cs v ++ zuY v (cs.getD v 0)
def zlV(cs:List Nat)(wt:Nat->Nat):Nat->List S_api_Gate
 | 0=>[]
 | w+1=>zlV cs wt w ++ [⟨1,0,0,(wt w:Int),[]⟩,⟨4,0,0,0,iL (zhn cs w)⟩]
theorem zds(cs:List Nat):∀ v,(isAll cs v).length=zbi cs v
 | 0=>rfl
 | v+1=>by simp[isAll,zuY,zbi,zds cs v]
theorem zdx(cs:List Nat)(wt:Nat->Nat):∀ w,(zlV cs wt w).length=2 * w
 | 0=>rfl
 | w+1=>by simp[zlV,zdx cs wt w]; omega
theorem zm5{cs:List Nat}{u x:Nat}(hx:x<cs.getD u 0):∀ {v},u<v->(isAll cs v)[zbi cs u+x]? = some ⟨2,(u:Int),(x:Int),0,[]⟩
 | 0,h=>absurd h (qan _)
 | v+1,h=>by
  simp only[isAll];by_cases hu:u<v
  .have:=zhg cs (show u+1<=v by omega);simp only[zbi]at this;rw[qaf (by rw[zds]; omega)];exact zm5 hx hu
  obtain rfl:u=v:=by omega
  rw[qak (by rw[zds]; omega),zds,qbF,zuY,qaO,qbR hx];rfl
theorem zkY{cs:List Nat}{wt:Nat->Nat}{u:Nat}:∀ {w},u<w->(zlV cs wt w)[2 * u]? = some ⟨1,0,0,(wt u:Int),[]⟩/\(zlV cs wt w)[2 * u+1]? = some ⟨4,0,0,0,iL (zhn cs u)⟩
 | 0,h=>absurd h (qan _)
 | w+1,h=>by
  simp only[zlV];by_cases hu:u<w
  .rw[qaf (by rw[zdx]; omega),qaf (by rw[zdx]; omega)];exact zkY hu
  obtain rfl:u=w:=by omega
  rw[qak (by rw[zdx]; omega),qak (by rw[zdx]; omega),zdx,qbw,show 2 * u+1 - 2 * u=1 by omega];exact⟨rfl,rfl⟩
theorem zwb(cs:List Nat)(wt:Nat->Nat):FlatC cs wt (isAll cs cs.length ++ zlV cs wt (zae cs)++ [⟨3,0,0,0,iL (zlN cs)⟩]):=by
 have h1:=zds cs cs.length;have h2:=zdx cs wt (zae cs);refine⟨by simp[h1,h2]; omega,λv x hv hx=>?_,λw hw=>?_,λw hw=>?_,?_⟩
 .have:=zhg cs (show v+1<=cs.length by omega);simp only[zbi]at this;rw[qaf (by rw[qav]; omega),qaf (by omega)];exact zm5 hx hv
 .rw[qaf (by rw[qav]; omega),qak (by omega),h1,qbF];exact(zkY hw).1
 .rw[qaf (by rw[qav]; omega),qak (by omega),h1,qbi,qbF];exact(zkY hw).2
 rw[qak (by rw[qav]; omega),qav,h1,h2,qbw];rfl
theorem zrY(v x:Nat):zuY v (x+1)=zuY v x ++ [⟨2,(v:Int),(x:Int),0,[]⟩]:=by
 simp[zuY,qcL]
theorem zAJ{x4:S_api_Node}{c v:Nat}(hx4:x4.card=(c:Int))(hc:c<=4){acc:List S_api_Gate}(ha:acc.length<=1000):∀(n x:Nat),x<=c->c - x<n->zc3 x4 (v:Int) n (x:Int) (acc ++ zuY v x)=some (acc ++ zuY v c)
 | 0,_,_,h=>absurd h (qan _)
 | n+1,x,h1,h2=>by
  unfold zc3;rw[hx4,zaq];by_cases hx:x<c
  .rw[qdn hx,qdl];show(zgZ (v:Int) (x:Int)).bind _=_;rw[show zgZ (v:Int) (x:Int)=some ⟨2,(v:Int),(x:Int),0,[]⟩from rfl,qaa,zcm (by simp[zuY]; omega),qaa,zak (by omega),qaI,<- zrY];exact zAJ hx4 hc ha n (x+1) hx (by omega)
  rw[qdo hx,qdm,show x=c by omega]
def zrh(cs:List Nat)(v:Nat):List Nat:=(List.range v).map (zbi cs)
theorem zsN(cs:List Nat)(v:Nat):zrh cs (v+1)=zrh cs v ++ [zbi cs v]:=by simp[zrh,qcL]
theorem zkK(cs:List Nat)(v:Nat):(zrh cs v).length=v:=by simp[zrh]
theorem zzT{g:Nat}{ns:List NN}(h:RightN g ns):∀(n v:Nat),v<=ns.length->ns.length - v<n ->
  zdc (zcS g ns) n (v:Int) (iL (zrh (ns.map (·.c)) v ++ List.replicate (ns.length - v) 0)) (iL ((ns.map (·.c)).take v)) (isAll (ns.map (·.c)) v)=some (iL (zrh (ns.map (·.c)) ns.length),iL (ns.map (·.c)),isAll (ns.map (·.c)) ns.length)
 | 0,_,_,h=>absurd h (qan _)
 | n+1,v,h1,h2=>by
  unfold zdc;have hnl:(zcS g ns).nodes.length=ns.length:=by simp[zcS]
  have hn:=h.n2;have hcl:(ns.map (·.c)).length=ns.length:=by simp
  rw[hnl,zaq];by_cases hv:v<ns.length
  .obtain⟨m,hm⟩:∃ m,ns.length - v=m+1:=⟨ns.length - v - 1,by omega⟩;have hcd:=h.card _ (qas hv);have hcv:(ns.map (·.c)).getD v 0=ns[v].c:=by rw[zap (by omega)]; simp
   have hc4:∀ u,(ns.map (·.c)).getD u 0<=4:=λu=>by
    rw[qaj,qaO];by_cases hu:u<ns.length
    .rw[qac hu]; exact(h.card _ (qas hu)).2
    rw[qaP (by omega)]; exact qaw _
   have hob:=zfF hc4 v;have hlen:=zds (ns.map (·.c)) v;have hl2:=zAJ (x4:=nd ns[v]) (c:=ns[v].c) (v:=v) rfl hcd.2 (acc:=isAll (ns.map (·.c)) v) (by omega) (ns[v].c+2) 0 (qaw _) (by omega);rw[show zuY v 0=[]from rfl,qaY,show((0:Nat):Int)=0 from rfl]at hl2;have htk:iL ((ns.map (·.c)).take v)++ [((ns[v].c:Nat):Int)]=iL ((ns.map (·.c)).take (v+1)):=by
    rw[qda,qaO,qac hv]; simp[iL]
   rw[qdn hv,qdl,show zaC (zcS g ns).nodes (v:Int)=some (nd ns[v])from zcq hv,qaa,show(nd ns[v]).card=((ns[v].c:Nat):Int)from rfl,zcm (by rw[zam,qbh,qbU]; omega),qaa,hm,qaU,
    zcO (zkK _ v),qaa,hlen,zfC (zkK _ v),qaa,zaJ,hl2,qaa,zak (by omega),htk]
   have:=zzT h n (v+1) hv (by omega);rw[zsN,show ns.length - (v+1)=m by omega,qaI]at this;simp only[isAll]at this;rw[hcv]at this;exact this
  rw[qdo hv,qdm,show v=ns.length by omega,qbw,qaV (by omega)];simp
theorem zzY{cs:List Nat}{w:Nat}{r23:List Int×Int}(hr:r23.1=iL (dig cs w))(hl:cs.length<=8)(hd:∀ v,v<cs.length->(dig cs w).getD v 0<=4)(ho:∀ v,zbi cs v<=4 * v):∀(n v:Nat),v<=cs.length->cs.length - v<n ->
  zc9 r23 (iL (zrh cs cs.length)) n (v:Int) (iL ((List.range v).map λv=>zbi cs v+(dig cs w).getD v 0))=some (iL ((List.range cs.length).map λv=>zbi cs v+(dig cs w).getD v 0))
 | 0,_,_,h=>absurd h (qan _)
 | n+1,v,h1,h2=>by
  unfold zc9;have hdl:=zcT cs w;rw[hr,zam,hdl,zaq];by_cases hv:v<cs.length
  .have hvd:v<(dig cs w).length:=by omega
   have hvo:v<(zrh cs cs.length).length:=by rw[zkK]; exact hv
   have ho1:(zrh cs cs.length)[v]=zbi cs v:=by simp[zrh]
   have hd1:=hd v hv;have ho2:=ho v;rw[zap hvd]at hd1;rw[qdn hv,qdl,zaz hvd,qaa,zaz hvo,qaa,ho1,<- qbY,zaF (by omega),zcm (by simp[zam]; omega),qaa,zak (by omega)];have:=zzY hr hl hd ho n (v+1) hv (by omega);rw[qcL,qb8]at this;have e:iL ((List.range v).map λv=>zbi cs v+(dig cs w).getD v 0)++ [((zbi cs v+(dig cs w)[v]:Nat):Int)]=iL (((List.range v).map λv=>zbi cs v+(dig cs w).getD v 0)++ List.map (λv=>zbi cs v+(dig cs w).getD v 0) [v]):=by
    rw[List.map_singleton,zap hvd]; simp[iL]
   rw[e];exact this
  rw[qdo hv,qdm,show v=cs.length by omega]
theorem zAH{g:Nat}{ns:List NN}(h:RightN g ns){cs:List Nat}(hcs:cs=ns.map (·.c))(hF:Fcs cs){wt:Nat->Nat}(hw:∀ w,w<zae cs->zbQ (zcS g ns) (w:Int)=some ((wt w:Int),0)/\zbO (zcS g ns) (w:Int)=some (iL (dig cs w),0)):
  ∀(n w:Nat),w<=zae cs->zae cs - w<n ->
   zc1 (((zae cs:Nat):Int),0) (zcS g ns) (iL cs) (iL (zrh cs cs.length)) n (w:Int) (iL ((List.range w).map λw=>zbi cs cs.length+2 * w+1)) (isAll cs cs.length ++ zlV cs wt w)=some (.go (iL (zlN cs),isAll cs cs.length ++ zlV cs wt (zae cs)))
 | 0,_,_,h=>absurd h (qan _)
 | n+1,w,h1,h2=>by
  unfold zc1;have hnl:(zcS g ns).nodes.length=ns.length:=by simp[zcS]
  have hcl:cs.length=ns.length:=by rw[hcs]; simp
  have hl:=hF.len;have hp:=hF.prod;have hob:=zfF hF.c4 cs.length;rw[zaq];by_cases hlt:w<zae cs
  .obtain⟨q1,q2⟩:=hw w hlt;have hdl:=zcT cs w;have hd4:∀ v,v<cs.length->(dig cs w).getD v 0<=4:=λv hv=>by have:=hF.dig hlt hv; have:=hF.c4 v; omega
   have h4:=zzY (r23:=(iL (dig cs w),0)) rfl hl hd4 (zfF hF.c4) (cs.length+2) 0 (qaw _) (by omega);rw[show((0:Nat):Int)=0 from rfl,List.range_zero,qc1,show iL []=[]from rfl]at h4;have hb:(isAll cs cs.length ++ zlV cs wt w).length=zbi cs cs.length+2 * w:=by rw[qav,zds,zdx]
   have hb1:(isAll cs cs.length ++ zlV cs wt w ++ [S_api_Gate.mk 1 0 0 ((wt w:Nat):Int) []]).length=zbi cs cs.length+2 * w+1:=by rw[qav,hb]; rfl
   have hfl:((List.range cs.length).map λv=>zbi cs v+(dig cs w).getD v 0).length=cs.length:=by simp
   have hfa:iL ((List.range cs.length).map λv=>zbi cs v+(dig cs w).getD v 0)++ [((zbi cs cs.length+2 * w:Nat):Int)]=iL (zhn cs w):=by simp[zhn,iL]
   rw[qdn hlt,qdl,q1,qaa,q2,qaa];simp only
   rw[show((0:Int)== 0)=true from rfl,qdl,qdl,zam,hdl,hnl,hcl,qdq,qba,qaa,qdm,<- hcl,zaJ,h4,qaa,show zec ((wt w:Nat):Int)=some ⟨1,0,0,(wt w:Int),[]⟩from rfl,qaa,
    zcm (by rw[hb,qbU]; omega),qaa,hb1,show w64 (((zbi cs cs.length+2 * w+1:Nat):Int) - 1)=((zbi cs cs.length+2 * w:Nat):Int) by rw[zfV (by omega) (by omega)]; omega,
    zcm (by rw[zam,hfl,qbU]; omega),qaa,hfa,show zdA (iL (zhn cs w))=some ⟨4,0,0,0,iL (zhn cs w)⟩from rfl,qaa,zcm (by rw[hb1,qbU]; omega),qaa,
    zcm (by simp[zam]; omega),qaa,zak (by omega)]
   have hb2:(isAll cs cs.length ++ zlV cs wt w ++ [S_api_Gate.mk 1 0 0 ((wt w:Nat):Int) []]++ [S_api_Gate.mk 4 0 0 0 (iL (zhn cs w))]).length=zbi cs cs.length+2 * w+1+1:=by rw[qav,hb1]; rfl
   rw[hb2,show w64 (((zbi cs cs.length+2 * w+1+1:Nat):Int) - 1)=((zbi cs cs.length+2 * w+1:Nat):Int) by rw[zfV (by omega) (by omega)]; omega];have:=zAH h hcs hF hw n (w+1) hlt (by omega);simp only[zlV]at this;rw[qcL,qb8]at this;have e1:iL ((List.range w).map λw=>zbi cs cs.length+2 * w+1)++ [((zbi cs cs.length+2 * w+1:Nat):Int)]=iL (((List.range w).map λw=>zbi cs cs.length+2 * w+1)++ List.map (λw=>zbi cs cs.length+2 * w+1) [w]):=by simp[iL]
   have e2:isAll cs cs.length ++ zlV cs wt w ++ [S_api_Gate.mk 1 0 0 ((wt w:Nat):Int) []]++ [S_api_Gate.mk 4 0 0 0 (iL (zhn cs w))]=isAll cs cs.length ++ (zlV cs wt w ++ [⟨1,0,0,(wt w:Int),[]⟩,⟨4,0,0,0,iL (zhn cs w)⟩]):=by simp
   rw[e1,e2];exact this
  rw[qdo hlt,qdm,show w=zae cs by omega]; rfl
theorem RightN.fcs(h:RightN g ns):Fcs (ns.map (·.c)):=by
 have hc:=h.cs;exact⟨by have:=h.n1; simpa using this,hc.len,hc.card,hc.prod⟩
theorem zzU(h:RightN g ns):∃(wt:Nat->Nat) (gs:List S_api_Gate),zej (zcS g ns)=some (⟨iL (ns.map (·.c)),gs⟩,true)/\FlatC (ns.map (·.c)) wt gs/\∀ w,w<zae (ns.map (·.c))->wt w<=60 ^ 8:=by
 obtain⟨cs,hcs⟩:∃ cs,cs=ns.map (·.c):=⟨_,rfl⟩;have hF:Fcs cs:=by rw[hcs]; exact h.fcs
 have hcl:cs.length=ns.length:=by rw[hcs]; simp
 have hnl:(zcS g ns).nodes.length=ns.length:=by simp[zcS]
 have hn:=h.n2;have hp:=hF.prod;have hob:=zfF hF.c4 cs.length;have hw:∀ w,∃ W:Nat,w<zae cs->W<=60 ^ 8/\zbQ (zcS g ns) (w:Int)=some ((W:Int),0)/\zbO (zcS g ns) (w:Int)=some (iL (dig cs w),0):=λw=>by
  by_cases hlt:w<zae cs
  .rw[hcs]at hlt;obtain⟨W,a,b,c⟩:=zyp h hlt;rw[<- hcs]at c;exact⟨W,λ_=>⟨a,b,c⟩⟩
  exact⟨0,λh=>absurd h hlt⟩
 obtain⟨wt,hwt⟩:∃ wt:Nat->Nat,∀ w,w<zae cs->wt w<=60 ^ 8/\zbQ (zcS g ns) (w:Int)=some ((wt w:Int),0)/\zbO (zcS g ns) (w:Int)=some (iL (dig cs w),0):=⟨λw=>Classical.choose (hw w),λw=>Classical.choose_spec (hw w)⟩;refine⟨wt,isAll cs cs.length ++ zlV cs wt (zae cs)++ [⟨3,0,0,0,iL (zlN cs)⟩],?_,by rw[<- hcs]; exact zwb cs wt,λw hlt=>(hwt w (by rw[hcs]; exact hlt)).1⟩;have h1:=zzT h (ns.length+2) 0 (qaw _) (by omega);rw[show((0:Nat):Int)=0 from rfl,qcD,qcI,show zrh (ns.map (·.c)) 0=[]from rfl,qbe,zuu,show iL []=[]from rfl,show isAll (ns.map (·.c)) 0=[]from rfl,<- hcs,<- hcl]at h1;have h3:=zAH h hcs hF (λw hlt=>(hwt w hlt).2) (zae cs+2) 0 (qaw _) (by omega);rw[show((0:Nat):Int)=0 from rfl,List.range_zero,qc1,show iL []=[]from rfl,show zlV cs wt 0=[]from rfl,qaY]at h3;have hW:=zv6 h;rw[<- hcs]at hW;unfold zej;rw[hnl,<- hcl,zdT (by omega),qaa,zaJ,h1,qaa];simp only;rw[hW,qaa,show((0:Int)== 0)=true from rfl,qdl,zaJ,h3,qaa];simp only;rw[show zgv (iL (zlN cs))=some ⟨3,0,0,0,iL (zlN cs)⟩from rfl,qaa,zcm (by rw[qav,zds,zdx,qbU]; omega),qaa,hcs]
theorem zoW(f:Nat->Nat):∀ {n i:Nat},i<=n->zcw f i<=zcw f n
 | 0,i,h=>by rw[show i=0 by omega]; exact qap _
 | n+1,i,h=>by
  by_cases hi:i=n+1
  .rw[hi]; exact qap _
  exact qax (zoW f (show i<=n by omega)) (qbQ _ _)
theorem zmD(f:Nat->Nat)(y:Nat):∀ {n:Nat},y<n->zcw (λu=>bif y == u then f u else 0) n=f y
 | 0,h=>absurd h (qan _)
 | n+1,h=>by
  simp only[zcw];by_cases hy:y=n
  .subst hy;have:zcw (λu=>bif y == u then f u else 0) y=zcw (λ_=>0) y:=zbz λu hu=>by rw[show(y == u)=false from beq_eq_false_iff_ne.2 (by omega)]; rfl
   rw[this,ziL,qdq,qaK]; rfl
  rw[zmD f y (show y<n by omega),show(y == n)=false from beq_eq_false_iff_ne.2 hy]; rfl
def zo7(e:Int)(rows:List (List Nat))(k:Nat)(u:Nat):Nat:=bif (decide (e<0)|| (e ==(u:Int)))then zeX rows k u else 0
theorem zw8{cs:List Nat}{c:S_api_Circuit}{e:List Int}{k:Nat}{rows:List (List Nat)}(hk:k<cs.length)(hel:e.length=cs.length)(h8:cs.length<=8)(hR:DimR cs rows)(h4:cs.getD k 0<=4)
  (hE:∀ x:Nat,x<cs.getD k 0->zaU c (e.set k (x:Int))=some (((zeX rows k x:Nat):Int),0)) (hT:zcw (zo7 (e.getD k 0) rows k) (cs.getD k 0)<zbc):
  ∀(n x:Nat),x<=cs.getD k 0->cs.getD k 0 - x<n ->
   zba (iL (rows.getD k [])) e (k:Int) (c,true) n ((zcw (zo7 (e.getD k 0) rows k) x:Nat):Int) (x:Int)=some (.go ((zcw (zo7 (e.getD k 0) rows k) (cs.getD k 0):Nat):Int))
 | 0,_,_,h=>absurd h (qan _)
 | n+1,x,h1,h2=>by
  have hb:=zfh;have hrl:=hR.row k hk;have hke:k<e.length:=by omega
  unfold zba;rw[zam,hrl,zaq];by_cases hx:x<cs.getD k 0
  .have hxl:x<(rows.getD k []).length:=by omega
   have hcell:(rows.getD k [])[x]=zeX rows k x:=by unfold zeX; rw[zap hxl]
   have hle:=zoW (zo7 (e.getD k 0) rows k) (show x+1<=cs.getD k 0 by omega);have hsu:zcw (zo7 (e.getD k 0) rows k) (x+1)=zcw (zo7 (e.getD k 0) rows k) x+zo7 (e.getD k 0) rows k x:=rfl;have hek:e[k]=e.getD k 0:=(zap hke).symm;have ih:=zw8 hk hel h8 hR h4 hE hT n (x+1) hx (by omega);rw[qdn hx,qdl,zaz hxl,qaa,hcell,zp1 (by omega),qaa,zax hke,qaa,zd7 hke,qaa,hE x hx,qaa];simp only;rw[show((0:Int)== 0)=true from rfl,qdl,qdq,qba,qaa,qdm,qaa,hek];have hv:((bif decide (e.getD k 0<0)then some true else some (e.getD k 0 ==(x:Int)):Option Bool))=some (decide (e.getD k 0<0)|| (e.getD k 0 ==(x:Int))):=by cases decide (e.getD k 0<0)<;> rfl
   rw[hv,qaa];have hc:zo7 (e.getD k 0) rows k x=bif (decide (e.getD k 0<0)|| (e.getD k 0 ==(x:Int)))then zeX rows k x else 0:=rfl
   cases hq:(decide (e.getD k 0<0)|| (e.getD k 0 ==(x:Int)))with
   | true=>
    rw[hq,qdl]at hc;rw[qdl,qaa,<- qbY,<- hc,<- hsu,zaF (by omega),zak (by omega)];exact ih
   | false=>
    rw[hq,qdm]at hc;have hs2:zcw (zo7 (e.getD k 0) rows k) x=zcw (zo7 (e.getD k 0) rows k) (x+1):=by omega
    rw[qdm,qaa,zak (by omega),hs2];exact ih
  rw[qdo hx,qdm,show x=cs.getD k 0 by omega]
theorem znK{dr:DraftN}(hd:DraftOk dr){kn:S_haruspexref05_Known}(hkn:KnOk kn){v:Int}(hv:0<=v/\v<=255)(hw:zoz=some true):zcc 5000 (zcs dr) kn v=some true:=by
 have hb:=zfh;obtain⟨num,ns,hN,_,hD⟩:=zu7 hd (N:=5000) (by decide);have hR:=hN.right;generalize 1+dr.grain % 60=g at *;have hDn:zbH 5000 (zcs dr)=some (zcS g ns):=hD;obtain⟨wt,gs,hf,hF,hwt⟩:=zzU hR;have hc1:∀ x∈ns,1<=x.c:=λx hx=>(hR.card x hx).1
 obtain⟨e,he,hev⟩:=zv5 (g:=g) hkn hR.n2 hc1;obtain⟨cs,hcs⟩:∃ cs,cs=ns.map (·.c):=⟨_,rfl⟩;rw[<- hcs]at hf hF hev hwt;have hFc:Fcs cs:=by rw[hcs]; exact hR.fcs
 have hcl:cs.length=ns.length:=by rw[hcs]; simp
 have hnl:(zcS g ns).nodes.length=ns.length:=by simp[zcS]
 have h1:=hFc.one;have h8:=hFc.len;obtain⟨nv,rfl⟩:=zxu hv.1;obtain⟨k,hkk⟩:∃ k,k=nv % cs.length:=⟨_,rfl⟩;have hkl:k<cs.length:=by rw[hkk]; exact qbM _ (by omega)
 have hrem:znx (w64 (nv:Int)) ((ns.length:Nat):Int)=some (k:Int):=by
  rw[zaF (by omega),<- hcl];unfold znx;rw[show(((cs.length:Nat):Int)== 0)=false from beq_eq_false_iff_ne.2 (by omega),qdm,hkk]; rfl
 have hin:∀ u (h1:u<cs.length) (h2:u<e.length),-1<=e[u]/\e[u]<(cs[u]:Int):=λu u1 u2=>by
  have a1:=hev.lo u u1;have a2:=hev.hi u u1;rw[zap u2]at a1 a2;rw[zap u1]at a2;exact⟨a1,a2⟩
 have hp:=hFc.prod;have hsum:zcw wt (zae cs)<=zcw (λ_=>60 ^ 8) (zae cs):=ziw hwt;have hsc:∀ n:Nat,zcw (λ_=>60 ^ 8) n=n * 167961600000000:=λn=>by
  induction n with
  | zero=>rfl
  | succ n ih=>simp only[zcw,ih]; omega
 rw[hsc]at hsum;have hW:8 * zcw wt (zae cs)+zae cs+1<zbc:=by omega
 obtain⟨hK,rows,root,f1,f2,f3,f4,f5,f6,f7⟩:=zu6 (c:=⟨iL cs,gs⟩) hFc rfl hF hW hev.len hin hkl;have hrk:k<rows.length:=by rw[f2.len]; exact hkl
 have hrg:zaC (rows.map iL) (k:Int)=some (iL (rows.getD k [])):=by rw[zax (by simpa using hrk),zap hrk]; simp
 have hkn':k<ns.length:=by omega
 have hcd:(nd ns[k]).card=((cs.getD k 0:Nat):Int):=by
  rw[hcs,zap (by simpa using hkn')]; simp[nd]
 have hke:k<e.length:=by rw[hev.len]; exact hkl
 have hcnt:root=zcw (zo7 (e.getD k 0) rows k) (cs.getD k 0):=by
  have hi:=hin k hkl hke;rw[<- zap (d:=0) hke,<- zap (d:=0) hkl]at hi;by_cases hneg:e.getD k 0<0
  .have:e.getD k 0 = -1:=by omega
   rw[f6 this];exact zbz λu _=>by unfold zo7; rw[qdn hneg]; rfl
  obtain⟨y,hy⟩:=zxu (show 0<=e.getD k 0 by omega);rw[f7 y (by omega) hy,<- zmD (zeX rows k) y (n:=cs.getD k 0) (by omega)];exact zbz λu _=>by unfold zo7; rw[qdo hneg,hy,zxn]; rfl
 have hloop:=zw8 (c:=⟨iL cs,gs⟩) (e:=e) hkl hev.len h8 f2 (hFc.c4 k) f5 (by rw[<- hcnt]; exact f4) (cs.getD k 0+2) 0 (qaw _) (by omega);rw[show zcw (zo7 (e.getD k 0) rows k) 0=0 from rfl,show((0:Nat):Int)=0 from rfl]at hloop;unfold zcc;rw[hw,qaa,qdl,hDn,qaa,hf,qaa];simp only;rw[qdl,he,qaa,hK,qaa,f1,qaa];simp only
 rw[show((0:Int)== 0)=true from rfl,qdl,qdl,qdl,qdl,qdl,hnl,qaX,f2.len,hcl,qdq,qba,qaa,qdm,hrem,qaa,hrg,qaa,
  show zaC (zcS g ns).nodes (k:Int)=some (nd ns[k])from zcq hkn',qaa,hcd,zam,f2.row k hkl,qdq,qdl,f3,qaa,zaJ,hloop,qaa]
 simp only;rw[show((0:Int)== 0)=true from rfl,qdl,<- hcnt,qdq,qaa]
end Go.Dc
namespace Go.Proofs.Ytbjogdohfhdaiaa.S
open Go Go.Mx Go.Lx Go.Dc Go.ChangeShapes Go.WideShapes Go.ChangeAt Go.RowKit
theorem zAG:Dec zcX [.int .u8,.int .u8,.int .u8,.int .u8,.int .u8,.int .u8,.int .u8,.int .u8,.int .u8]
  (λx=>okI .u8 x.which/\okI .u8 x.v.a0/\okI .u8 x.v.a1/\okI .u8 x.v.a2/\okI .u8 x.v.a3/\okI .u8 x.v.a4/\okI .u8 x.v.a5/\okI .u8 x.v.a6/\okI .u8 x.v.a7):=
 Dec.iso (Dec.pair (Dec.int .u8) zzP) (λx:S_haruspexref05_Known=>(x.which,x.v)) (λa=>⟨a.1,a.2⟩) (λ_=>rfl)
theorem zwY:zdL Try.prog 8 62=some [.int .u8,.int .u8,.int .u8,.int .u8,.int .u8,.int .u8,.int .u8,.int .u8,.int .u8]:=by kernel_rfl
theorem zCL:ztu Try.prog 62=true:=by kernel_rfl
theorem zBv:Try.prog.readableRec 62=true:=by kernel_rfl
theorem zCM{d:D}(h:ShA Try.prog 8 62 d):∃ x:S_haruspexref05_Known,KnOk x/\d=.agg (zcX.c false x):=by
 obtain⟨x,⟨_,k0,k1,k2,k3,k4,k5,k6,k7⟩,h2⟩:=zAG.agg zCL zwY h;refine⟨x,⟨λy hy=>?_⟩,h2⟩;simp only[qbc,List.not_mem_nil,or_false]at hy;rcases hy with rfl | rfl | rfl | rfl | rfl | rfl | rfl | rfl<;>exact zjF (by assumption)
end Go.Proofs.Ytbjogdohfhdaiaa.S
namespace Go.Proofs.Ytbjogdohfhdaiaa
open Go.ChangeShapes Go.WideShapes Go.ChangeAt Go.RowKit
theorem zqN:(Rows.circuitFlatRow.inPlace == Try.pinned.checked.prog.inPlace 5)=true:=by kernel_rfl
theorem zAy:(Rows.circuitFlatRow.unfollowed == Try.pinned.checked.prog.unfollowed 5)=true:=by kernel_rfl
theorem zBw:(Rows.circuitFlatRow.recurses == Try.pinned.checked.prog.recurses 5)=true:=by kernel_rfl
theorem zwk:(Rows.circuitFlatRow.named == Try.pinned.checked.prog.varsNamed 5)=true:=by kernel_rfl
theorem zyi:joinedFacts Try.pinned.checked.prog 5 Try.f5 Rows.circuitFlatSpec Rows.circuitFlatRow=true:=by
 unfold joinedFacts;rw[zxi,zBq,zy5,zy6,zBc,zqN,zAy,zBw,zwk,zyO,zzv,show(Rows.circuitFlatRow.lifted == Try.pinned.checked.prog.liftsFinal)=true from zBa,show(Try.pinned.checked.prog.make == some Rows.circuitFlatRow.make)=true from zAz]
 kernel_rfl
theorem zCT:Try.pinned.checked.prog.funcNamed Rows.circuitFlatRow.func=some 5:=by kernel_rfl
theorem zCS:Try.f5.isInstance Try.pinned.checked.prog Rows.circuitFlatRow.origin Rows.circuitFlatRow.targs:=qds (by kernel_rfl)
end Go.Proofs.Ytbjogdohfhdaiaa
namespace Go.Proofs.Ytbjogdohfhdaiaa.S
open Go Go.Mx Go.Lx Go.Dc Go.ChangeShapes Go.WideShapes Go.ChangeAt Go.RowKit
theorem zBp:∀ t∈[60,62,5],(zdL Try.prog 8 t).isSome=true:=by
 intro t ht;simp only[qbc,List.not_mem_nil,or_false]at ht;rcases ht with rfl | rfl | rfl
 .rw[zwQ]; rfl
 .rw[zwY]; rfl
 rw[zxs]; rfl
theorem zAC:∀ t∈[60,62,5],Try.prog.readableRec t=true/\t<Try.prog.types.size:=by
 intro t ht;simp only[qbc,List.not_mem_nil,or_false]at ht;rcases ht with rfl | rfl | rfl
 .exact⟨zA4,ztB (by decide)⟩
 .exact⟨zBv,ztB (by decide)⟩
 exact⟨zAL,ztB (by decide)⟩
theorem znQ{H:Type}{enc:TypeId×Value->H}{w:World}{b0:Nat}{args:Array Value}{ds:List (DataW H)}{ps:List MemPlace}
  (hv:∀(j:Nat) t v,[60,62,5][j]? = some t->args[j]? = some v->Value.okWide Try.prog w .any b0 t v) (hd:DataW.TrodAll enc Try.prog w 0 (λ_=>true) true [60,62,5] args.toList ds ps):
  Calls Try.prog 5 args w λe w'=>e=.returned (.bool true)/\Below w.heap.size w w':=by
 refine zDN (g:=8) hv hd zBp λes hes=>?_
 obtain⟨x0,r,rfl,h0,hes⟩:=Dc.ShAs.inv hes;obtain⟨x1,r,rfl,h1,hes⟩:=Dc.ShAs.inv hes;obtain⟨x2,r,rfl,h2,hes⟩:=Dc.ShAs.inv hes;obtain rfl:=Dc.ShAs.none hes;obtain⟨a0,k0,rfl⟩:=zvj h0;obtain⟨a1,k1,rfl⟩:=zCM h1;obtain⟨a2,k2,rfl⟩:=zCf h2;exact zgK (znK k0 k1 k2 rfl)
theorem zl4(os:Os)(started:os.Started)(H:Type)(enc:TypeId×Value->H):
  ReturnsInHanded {} Try.checked os 5 .any (Rows.circuitFlatSpec.pre6 enc Try.prog Try.f5 Rows.circuitFlatRow.domain false) (Rows.circuitFlatSpec.post enc Try.prog Try.f5 false true false false):=by
 refine returnsInHanded_of_change (C:=Try.checked) own started (by kernel_rfl) Try.func5
  (ChangeSpec.witness6 (enc:=enc) (C:=Try.checked) false ⟨#[],#[.agg #[.int .u8 0,.slice none 0 0,.slice none 0 0],.agg #[.int .u8 0,.int .u8 0,.int .u8 0,.int .u8 0,.int .u8 0,.int .u8 0,.int .u8 0,.int .u8 0,.int .u8 0],.int .u8 0],[]⟩ 8 (by kernel_rfl) (by kernel_rfl) (by kernel_rfl) (by kernel_rfl)) ?_
 intro W base args ds gs before hval0 hW hcnd _;have hval:∀(j:Nat) t v,Try.f5.params[j]? = some t->args[j]? = some v->Value.okWide Try.prog W .any base t v:=hval0;have hlt:∀ x∈before,x.block<W.heap.size:=λx hx=>hW.lt x hx
 have hW':=hW;obtain⟨p,q,hA0,hV,rfl,hfz,hnd⟩:=hW;have hA:DataW.TrodAll enc Try.prog W 0 (λ_=>true) true Try.f5.params.toList args.toList ds p:=hA0;rw[Try.params5]at hA hval;have hcalls:=znQ (λj t v h1 h2=>hval j t v (by simpa using h1) h2) hA;obtain⟨rfl,rfl⟩:=trodVars_none hV;have hA1:DataW.TrodAll enc Try.prog W 0 (λ_=>true) true [60,62,5] args.toList ds p:=hA;have hds:∃ d0 d1 d2:DataW H,ds=[d0,d1,d2]:=by
  obtain⟨_,_,d0,ds0,_,_,_,e0,_,_,r0⟩:=trodAll_cons hA1;obtain⟨_,_,d1,ds1,_,_,_,e1,_,_,r1⟩:=trodAll_cons r0;obtain⟨_,_,d2,ds2,_,_,_,e2,_,_,r2⟩:=trodAll_cons r1;obtain⟨_,e3,_⟩:=trodAll_nil r2;exact⟨d0,d1,d2,by rw[e0,e1,e2,e3]⟩
 obtain⟨d0,d1,d2,rfl⟩:=hds;clear hA0 hval0;simp only[qaY]at hW' hlt;refine hcalls.mono λe W' ⟨he,hb⟩=>?_
 subst he
 exact⟨_,rfl,_,_,_,[],_,[],hW',trodAll_mk1 (shut_bool Try.underlying4 true),
  (by rw[Try.params5]; exact zgy hb hA1 zAC hlt),
  rfl,hb.frame _,λh=>by cases h⟩
theorem cflat_said:Rows.CircuitFlatSaid:=
 OpenClaim.holds_of_wide 5 Try.f5 rfl rfl rfl rfl rfl rfl rfl ⟨rfl,rfl,rfl,rfl,rfl⟩ rfl rfl rfl rfl rfl zCT Try.func5 zyi
  zCS (by unfold Func.isWrapper; first | (rw[if_pos (by decide +kernel)]; kernel_rfl)| (rw[if_neg (by decide +kernel)]; exact⟨rfl,rfl⟩))
  (λos started H enc _=>zl4 os started H enc)
end Go.Proofs.Ytbjogdohfhdaiaa.S
namespace Go.Proofs.Ytbjogdohfhdaiaa
theorem cflat_said:Rows.CircuitFlatSaid:=S.cflat_said
end Go.Proofs.Ytbjogdohfhdaiaa
