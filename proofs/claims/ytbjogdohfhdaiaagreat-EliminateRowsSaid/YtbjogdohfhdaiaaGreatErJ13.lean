/-
 Closing: what the laws of this seat have in common. Conditions: none.
-/
import Derived.Test.YtbjogdohfhdaiaaGreatErWk5
import Derived.Test.YtbjogdohfhdaiaaGreatErFct
import Derived.Test.YtbjogdohfhdaiaaGreatErJ10
import Derived.Test.YtbjogdohfhdaiaaGreatErDm
import Derived.Test.YtbjogdohfhdaiaaGreatErJ12
import Derived.Test.YtbjogdohfhdaiaaGreatErJ7
import Derived.Test.YtbjogdohfhdaiaaGreatErJ6
import Derived.Test.YtbjogdohfhdaiaaGreatErJ5
import Derived.Test.YtbjogdohfhdaiaaGreatErJ8
import Derived.Test.YtbjogdohfhdaiaaGreatErQ7
set_option linter.unusedSimpArgs false
set_option linter.unusedVariables false
set_option maxRecDepth 100000
namespace Go.Proofs.YtbjogdohfhdaiaaGreat.S
open Go Go.Mx Go.Lx Go.Dc Go.ChangeShapes Go.WideShapes Go.ChangeAt Go.RowKit
theorem own:ownKnob Tryz.prog.godebug=none:=by kernel_rfl
theorem laidOut:laidOutB Tryz.prog=true:=zAr
theorem zB2:zhv Tryz.prog Dc.zDP:=by
 intro B f args h cr h' ho;unfold Dc.zDP at ho;cases args with
 | cons a r=>exact zja _ _ _ _ _ _ ho
 | nil=>
  simp only at ho;cases hf:Nat.beq f 10 with
  | false=>rw[hf]at ho; cases ho
  | true=>
   rw[hf]at ho;have:=qaF hf;subst this;cases ho;exact zqT (by kernel_rfl) W.zrb B h
theorem zFN:∀ f fn,mC.fns f=some fn->znE Tryz.prog f fn:=by
 intro f fn h;have hp:=zC0 (P:=Tryz.prog) (f:=f) h;have he:({ fn with p:=false }:Mx.Fn)=fn:=by
  cases fn;simp only at hp;subst hp;rfl
 unfold znE;rw[he];exact h
theorem zIy{H:Type}{enc:TypeId×Value->H}{w:World}{f g b0:Nat}{ts:List TypeId}{args:Array Value}{ds:List (DataW H)}{ps:List MemPlace}
  (hv:∀(j:Nat) t v,ts[j]? = some t->args[j]? = some v->Value.okWide Tryz.prog w .any b0 t v) (hd:DataW.TrodAll enc Tryz.prog w 0 (λ_=>true) true ts args.toList ds ps) (hf:∀ t∈ts,(zfa Tryz.prog g t).isSome=true)
  (hF:∀ es,ShAs Tryz.prog g ts es->Lx.Fn mC f es (.lit (.bool true))):Calls Tryz.prog f args w λe w'=>e=.returned (.bool true)/\Below w.heap.size w w':=
 zxz W.mixed zFN zB2 hv hd hf hF
theorem zfb{n:Int}(h:okI .u8 n):0<=n/\n<=255:=by
 simpa [okI,Lit.wf,IntKind.has,IntKind.min,IntKind.max,IntKind.signed,IntKind.bits]using h
theorem zvM{xs:List Int}(h:okL (okI .u8) xs):∃ ns:List Nat,(∀ x∈ns,x<=255)/\xs=iL ns:=by
 obtain⟨ns,h1,h2⟩:=Dc.zrE (l:=xs) (f:=λn:Nat=>(n:Int)) (T:=λn=>n<=255) λy hy=>by
  have:=zfb (h.2 y hy);exact⟨y.toNat,by omega,by omega⟩
 exact⟨ns,h1,h2⟩
theorem zvP:Dec za3 [.int .u8,.int .u8,.sl [.int .u8]] (λx=>okI .u8 x.zaF/\okI .u8 x.parents/\okL (okI .u8) x.w):=
 Dec.iso (Dec.pair (Dec.int .u8) (Dec.pair (Dec.int .u8) (Dec.list (Dec.int .u8)))) (λx:S_haruspexref05_Piece=>(x.zaF,x.parents,x.w)) (λa=>⟨a.1,a.2.1,a.2.2⟩) (λ_=>rfl)
theorem zva:Dec zea [.int .u8,.sl [.int .u8,.int .u8,.sl [.int .u8]],.sl [.int .u8]]
  (λx=>okI .u8 x.grain/\okL (λx=>okI .u8 x.zaF/\okI .u8 x.parents/\okL (okI .u8) x.w) x.nodes/\okL (okI .u8) x.order):=
 Dec.iso (Dec.pair (Dec.int .u8) (Dec.pair (Dec.list zvP) (Dec.list (Dec.int .u8)))) (λx:S_haruspexref05_Draft=>(x.grain,x.nodes,x.order)) (λa=>⟨a.1,a.2.1,a.2.2⟩) (λ_=>rfl)
theorem zyR{x:S_haruspexref05_Draft}(h:okI .u8 x.grain/\okL (λx=>okI .u8 x.zaF/\okI .u8 x.parents/\okL (okI .u8) x.w) x.nodes/\okL (okI .u8) x.order):∃ d:DraftN,DraftOk d/\x=zdL d:=by
 obtain⟨grain,nodes,order⟩:=x;obtain⟨h1,h2,h3⟩:=h;have hg:=zfb h1;obtain⟨os,o1,o2⟩:=zvM h3;obtain⟨ps,p1,p2⟩:=Dc.zrE (l:=nodes) (f:=zrM) (T:=λn=>n.zaF<=255) λy hy=>by
  obtain⟨g1,g2,g3⟩:=h2.2 y hy;have k1:=zfb g1;have k2:=zfb g2;obtain⟨ws,w1,w2⟩:=zvM g3;refine⟨⟨y.zaF.toNat,y.parents.toNat,ws⟩,by simp only; omega,?_⟩;obtain⟨a,b,c⟩:=y;simp only at k1 k2 w2;subst w2;simp only[zrM,qcn k1.1,qcn k2.1]
 refine⟨⟨grain.toNat,ps,os⟩,⟨by simp only at hg ⊢; omega,p1,o1⟩,?_⟩;simp only at o2 p2 hg;subst o2 p2;simp only[zdL,qcn hg.1]
theorem zA0:zfa Tryz.prog 8 25=some [.int .u8,.sl [.int .u8,.int .u8,.sl [.int .u8]],.sl [.int .u8]]:=by kernel_rfl
theorem zHD:zwJ Tryz.prog 25=true:=by kernel_rfl
theorem zDY:Tryz.prog.readableRec 25=true:=by kernel_rfl
theorem zyX{d:D}(h:ShA Tryz.prog 8 25 d):∃ dr:DraftN,DraftOk dr/\d=.agg (zea.c false (zdL dr)):=by
 obtain⟨x,h1,h2⟩:=zva.agg zHD zA0 h;obtain⟨dr,h3,rfl⟩:=zyR h1;exact⟨dr,h3,h2⟩
theorem zhY{H:Type}{enc:TypeId×Value->H}{W W':World}(hb:Below W.heap.size W W'):∀ {ts:List TypeId} {vs:List Value} {ds:List (DataW H)} {ps:List MemPlace},
  DataW.TrodAll enc Tryz.prog W 0 (λ_=>true) true ts vs ds ps->(∀ t∈ts,Tryz.prog.readableRec t=true/\t<Tryz.prog.types.size)->(∀ x∈ps,x.block<W.heap.size)->
  DataW.TrodAll enc Tryz.prog W' 0 (λb=>decide (b<W.heap.size)) true ts vs ds ps
 | [],vs,ds,ps,h,_,_=>by
  obtain⟨rfl,rfl,rfl⟩:=trodAll_nil h;exact trodAll_mk0
 | t :: ts,vs,ds,ps,h,ht,hlt=>by
  obtain⟨v,vs',d,ds',p,q,rfl,rfl,rfl,h1,h2⟩:=trodAll_cons h;obtain⟨r1,r2⟩:=ht t qaj;exact⟨p,q,Below.trod laidOut r1 r2 h1 hb (λx hx=>hlt x (qcW _ hx)),zhY hb h2 (λt h=>ht t (qah _ h)) (λx hx=>hlt x (qdj _ hx)),rfl⟩
theorem zmo:Dec zbs [.int .u8,.int .u8,.int .u8,.int .i64] (λx=>okI .u8 x.what/\okI .u8 x.at_/\okI .u8 x.row/\okI .i64 x.n):=
 Dec.iso (Dec.pair (Dec.int .u8) (Dec.pair (Dec.int .u8) (Dec.pair (Dec.int .u8) (Dec.int .i64)))) (λx:S_haruspexref05_Bend=>(x.what,x.at_,x.row,x.n)) (λa=>⟨a.1,a.2.1,a.2.2.1,a.2.2.2⟩) (λ_=>rfl)
theorem zxL:(252:Nat)<Tryz.prog.types.size:=of_decide_eq_true (by kernel_rfl)
end Go.Proofs.YtbjogdohfhdaiaaGreat.S
namespace Go.Dc
open Go Go.Mx Go.Lx
structure AskOk (a:S_haruspexlaw09_Ask):Prop where
 k:KnOk a.known
 l:∀ x∈[a.l.a0,a.l.a1,a.l.a2,a.l.a3,a.l.a4,a.l.a5,a.l.a6,a.l.a7],0<=x/\x<=255
theorem zwp{α:Type}{xs:List α}{i:Nat}{P:α->Prop}(h:i<xs.length)(hp:∀ x∈xs,P x):∃ x,zaE xs (i:Int)=some x/\P x:=⟨xs[i],zba h,hp _ (qao h)⟩
theorem zmt{m v:Nat}{l:A8_Intu8}(hl:∀ x∈[l.a0,l.a1,l.a2,l.a3,l.a4,l.a5,l.a6,l.a7],0<=x/\x<=255)(hm:m<=8):∀(n i:Nat) (xs:List Nat),OrdOk i v xs->(xs.length+if v<i then 1 else 0)=i->i<=m->m - i<n ->
  ∃ zs:List Nat,zcE (m:Int) (v:Int) l n (iL xs) (i:Int)=some (iL zs)/\OrdOk m v zs/\(zs.length+if v<m then 1 else 0)=m
 | 0,_,_,_,_,_,h=>absurd h (qam _)
 | n+1,i,xs,ho,hx,hi,hf=>by
  unfold zcE;rw[zaT];by_cases hlt:i<m
  .rw[qdv hlt,qdt];by_cases hv:i=v
   .subst hv;rw[qdx,qdt,qaa,zai (by omega)]
    exact zmt hl hm n (i+1) xs ⟨ho.nod,λx h=>qck (ho.lt x h),ho.ne⟩ (by
     rw[if_neg (qca _)]at hx;rw[if_pos (qbo _)]
     omega) hlt (by omega)
   have hxl:xs.length<=i:=by omega
   obtain⟨x3,e3,b3⟩:=zwp (xs:=[l.a0,l.a1,l.a2,l.a3,l.a4,l.a5,l.a6,l.a7]) (i:=i) (P:=λx=>0<=x/\x<=255) (by simp; omega) hl;obtain⟨y,rfl⟩:∃ y:Nat,x3=(y:Int):=⟨x3.toNat,by omega⟩;obtain⟨q,hq⟩:∃ q,y % (xs.length+1)=q:=⟨_,rfl⟩;have hql:q<=xs.length:=by have:=qa7 y (qdg xs.length); rw[show xs.length.succ=xs.length+1 from rfl,hq]at this; omega
   have hp:List.Perm (xs.take q ++ i :: xs.drop q) (i :: xs):=by
    refine List.perm_middle.trans ?_;rw[qbZ]
   have hy255:y<=255:=by omega
   obtain⟨zs,g1,g2,g3⟩:=zmt hl hm n (i+1) (xs.take q ++ i :: xs.drop q) ⟨hp.nodup_iff.2 (qaR.2 ⟨λh=>qca _ (ho.lt _ h),ho.nod⟩),
    λx h=>by
     rcases qav.1 (hp.mem_iff.1 h)with rfl | h
     .exact qbo _
     exact qck (ho.lt _ h),
    λx h=>by
     rcases qav.1 (hp.mem_iff.1 h)with rfl | h
     .exact hv
     exact ho.ne _ h⟩ (by
    rw[hp.length_eq,qaB];by_cases hvi:v<i
    .rw[if_pos hvi]at hx; rw[if_pos (by omega)]; omega
    rw[if_neg hvi]at hx; rw[if_neg (by omega)]; omega) hlt (by omega)
   refine⟨zs,?_,g2,g3⟩
   rw[show((i:Int)==(v:Int))=false from by rw[qdA]; omega,qdu,show((i:Int)).tmod 8=(i:Int)from by
     rw[show(8:Int)=((8:Nat):Int)from rfl,zsF,qbb (by omega)],e3,qaa,zal,zaC (by omega),zai (by omega),zgC (by omega),qaa,hq,
    show(0:Int)=((0:Nat):Int)from rfl,ziC (qau _) (by rw[zal]; omega),qaa,zg4 (by simp[zal]; omega),qaa,
    zcU (by simp[zal]; omega),qaa,ziC hql (by rw[zal]; exact qap _),qaa,zcU (by simp[zal]; omega),qaa,qaa,zai (by omega),<- g1]
   congr 1
   simp[iL,qaM]
  have hie:i=m:=by omega
  subst hie;rw[qdw hlt,qdu];exact⟨xs,rfl,ho,hx⟩
theorem zzH{m v:Nat}{l:A8_Intu8}(hl:∀ x∈[l.a0,l.a1,l.a2,l.a3,l.a4,l.a5,l.a6,l.a7],0<=x/\x<=255)(hm:m<=8)(hv:v<m):
  ∃ zs:List Nat,zdb (m:Int) (v:Int) l=some (iL zs)/\OrdOk m v zs/\zs.length=m - 1:=by
 obtain⟨zs,g1,g2,g3⟩:=zmt (v:=v) hl hm (m+2) 0 [] ⟨.nil,(λ_ h=>nomatch h),(λ_ h=>nomatch h)⟩ rfl (qau _) (by omega);rw[if_pos hv]at g3;refine⟨zs,?_,g2,by omega⟩;unfold zdb;rw[zaK,show zcE (m:Int) (v:Int) l (m+2) [] 0=some (iL zs)from g1,qaa]
theorem zuJ(x:Int):∃ n:Nat,IntKind.u64.wrap x=(n:Int):=by
 have h:0<=IntKind.u64.wrap x:=by
  simp only[IntKind.wrap,IntKind.bits,IntKind.signed];simp;omega
 exact⟨(IntKind.u64.wrap x).toNat,by omega⟩
variable{a:S_haruspexlaw09_Ask}
theorem zFB{m:Nat}(h1:1<=m)(hm:m<=8):∃ v:Nat,v<m/\zcl a (m:Int)=some (v:Int):=by
 obtain⟨n,hn⟩:=zuJ a.v;have hlt:=qa7 n (show 0<m by omega);refine⟨n % m,hlt,?_⟩;unfold zcl;rw[hn,show zly (m:Int) 1=(m:Int)from by unfold zly; split<;>omega,zbY (by omega),zgC (by omega),qaa,zaC (by omega)]
theorem zC6(ha:AskOk a){g:Nat}{ns:List NN}(h:RightN g ns):
  ∃(v:Nat) (e:List Int) (xs:List Nat) (r:A4_S_haruspexlaw09_Ask),zgS a (zbx g ns)=some r/\v<ns.length/\EvOk (ns.map (·.c)) e/\OrdOk ns.length v xs/\xs.length=ns.length - 1 /\
   zcl a (ns.length:Int)=some (v:Int)/\zcj a.known (zbx g ns)=some e/\zdb (ns.length:Int) (v:Int) a.l=some (iL xs)/\
   ∀ x∈[r.a0,r.a1,r.a2,r.a3],x.order.length<=10:=by
 have hn8:=h.n2;have hn1:=h.n1;have hnl:(zbx g ns).nodes.length=ns.length:=by simp[zbx]
 obtain⟨v,v1,v2⟩:=zFB (a:=a) hn1 hn8;obtain⟨e,e1,e2⟩:=zzO (g:=g) ha.k hn8 λx hx=>(h.zaF x hx).1
 obtain⟨xs,x1,x2,x3⟩:=zzH (l:=a.l) ha.l hn8 v1;obtain⟨y5,y51,y52,_⟩:=zoF (xs:=a.e) (k:=10);obtain⟨y7,y71,y72,_⟩:=zoF (xs:=a.order) (k:=10);rw[show((10:Nat):Int)=10 from rfl]at y51 y71;have hxl:(iL xs).length<=10:=by rw[zal]; omega
 refine⟨v,e,xs,_,by unfold zgS; rw[e1,qaa,hnl,v2,qaa,y51,qaa,y71,qaa,x1,qaa],v1,e2,x2,x3,v2,e1,x1,λx hx=>?_⟩;simp only[qav,qbC,qdC]at hx;rcases hx with rfl | rfl | rfl | rfl
 .exact hxl
 .exact hxl
 .exact hxl
 exact y72
end Go.Dc
namespace Go.Proofs.YtbjogdohfhdaiaaGreat.S
open Go Go.Mx Go.Lx Go.Dc Go.ChangeShapes Go.WideShapes Go.ChangeAt Go.RowKit
theorem zAW:Dec zla [.int .u8,.int .u8,.int .u8,.int .u8,.int .u8,.int .u8,.int .u8,.int .u8] (λx=>okI .u8 x.a0/\okI .u8 x.a1/\okI .u8 x.a2/\okI .u8 x.a3/\okI .u8 x.a4/\okI .u8 x.a5/\okI .u8 x.a6/\okI .u8 x.a7):=
 Dec.iso (Dec.pair (Dec.int .u8) (Dec.pair (Dec.int .u8) (Dec.pair (Dec.int .u8) (Dec.pair (Dec.int .u8) (Dec.pair (Dec.int .u8) (Dec.pair (Dec.int .u8) (Dec.pair (Dec.int .u8) (Dec.int .u8))))))))
  (λx:A8_Intu8=>(x.a0,x.a1,x.a2,x.a3,x.a4,x.a5,x.a6,x.a7)) (λa=>⟨a.1,a.2.1,a.2.2.1,a.2.2.2.1,a.2.2.2.2.1,a.2.2.2.2.2.1,a.2.2.2.2.2.2.1,a.2.2.2.2.2.2.2⟩) (λ_=>rfl)
theorem zwj:Dec zeb [.int .u8,.int .u8,.int .u8,.int .u8,.int .u8,.int .u8,.int .u8,.int .u8,.int .u8]
  (λx=>okI .u8 x.which/\okI .u8 x.v.a0/\okI .u8 x.v.a1/\okI .u8 x.v.a2/\okI .u8 x.v.a3/\okI .u8 x.v.a4/\okI .u8 x.v.a5/\okI .u8 x.v.a6/\okI .u8 x.v.a7):=
 Dec.iso (Dec.pair (Dec.int .u8) zAW) (λx:S_haruspexref05_Known=>(x.which,x.v)) (λa=>⟨a.1,a.2⟩) (λ_=>rfl)
theorem zB6:Dec zeR [.int .u8,.int .u8,.int .u8,.int .u8,.int .u8,.int .u8,.int .u8,.int .u8,.int .u8,.int .i64,.int .u8,.int .u8,.int .u8,.int .u8,.int .u8,.int .u8,.int .u8,.int .u8,.sl [.int .i64],.sl [.int .i64]]
  (λx=>(okI .u8 x.known.which/\okI .u8 x.known.v.a0/\okI .u8 x.known.v.a1/\okI .u8 x.known.v.a2/\okI .u8 x.known.v.a3/\okI .u8 x.known.v.a4/\okI .u8 x.known.v.a5/\okI .u8 x.known.v.a6/\okI .u8 x.known.v.a7)/\okI .i64 x.v /\
   (okI .u8 x.l.a0/\okI .u8 x.l.a1/\okI .u8 x.l.a2/\okI .u8 x.l.a3/\okI .u8 x.l.a4/\okI .u8 x.l.a5/\okI .u8 x.l.a6/\okI .u8 x.l.a7)/\okL (okI .i64) x.e/\okL (okI .i64) x.order):=
 Dec.iso (Dec.pair zwj (Dec.pair (Dec.int .i64) (Dec.pair zAW (Dec.pair (Dec.list (Dec.int .i64)) (Dec.list (Dec.int .i64))))))
  (λx:S_haruspexlaw09_Ask=>(x.known,x.v,x.l,x.e,x.order)) (λa=>⟨a.1,a.2.1,a.2.2.1,a.2.2.2.1,a.2.2.2.2⟩) (λ_=>rfl)
theorem zu8:zfa Tryz.prog 8 33=some [.int .u8,.int .u8,.int .u8,.int .u8,.int .u8,.int .u8,.int .u8,.int .u8,.int .u8,.int .i64,.int .u8,.int .u8,.int .u8,.int .u8,.int .u8,.int .u8,.int .u8,.int .u8,.sl [.int .i64],.sl [.int .i64]]:=by kernel_rfl
theorem zFZ:zwJ Tryz.prog 33=true:=by kernel_rfl
theorem zB7:Tryz.prog.readableRec 33=true:=by kernel_rfl
theorem zFk{d:D}(h:ShA Tryz.prog 8 33 d):∃ x:S_haruspexlaw09_Ask,AskOk x/\d=.agg (zeR.c false x):=by
 obtain⟨x,⟨⟨_,k0,k1,k2,k3,k4,k5,k6,k7⟩,_,⟨l0,l1,l2,l3,l4,l5,l6,l7⟩,_⟩,h2⟩:=zB6.agg zFZ zu8 h;refine⟨x,⟨⟨λy hy=>?_⟩,λy hy=>?_⟩,h2⟩
 .simp only[qav,qbC,qdC]at hy;rcases hy with rfl | rfl | rfl | rfl | rfl | rfl | rfl | rfl<;>exact zfb (by assumption)
 simp only[qav,qbC,qdC]at hy;rcases hy with rfl | rfl | rfl | rfl | rfl | rfl | rfl | rfl<;>exact zfb (by assumption)
theorem zw0:Dec zdJ [.int .u8,.int .u8,.int .u8,.int .i64,.int .u8,.int .u8,.int .u8,.int .i64,.int .u8,.int .u8,.int .u8,.int .i64]
  (λx=>(okI .u8 x.a0.what/\okI .u8 x.a0.at_/\okI .u8 x.a0.row/\okI .i64 x.a0.n)/\(okI .u8 x.a1.what/\okI .u8 x.a1.at_/\okI .u8 x.a1.row/\okI .i64 x.a1.n)/\okI .u8 x.a2.what/\okI .u8 x.a2.at_/\okI .u8 x.a2.row/\okI .i64 x.a2.n):=
 Dec.iso (Dec.pair zmo (Dec.pair zmo zmo)) (λx:A3_S_haruspexref05_Bend=>(x.a0,x.a1,x.a2)) (λa=>⟨a.1,a.2.1,a.2.2⟩) (λ_=>rfl)
theorem zAQ:zfa Tryz.prog 8 70=some [.int .u8,.int .u8,.int .u8,.int .i64,.int .u8,.int .u8,.int .u8,.int .i64,.int .u8,.int .u8,.int .u8,.int .i64]:=by kernel_rfl
theorem zGC:zwJ Tryz.prog 70=true:=by kernel_rfl
theorem zEl:Tryz.prog.readableRec 70=true:=by kernel_rfl
theorem zzk{d:D}(h:ShA Tryz.prog 8 70 d):∃ x:A3_S_haruspexref05_Bend,(∀ y∈[x.a0,x.a1,x.a2],BendOk y)/\d=.agg (zdJ.c false x):=by
 obtain⟨x,⟨⟨a1,a2,a3,_⟩,⟨b1,b2,b3,_⟩,c1,c2,c3,_⟩,h4⟩:=zw0.agg zGC zAQ h;refine⟨x,λy hy=>?_,h4⟩;simp only[qav,qbC,qdC]at hy;rcases hy with rfl | rfl | rfl
 .exact⟨zfb a1,zfb a2,zfb a3⟩
 .exact⟨zfb b1,zfb b2,zfb b3⟩
 exact⟨zfb c1,zfb c2,zfb c3⟩
end Go.Proofs.YtbjogdohfhdaiaaGreat.S
namespace Go.Proofs.YtbjogdohfhdaiaaGreat
open Go.ChangeShapes Go.WideShapes Go.ChangeAt Go.RowKit
theorem zt3:(Rows.eliminateRowsRow.inPlace == Tryz.pinned.checked.prog.inPlace 7)=true:=by kernel_rfl
theorem zDR:(Rows.eliminateRowsRow.unfollowed == Tryz.pinned.checked.prog.unfollowed 7)=true:=by kernel_rfl
theorem zEm:(Rows.eliminateRowsRow.recurses == Tryz.pinned.checked.prog.recurses 7)=true:=by kernel_rfl
theorem zzd:(Rows.eliminateRowsRow.named == Tryz.pinned.checked.prog.varsNamed 7)=true:=by kernel_rfl
theorem zBh:joinedFacts Tryz.pinned.checked.prog 7 Tryz.f7 Rows.eliminateRowsSpec Rows.eliminateRowsRow=true:=by
 unfold joinedFacts;rw[zAr,zF5,zB1,zCz,zE7,zt3,zDR,zEm,zzd,zBj,zCb,show(Rows.eliminateRowsRow.lifted == Tryz.pinned.checked.prog.liftsFinal)=true from zDM,show(Tryz.pinned.checked.prog.make == some Rows.eliminateRowsRow.make)=true from zEj]
 kernel_rfl
theorem zG8:Tryz.pinned.checked.prog.funcNamed Rows.eliminateRowsRow.func=some 7:=by kernel_rfl
theorem zHb:Tryz.f7.isInstance Tryz.pinned.checked.prog Rows.eliminateRowsRow.origin Rows.eliminateRowsRow.targs:=of_decide_eq_true (by kernel_rfl)
end Go.Proofs.YtbjogdohfhdaiaaGreat
namespace Go.Dc
open Go Go.Mx Go.Lx
theorem zrX:∀ {r:List Nat} {i y:Nat},i<r.length->(r.set i y).sum+r.getD i 0=r.sum+y
 | x :: r,0,y,_=>by
  simp only[qbS,qc8,List.getD_cons_zero];omega
 | x :: r,i+1,y,h=>by
  have ih:=zrX (r:=r) (i:=i) (y:=y) (by simpa using h);simp only[qcf,qc8,List.getD_cons_succ];omega
theorem zxh:∀(n i k:Nat) (r:List Nat),k<r.length->r.length<=1000->k+1 - i<n->∃ r':List Nat,swL n (i:Int) (k:Int) (iL r)=some (iL r')/\r'.length=r.length/\r'.sum=r.sum
 | 0,_,_,_,_,_,h=>absurd h (qam _)
 | n+1,i,k,r,hk,hl,hn=>by
  unfold swL;rw[zaT];by_cases hi:i<k
  .have hil:i<r.length:=by omega
   have hk2:k<(r.set i r[k]).length:=by rw[qaw]; exact hk
   obtain⟨r',g1,g2,g3⟩:=zxh n (i+1) (k - 1) ((r.set i r[k]).set k r[i]) (by rw[qaw,qaw]; omega) (by rw[qaw,qaw]; exact hl) (by omega);have s1:=zrX (r:=r) (i:=i) (y:=r[k]) hil;have s2:=zrX (r:=r.set i r[k]) (i:=k) (y:=r[i]) hk2;rw[show r.getD i 0=r[i]from by rw[qag,qac hil]; rfl]at s1;rw[show(r.set i r[k]).getD k 0=r[k]from by rw[qag,qaD (by omega),qac hk]; rfl]at s2;refine⟨r',?_,by rw[g2,qaw,qaw],by omega⟩;rw[qdv hi,qdt,za5 hil,qaa,za5 hk,qaa,zi1 hil,qaa,zi1 hk2,qaa,zai (by omega),show w64 ((k:Int) - 1)=((k - 1:Nat):Int)from by rw[zgh (by omega) (by omega)]; omega];exact g1
  rw[qdw hi,qdu];exact⟨r,rfl,rfl,rfl⟩
def ztO(x:NN)(w:Nat)(r:List Nat):NN:=⟨x.c,x.ps,x.rows.set w r⟩
variable{g:Nat}{ns:List NN}
theorem RightN.setRow(h:RightN g ns){t w:Nat}(ht:t<ns.length){r:List Nat}(hl:r.length=ns[t].c)(hs:r.sum=g):RightN g (ns.set t (ztO ns[t] w r))/\(ns.set t (ztO ns[t] w r)).map (·.c)=ns.map (·.c)/\(ns.set t (ztO ns[t] w r)).map (·.ps)=ns.map (·.ps):=by
 have hc:(ns.set t (ztO ns[t] w r)).map (·.c)=ns.map (·.c):=zkB ht rfl;have hp:(ns.set t (ztO ns[t] w r)).map (·.ps)=ns.map (·.ps):=by
  rw[qcD];apply qbJ (by simp);intro i h1 h2;rw[List.getElem_set];split
  .rename_i e; subst e; simp[ztO]
  rfl
 have hmem:∀ {P:NN->Prop},(∀ y∈ns,P y)->P (ztO ns[t] w r)->∀ y∈ns.set t (ztO ns[t] w r),P y:=λ{P} h1 h2 y hy=>by
  rcases qbV hy with hy | rfl
  .exact h1 y hy
  exact h2
 have hm:=qao ht;refine⟨⟨h.g1,h.g2,by rw[qaw]; exact h.n1,by rw[qaw]; exact h.n2,hmem h.zaF (h.zaF ns[t] hm),by rw[hc]; exact h.prod,hmem h.inc (h.inc ns[t] hm),by rw[qaw]; exact hmem h.lt (h.lt ns[t] hm),?_,?_⟩,hc,hp⟩
 .rw[hc];refine hmem h.rows ⟨?_,λy hy=>?_⟩
  .show(ns[t].rows.set w r).length=_;rw[qaw];exact(h.rows _ hm).len
  rcases qbV (show y∈ns[t].rows.set w r from hy)with hy | rfl
  .exact(h.rows _ hm).row y hy
  exact⟨hl,hs⟩
 obtain⟨rk,r1,r2⟩:=h.rk;refine⟨rk,r1,λv x hx p hp'=>?_⟩;rw[List.getElem?_set]at hx;split at hx
 .rename_i e;subst e;cases hx;exact r2 t ns[t] (qac ht) p hp'
 exact r2 v x hx p hp'
structure LikeN (g:Nat) (ns ns':List NN) (R:Nat):Prop where
 r:RightN g ns'
 c:ns'.map (·.c)=ns.map (·.c)
 ps:ns'.map (·.ps)=ns.map (·.ps)
 same:∀ u,R.testBit u=true->ns'.getD u zdd=ns.getD u zdd
variable{ns':List NN}
theorem LikeN.len{R:Nat}(h:LikeN g ns ns' R):ns'.length=ns.length:=by
 have:=congrArg List.length h.c
 rwa [qak,qak]at this
theorem LikeN.ztx{R:Nat}(h:LikeN g ns ns' R):zan ns'=zan ns:=by
 have e:∀ l:List NN,zan l=(l.map (·.ps)).map zeP:=λl=>by simp[zan]
 rw[e,e,h.ps]
theorem zyh{R:Nat}(h:LikeN g ns ns' R){b:S_haruspexref05_Bend}(hw:b.what=8\/b.what=9)(ha:0<=b.at_/\b.at_<=255)(hr:0<=b.row/\b.row<=255)(hn:R.testBit (b.at_.toNat % ns.length)=false):
  ∃ ns2,zog b (zbx g ns')=some (zbx g ns2)/\LikeN g ns ns2 R:=by
 have hl:=h.len;have h8:=h.r.n2;have h1:=h.r.n1;obtain⟨t,ht⟩:∃ t,t=b.at_.toNat % ns'.length:=⟨_,rfl⟩;have htl:t<ns'.length:=by rw[ht]; exact qa7 _ (by omega)
 have hRt:R.testBit t=false:=by rw[ht,hl]; exact hn
 have hm:=qao htl;have hrows:=h.r.rows _ hm;have hcard:=h.r.zaF _ hm;have hnl:(zbx g ns').nodes.length=ns'.length:=by simp[zbx]
 have hget:(zbx g ns').nodes[t]? = some (nd ns'[t]):=by simp[zbx,htl]
 have hrl1:1<=ns'[t].rows.length:=by
  rw[hrows.len];exact zdV λc hc=>by
   obtain⟨p,hp,rfl⟩:=qaH.1 hc;exact(h.r.zEk hm p hp).1
 obtain⟨w,hw'⟩:∃ w,w=b.row.toNat % ns'[t].rows.length:=⟨_,rfl⟩;have hwl:w<ns'[t].rows.length:=by rw[hw']; exact qa7 _ (by omega)
 obtain⟨r1,r2⟩:=hrows.row _ (qao hwl);have hrget:(nd ns'[t]).rows[w]? = some (iL ns'[t].rows[w]):=by simp[nd,hwl]
 have hpre:(0<=b.what/\b.what<=255)/\(0<=b.at_/\b.at_<=255)/\(0<=b.row/\b.row<=255)/\((zbx g ns').nodes.length+2)* 56<=zah/\∀ x∈(zbx g ns').nodes,FitN x:=by
  refine⟨by omega,ha,hr,by rw[hnl]; simp only[zah]; omega,λx hx=>?_⟩;obtain⟨y,hy,rfl⟩:=qaH.1 (show x∈ns'.map nd from hx);have p1:=h.r.zEV hy;have p2:=h.r.zDK hy;have p3:=(h.r.rows y hy).len;have p4:=(h.r.zaF y hy).2;refine⟨?_,?_,λr hr=>?_⟩
  .show((iL y.ps).length+1)* 8<=zah;rw[zal]; simp only[zah]; omega
  .show((y.rows.map iL).length+1)* 24<=zah;rw[qak]; simp only[zah]; omega
  obtain⟨r0,hr0,rfl⟩:=qaH.1 (show r∈y.rows.map iL from hr);have:=((h.r.rows y hy).row r0 hr0).1;rw[zal]; simp only[zah]; omega
 have hnew:∀(row:List Nat),row.length=ns'[t].c->row.sum=g->LikeN g ns (ns'.set t (ztO ns'[t] w row)) R:=λrow k1 k2=>by
  obtain⟨q1,q2,q3⟩:=h.r.setRow (w:=w) htl k1 k2;refine⟨q1,q2.trans h.c,q3.trans h.ps,λu hu=>?_⟩;rw[<- h.same u hu,qag,qag,qaD (λe=>by rw[e,hu]at hRt; cases hRt)]
 have hnodes:∀ row:List Nat,(⟨(zbx g ns').grain,(zbx g ns').nodes.set t ⟨(nd ns'[t]).zaF,(nd ns'[t]).parents,(nd ns'[t]).rows.set w (iL row)⟩⟩:S_api_Net)=zbx g (ns'.set t (ztO ns'[t] w row)):=λrow=>by
  unfold zbx;simp only[];rw[qcD];congr 2
  unfold nd ztO;simp only[];rw[qcD]
 unfold zog;rw[if_pos hpre];unfold zC4;rw[hnl,<- ht,hget];simp only[];rw[show(nd ns'[t]).rows.length=ns'[t].rows.length from qak _,<- hw',hrget];simp only[];rcases hw with hw | hw
 .rw[hw,show(8:Int).toNat % 12=8 from rfl];have hne:(iL ns'[t].rows[w]).isEmpty=false:=by
   cases hq:ns'[t].rows[w]with
   | nil=>rw[hq]at r1; simp at r1; omega
   | cons a l=>rfl
  have hval:zv9 b (zbx g ns') (nd ns'[t]) t w (iL ns'[t].rows[w]) 8=some (bif (iL ns'[t].rows[w]).isEmpty then zbx g ns' else⟨(zbx g ns').grain,(zbx g ns').nodes.set t ⟨(nd ns'[t]).zaF,(nd ns'[t]).parents,(nd ns'[t]).rows.set w ((List.replicate (iL ns'[t].rows[w]).length 0).set 0 (zbx g ns').grain)⟩⟩):=rfl;have hrow:(List.replicate (iL ns'[t].rows[w]).length (0:Int)).set 0 (zbx g ns').grain=iL ((List.replicate ns'[t].c 0).set 0 g):=by
   rw[zal,r1];show(List.replicate ns'[t].c (0:Int)).set 0 (g:Int)=((List.replicate ns'[t].c 0).set 0 g).map _;rw[qcD,qcx];rfl
  rw[hval,hne,qdu,hrow,hnodes];refine⟨ns'.set t (ztO ns'[t] w ((List.replicate ns'[t].c 0).set 0 g)),rfl,hnew _ (by simp) ?_⟩;have:=zrX (r:=List.replicate ns'[t].c 0) (i:=0) (y:=g) (by simp; omega);rw[show(List.replicate ns'[t].c 0).getD 0 0=0 from by rw[qag,List.getElem?_replicate]; split<;>rfl]at this;simpa using this
 rw[hw,show(9:Int).toNat % 12=9 from rfl];unfold zv9;obtain⟨r',g1,g2,g3⟩:=zxh (ns'[t].c+2) 0 (ns'[t].c - 1) ns'[t].rows[w] (by omega) (by omega) (by omega);have hk:w64 (((iL ns'[t].rows[w]).length:Int) - 1)=((ns'[t].c - 1:Nat):Int):=by rw[zal,r1,zgh (by omega) (by omega)]; omega
 rw[hk,show(iL ns'[t].rows[w]).length+2=ns'[t].c+2 from by rw[zal,r1],show swL (ns'[t].c+2) 0 ((ns'[t].c - 1:Nat):Int) (iL ns'[t].rows[w])=some (iL r')from g1,qbe];exact⟨ns'.set t (ztO ns'[t] w r'),congrArg some (hnodes r'),hnew r' (g2.trans r1) (g3.trans r2)⟩
theorem zq8{g:Nat}{ns:List NN}{R:Nat}(hR:R<18446744073709551616)(hn1:1<=ns.length)(hn8:ns.length<=8){p2:A3_S_haruspexref05_Bend}{r4:S_api_Net}(h4:r4.nodes.length=ns.length){er:Int}(hb:∀ x∈[p2.a0,p2.a1,p2.a2],BendOk x):∀(n i:Nat) (ns':List NN),LikeN g ns ns' R->i<=3->3 - i<n ->
  ∃ ns2,zbm p2 r4 ((R:Int),er) n (i:Int) (g:Int) (ns'.map nd)=some ((g:Int),ns2.map nd)/\LikeN g ns ns2 R
 | 0,_,_,_,_,h=>absurd h (qam _)
 | n+1,i,ns',h,hi,hf=>by
  unfold zbm;by_cases hlt:i<3
  .obtain⟨x,hx,hxb⟩:=zwp (xs:=[p2.a0,p2.a1,p2.a2]) (i:=i) (P:=BendOk) (by simpa using hlt) hb;have ha:=hxb.at_;obtain⟨a,hat⟩:∃ a:Nat,x.at_=(a:Int):=⟨x.at_.toNat,by omega⟩;have hmod:=qa7 a (show 0<ns.length by omega);obtain⟨q24,s1,s2⟩:=zyN hR (v:=a % ns.length) (by omega);rw[show decide ((i:Int)<3)=true from qdv (by omega),qdt,hx,qaa,hat,zaC (by omega),h4,zgC (by omega),qaa];simp only[];rw[s1,qaa,s2];cases hbit:R.testBit (a % ns.length)with
   | true=>
    rw[show((((true:Bool).toNat:Nat):Int)== 0)=false from rfl,qdu,qaa];simp only[];rw[zai (by omega)];exact zq8 hR hn1 hn8 h4 hb n (i+1) ns' h hlt (by omega)
   | false=>
    have hwt:=hxb.what;obtain⟨y,hy⟩:∃ y:Nat,x.what=(y:Int):=⟨x.what.toNat,by omega⟩;have hw8:IntKind.u8.wrap (8+(x.what.tmod 2))=8\/IntKind.u8.wrap (8+(x.what.tmod 2))=9:=by
     rw[hy,show(2:Int)=((2:Nat):Int)from rfl,zsF];have:=qa7 y (show 0<2 by decide);rcases(show y % 2=0\/y % 2=1 by omega)with e | e<;>rw[e]
     .exact .inl rfl
     exact .inr rfl
    obtain⟨ns2,g1,g2⟩:=zyh h (b:=S_haruspexref05_Bend.mk (IntKind.u8.wrap (8+(x.what.tmod 2))) (a:Int) x.row x.n) hw8 ⟨by show 0<=(a:Int); omega,by show(a:Int)<=255; omega⟩ hxb.row (by rw[qax]; exact hbit);rw[show((((false:Bool).toNat:Nat):Int)== 0)=true from rfl,qdt,show(S_api_Net.mk (g:Int) (ns'.map nd))=zbx g ns' from rfl,g1,qaa,qaa];simp only[];rw[zai (by omega)];exact zq8 hR hn1 hn8 h4 hb n (i+1) ns2 g2 hlt (by omega)
  rw[show decide ((i:Int)<3)=false from qdw (by omega),qdu];exact⟨ns',rfl,h⟩
theorem zEn{xs:List S_api_Q}(hl:xs.length<=1000):∀(n i:Nat),i<=xs.length->xs.length - i<n->zfU xs xs n (i:Int)=some (.go ())
 | 0,_,_,h=>absurd h (qam _)
 | n+1,i,h1,h2=>by
  unfold zfU;rw[zaT];by_cases hi:i<xs.length
  .rw[qdv hi,qdt,zba hi,qaa,qaa,qdx,qdx,qbF,qdt,zai (by omega)];exact zEn hl n (i+1) hi (by omega)
  rw[qdw hi,qdu]
theorem zG0{xs:List S_api_Q}(hl:xs.length<=1000):zkS xs xs=some true:=by
 unfold zkS;rw[qdx,qdt,zaK,show zfU xs xs (xs.length+2) 0=some (.go ())from zEn hl (xs.length+2) 0 (qau _) (by omega),qaa]
variable{e:List Int}{xs:List Nat}
theorem zkx{N:Nat}(h:RightN g ns)(he:EvOk (ns.map (·.c)) e){v:Nat}(hv:v<ns.length)(ho:OrdOk ns.length v xs)(hxl:xs.length=ns.length - 1)(hN:200<=N):
  zbt N (zbx g ns) e (v:Int) (iL xs)=some (zjU ns e (List.range ns.length) xs v):=by
 obtain⟨m,R,m1,_,p1,_⟩:=zzT h he hv ho hxl hN;have hn8:=h.n2;have hnl:(zbx g ns).nodes.length=ns.length:=by simp[zbx]
 obtain⟨q1,q2⟩:=zxg h he hv ho hxl;unfold zbt;rw[q1,qaa];simp only[show((0:Int)== 0)=true from rfl,qdt];rw[q2,qaa,qdt,hnl,zx5 (by omega),qaa,m1,p1,qaa]
theorem zmc(h:RightN g ns)(he:EvOk (ns.map (·.c)) e){v K A R:Nat}(hv:v<ns.length)(ho:OrdOk ns.length v xs)(hxl:xs.length=ns.length - 1)(hRl:R<18446744073709551616)(ka:KaOk ns e K A)(hR:∀ j,R.testBit j=true↔knE e v=false/\j<ns.length/\∃ d,Tr (zkg (zan ns)) (zfz K) (zfz A) j d v)(ht:tE ns e (List.range ns.length) xs v≠0):zjU ns e (List.range ns.length) xs v=zjU ns e ((List.range ns.length).filter λu=>R.testBit u) xs v:=by
 obtain⟨m,m1,m2,m3⟩:=zsi h.n2;obtain⟨_,f1⟩:=zrw h he hv ho hxl (N:=200) (qap _) m1 (λ_=>zoA m3 hv);obtain⟨_,f2⟩:=zrw h he hv ho hxl (N:=200) (qap _) hRl (λhk=>(hR v).2 ⟨hk,hv,false,.start⟩);rw[m3]at f1;obtain⟨C,c1,c2⟩:=zmg h he hv ho hxl ka hR f1 f2;have hC:0<C:=Nat.pos_of_ne_zero λhc=>ht (by rw[c2,hc,qci])
 have ht2:tE ns e ((List.range ns.length).filter λu=>R.testBit u) xs v≠0:=λhc=>ht (by rw[c2,hc,qdh])
 unfold zjU;rw[qdy ht,qdy ht2,qdu,qdu];congr 1
 unfold qsE;refine qaT λx hx=>?_
 rw[c1 x (qaW.1 hx),c2,zBb hC]
theorem zti{dr:DraftN}{a:S_haruspexlaw09_Ask}{p2:A3_S_haruspexref05_Bend}(hd:DraftOk dr)(ha:AskOk a)(hb:∀ x∈[p2.a0,p2.a1,p2.a2],BendOk x):zcG 1100 (zdL dr) a p2=some true:=by
 obtain⟨num,ns,hok,_,e2⟩:=zy3 hd (N:=1100) (by decide);have h:=hok.right;obtain⟨v,e,xs,r11,_,hv,he,ho,hxl,a1,a2,a3,_⟩:=zC6 ha h;have hn8:=h.n2;have hn1:=h.n1;have hnl:(zbx (1+dr.grain % 60) ns).nodes.length=ns.length:=by simp[zbx]
 rw[show(⟨((1+dr.grain % 60:Nat):Int),ns.map nd⟩:S_api_Net)=zbx (1+dr.grain % 60) ns from rfl]at e2;obtain⟨K,A,R,ka,r1,r2,r3⟩:=zs5 h he hv (N:=1100) (by decide);have hN:zce 1100 (zbx (1+dr.grain % 60) ns) e (v:Int)=some ((R:Int),0):=by
  unfold zce;rw[zAG h he hv,qaa];simp only[show((0:Int)== 0)=true from rfl,qdt];rw[r1,qaa]
 obtain⟨ns2,l1,l2⟩:=zq8 (g:=1+dr.grain % 60) r2 hn1 hn8 (r4:=zbx (1+dr.grain % 60) ns) hnl (er:=0) hb 5 0 ns ⟨h,rfl,rfl,λ_ _=>rfl⟩ (by omega) (by omega);have hl2:=l2.len;have he2:EvOk (ns2.map (·.c)) e:=by rw[l2.c]; exact he
 have ho2:OrdOk ns2.length v xs:=by rw[hl2]; exact ho
 have hp1:=zkx h he hv ho hxl (N:=1100) (by decide);have hp2:=zkx l2.r he2 (by rw[hl2]; exact hv) ho2 (by rw[hl2]; exact hxl) (N:=1100) (by decide);have ka2:KaOk ns2 e K A:=⟨ka.kl,ka.al,λj=>by rw[hl2]; exact ka.k j,λi=>by rw[l2.ztx]; exact ka.a i⟩;have hR2:∀ j,R.testBit j=true↔knE e v=false/\j<ns2.length/\∃ d,Tr (zkg (zan ns2)) (zfz K) (zfz A) j d v:=λj=>by rw[hl2,l2.ztx]; exact r3 j
 have hfacs:zcM ns2 e ((List.range ns.length).filter λu=>R.testBit u)=zcM ns e ((List.range ns.length).filter λu=>R.testBit u):=by
  unfold zcM;refine qaT λu hu=>?_
  have hbit:=(qaA.1 hu).2;unfold zAR;rw[hl2,l2.c,l2.same u hbit]
 have hres:zjU ns2 e ((List.range ns.length).filter λu=>R.testBit u) xs v=zjU ns e ((List.range ns.length).filter λu=>R.testBit u) xs v:=by
  unfold zjU qsE tE wE zhg;rw[hfacs,l2.c]
 have hcode:∀(l:List NN) (L:List Nat),tE l e L xs v≠0->(zjU l e L xs v).2=0:=λl L ht=>by
  unfold zjU;rw[qdy ht];rfl
 have hcode0:∀(l:List NN) (L:List Nat),tE l e L xs v=0->(zjU l e L xs v).2=7:=λl L ht=>by
  unfold zjU;rw[ht];rfl
 have hchk:∀(l:List NN) (L:List Nat),((bif ((zjU l e L xs v).2 == 0)then some false else some (!((zjU l e L xs v).2 == 7)):Option Bool))=some false:=λl L=>by
  by_cases ht:tE l e L xs v=0
  .rw[hcode0 l L ht]; rfl
  rw[hcode l L ht]; rfl
 have hcc:(ns.map (·.c)).getD v 0=ns[v].c:=by rw[qag,qa6,qac hv]; rfl
 have hc4:=(h.zaF _ (qao hv)).2;unfold zcG;rw[zBo,qaa,qdt,e2,qaa,a2,qaa,hnl,a1,qaa,a3,qaa,hN,qaa,hp1,qaa];simp only[show((0:Int)== 0)=true from rfl,qdt];rw[hchk,qaa,qdu,show zbm p2 (zbx (1+dr.grain % 60) ns) ((R:Int),0) (3 - 0+2:Int).toNat 0 (zbx (1+dr.grain % 60) ns).grain (zbx (1+dr.grain % 60) ns).nodes=_ from l1,qaa];simp only[];rw[show(S_api_Net.mk ((1+dr.grain % 60:Nat):Int) (ns2.map nd))=zbx (1+dr.grain % 60) ns2 from rfl,hp2,qaa,hchk,qaa,qdu];by_cases ht1:tE ns e (List.range ns.length) xs v=0
 .rw[hcode0 _ _ ht1];rfl
 rw[hcode _ _ ht1];by_cases ht2:tE ns2 e (List.range ns2.length) xs v=0
 .rw[hcode0 _ _ ht2];rfl
 rw[hcode _ _ ht2];have q1:=zmc h he hv ho hxl r2 ka r3 ht1;have q2:=zmc l2.r he2 (by rw[hl2]; exact hv) ho2 (by rw[hl2]; exact hxl) r2 ka2 hR2 ht2;have hq:zjU ns2 e (List.range ns2.length) xs v=zjU ns e (List.range ns.length) xs v:=by
  rw[q2,q1,hl2,hres]
 have hfst:(zjU ns e (List.range ns.length) xs v).1=qsE ns e (List.range ns.length) xs v:=by
  unfold zjU;rw[qdy ht1];rfl
 have hql:(qsE ns e (List.range ns.length) xs v).length=ns[v].c:=by
  unfold qsE;rw[qak,qcQ,hcc]
 rw[hq,hfst];rw[show((0:Int)== 0)=true from rfl,qdt,qdt,show zaE (zbx (1+dr.grain % 60) ns).nodes (v:Int)=some (nd ns[v])from zcw hv,qaa,hql,show(nd ns[v]).zaF=((ns[v].c:Nat):Int)from rfl,qdx,qdt,zG0 (by omega),qaa,qaa]
end Go.Dc
namespace Go.Proofs.YtbjogdohfhdaiaaGreat.S
open Go Go.Mx Go.Lx Go.Dc Go.ChangeShapes Go.WideShapes Go.ChangeAt Go.RowKit
theorem zEC:∀ t∈[25,33,70],(zfa Tryz.prog 8 t).isSome=true:=by
 intro t ht;simp only[qav,qbC,qdC]at ht;rcases ht with rfl | rfl | rfl
 .rw[zA0]; rfl
 .rw[zu8]; rfl
 rw[zAQ]; rfl
theorem zF6:∀ t∈[25,33,70],Tryz.prog.readableRec t=true/\t<Tryz.prog.types.size:=by
 intro t ht;simp only[qav,qbC,qdC]at ht;rcases ht with rfl | rfl | rfl
 .exact⟨zDY,qbT (m:=252) (by decide) zxL⟩
 .exact⟨zB7,qbT (m:=252) (by decide) zxL⟩
 exact⟨zEl,qbT (m:=252) (by decide) zxL⟩
theorem ztW{H:Type}{enc:TypeId×Value->H}{w:World}{b0:Nat}{args:Array Value}{ds:List (DataW H)}{ps:List MemPlace}
  (hv:∀(j:Nat) t v,[25,33,70][j]? = some t->args[j]? = some v->Value.okWide Tryz.prog w .any b0 t v) (hd:DataW.TrodAll enc Tryz.prog w 0 (λ_=>true) true [25,33,70] args.toList ds ps):
  Calls Tryz.prog 7 args w λe w'=>e=.returned (.bool true)/\Below w.heap.size w w':=by
 refine zIy (g:=8) hv hd zEC λes hes=>?_
 obtain⟨x0,r,rfl,h0,hes⟩:=Dc.ShAs.inv hes;obtain⟨x1,r,rfl,h1,hes⟩:=Dc.ShAs.inv hes;obtain⟨x2,r,rfl,h2,hes⟩:=Dc.ShAs.inv hes;obtain rfl:=Dc.ShAs.none hes;obtain⟨a0,k0,rfl⟩:=zyX h0;obtain⟨a1,k1,rfl⟩:=zFk h1;obtain⟨a2,k2,rfl⟩:=zzk h2;exact zhn (zti k0 k1 k2)
theorem zq2(os:Os)(started:os.Started)(H:Type)(enc:TypeId×Value->H):
  ReturnsInHanded {} Tryz.checked os 7 .any (Rows.eliminateRowsSpec.pre6 enc Tryz.prog Tryz.f7 Rows.eliminateRowsRow.domain false) (Rows.eliminateRowsSpec.post enc Tryz.prog Tryz.f7 false true false false):=by
 refine returnsInHanded_of_change (C:=Tryz.checked) own started (by kernel_rfl) Tryz.func7
  (ChangeSpec.witness6 (enc:=enc) (C:=Tryz.checked) false ⟨#[],#[.agg #[.int .u8 0,.slice none 0 0,.slice none 0 0],.agg #[.int .u8 0,.int .u8 0,.int .u8 0,.int .u8 0,.int .u8 0,.int .u8 0,.int .u8 0,.int .u8 0,.int .u8 0,.int .i64 0,.int .u8 0,.int .u8 0,.int .u8 0,.int .u8 0,.int .u8 0,.int .u8 0,.int .u8 0,.int .u8 0,.slice none 0 0,.slice none 0 0],.agg #[.int .u8 0,.int .u8 0,.int .u8 0,.int .i64 0,.int .u8 0,.int .u8 0,.int .u8 0,.int .i64 0,.int .u8 0,.int .u8 0,.int .u8 0,.int .i64 0]],[]⟩ 8 (by kernel_rfl) (by kernel_rfl) (by kernel_rfl) (by kernel_rfl)) ?_
 intro W base args ds gs before hval0 hW hcnd _;have hval:∀(j:Nat) t v,Tryz.f7.params[j]? = some t->args[j]? = some v->Value.okWide Tryz.prog W .any base t v:=hval0;have hlt:∀ x∈before,x.block<W.heap.size:=λx hx=>hW.lt x hx
 have hW':=hW;obtain⟨p,q,hA0,hV,rfl,hfz,hnd⟩:=hW;have hA:DataW.TrodAll enc Tryz.prog W 0 (λ_=>true) true Tryz.f7.params.toList args.toList ds p:=hA0;rw[Tryz.params7]at hA hval;have hcalls:=ztW (λj t v h1 h2=>hval j t v (by simpa using h1) h2) hA;obtain⟨rfl,rfl⟩:=trodVars_none hV;have hA1:DataW.TrodAll enc Tryz.prog W 0 (λ_=>true) true [25,33,70] args.toList ds p:=hA;have hds:∃ d0 d1 d2:DataW H,ds=[d0,d1,d2]:=by
  obtain⟨_,_,d0,ds0,_,_,_,e0,_,_,r0⟩:=trodAll_cons hA1;obtain⟨_,_,d1,ds1,_,_,_,e1,_,_,r1⟩:=trodAll_cons r0;obtain⟨_,_,d2,ds2,_,_,_,e2,_,_,r2⟩:=trodAll_cons r1;obtain⟨_,e3,_⟩:=trodAll_nil r2;exact⟨d0,d1,d2,by rw[e0,e1,e2,e3]⟩
 obtain⟨d0,d1,d2,rfl⟩:=hds;clear hA0 hval0;simp only[qaP]at hW' hlt;refine hcalls.mono λe W' ⟨he,hb⟩=>?_
 subst he
 exact⟨_,rfl,_,_,_,[],_,[],hW',trodAll_mk1 (shut_bool Tryz.underlying4 true),
  (by rw[Tryz.params7]; exact zhY hb hA1 zF6 hlt),
  rfl,hb.frame _,λh=>by cases h⟩
theorem rows_said:Rows.EliminateRowsSaid:=
 OpenClaim.holds_of_wide 7 Tryz.f7 rfl rfl rfl rfl rfl rfl rfl ⟨rfl,rfl,rfl,rfl,rfl⟩ rfl rfl rfl rfl rfl zG8 Tryz.func7 zBh
  zHb (by unfold Func.isWrapper; first | (rw[if_pos (by decide +kernel)]; kernel_rfl)| (rw[if_neg (by decide +kernel)]; exact⟨rfl,rfl⟩))
  (λos started H enc _=>zq2 os started H enc)
end Go.Proofs.YtbjogdohfhdaiaaGreat.S
namespace Go.Proofs.YtbjogdohfhdaiaaGreat
theorem rows_said:Rows.EliminateRowsSaid:=S.rows_said
end Go.Proofs.YtbjogdohfhdaiaaGreat
