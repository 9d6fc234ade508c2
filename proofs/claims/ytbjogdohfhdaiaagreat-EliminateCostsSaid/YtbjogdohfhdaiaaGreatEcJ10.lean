/-
 Closing: what the laws of this seat have in common. Conditions: none.
-/
import Derived.Test.YtbjogdohfhdaiaaGreatEcWk5
import Derived.Test.YtbjogdohfhdaiaaGreatEcFct
import Derived.Test.YtbjogdohfhdaiaaGreatEcJ7
import Derived.Test.YtbjogdohfhdaiaaGreatEcDm
import Derived.Test.YtbjogdohfhdaiaaGreatEcJ8
set_option linter.unusedSimpArgs false
set_option linter.unusedVariables false
set_option maxRecDepth 100000
namespace Go.Proofs.YtbjogdohfhdaiaaGreat.S
open Go Go.Mx Go.Lx Go.Dc Go.ChangeShapes Go.WideShapes Go.ChangeAt Go.RowKit
theorem own:ownKnob Tryz.prog.godebug=none:=by kernel_rfl
theorem laidOut:laidOutB Tryz.prog=true:=zAK
theorem zA1:zht Tryz.prog Dc.zDX:=by
 intro B f args h cr h' ho;unfold Dc.zDX at ho;cases args with
 | cons a r=>exact ziL _ _ _ _ _ _ ho
 | nil=>
  simp only at ho;cases hf:Nat.beq f 10 with
  | false=>rw[hf]at ho; cases ho
  | true=>
   rw[hf]at ho;have:=qaE hf;subst this;cases ho;exact zp1 (by kernel_rfl) W.zq0 B h
theorem zEd:∀ f fn,mC.fns f=some fn->zne Tryz.prog f fn:=by
 intro f fn h;have hp:=zBO (P:=Tryz.prog) (f:=f) h;have he:({ fn with p:=false }:Mx.Fn)=fn:=by
  cases fn;simp only at hp;subst hp;rfl
 unfold zne;rw[he];exact h
theorem zIA{H:Type}{enc:TypeId×Value->H}{w:World}{f g b0:Nat}{ts:List TypeId}{args:Array Value}{ds:List (DataW H)}{ps:List MemPlace}
  (hv:∀(j:Nat) t v,ts[j]? = some t->args[j]? = some v->Value.okWide Tryz.prog w .any b0 t v) (hd:DataW.TrodAll enc Tryz.prog w 0 (λ_=>true) true ts args.toList ds ps) (hf:∀ t∈ts,(zfj Tryz.prog g t).isSome=true)
  (hF:∀ es,ShAs Tryz.prog g ts es->Lx.Fn mC f es (.lit (.bool true))):Calls Tryz.prog f args w λe w'=>e=.returned (.bool true)/\Below w.heap.size w w':=
 zvf W.mixed zEd zA1 hv hd hf hF
theorem zhK{n:Int}(h:okI .u8 n):0<=n/\n<=255:=by
 simpa [okI,Lit.wf,IntKind.has,IntKind.min,IntKind.max,IntKind.signed,IntKind.bits]using h
theorem zw7{xs:List Int}(h:okL (okI .u8) xs):∃ ns:List Nat,(∀ x∈ns,x<=255)/\xs=iL ns:=by
 obtain⟨ns,h1,h2⟩:=Dc.zq6 (l:=xs) (f:=λn:Nat=>(n:Int)) (T:=λn=>n<=255) λy hy=>by
  have:=zhK (h.2 y hy);exact⟨y.toNat,by omega,by omega⟩
 exact⟨ns,h1,h2⟩
theorem zvM:Dec zaN [.int .u8,.int .u8,.sl [.int .u8]] (λx=>okI .u8 x.zaF/\okI .u8 x.parents/\okL (okI .u8) x.w):=
 Dec.iso (Dec.pair (Dec.int .u8) (Dec.pair (Dec.int .u8) (Dec.list (Dec.int .u8)))) (λx:S_haruspexref05_Piece=>(x.zaF,x.parents,x.w)) (λa=>⟨a.1,a.2.1,a.2.2⟩) (λ_=>rfl)
theorem zuV:Dec zeg [.int .u8,.sl [.int .u8,.int .u8,.sl [.int .u8]],.sl [.int .u8]]
  (λx=>okI .u8 x.grain/\okL (λx=>okI .u8 x.zaF/\okI .u8 x.parents/\okL (okI .u8) x.w) x.nodes/\okL (okI .u8) x.order):=
 Dec.iso (Dec.pair (Dec.int .u8) (Dec.pair (Dec.list zvM) (Dec.list (Dec.int .u8)))) (λx:S_haruspexref05_Draft=>(x.grain,x.nodes,x.order)) (λa=>⟨a.1,a.2.1,a.2.2⟩) (λ_=>rfl)
theorem zyq{x:S_haruspexref05_Draft}(h:okI .u8 x.grain/\okL (λx=>okI .u8 x.zaF/\okI .u8 x.parents/\okL (okI .u8) x.w) x.nodes/\okL (okI .u8) x.order):∃ d:DraftN,DraftOk d/\x=zc0 d:=by
 obtain⟨grain,nodes,order⟩:=x;obtain⟨h1,h2,h3⟩:=h;have hg:=zhK h1;obtain⟨os,o1,o2⟩:=zw7 h3;obtain⟨ps,p1,p2⟩:=Dc.zq6 (l:=nodes) (f:=zr0) (T:=λn=>n.zaF<=255) λy hy=>by
  obtain⟨g1,g2,g3⟩:=h2.2 y hy;have k1:=zhK g1;have k2:=zhK g2;obtain⟨ws,w1,w2⟩:=zw7 g3;refine⟨⟨y.zaF.toNat,y.parents.toNat,ws⟩,by simp only; omega,?_⟩;obtain⟨a,b,c⟩:=y;simp only at k1 k2 w2;subst w2;simp only[zr0,qck k1.1,qck k2.1]
 refine⟨⟨grain.toNat,ps,os⟩,⟨by simp only at hg ⊢; omega,p1,o1⟩,?_⟩;simp only at o2 p2 hg;subst o2 p2;simp only[zc0,qck hg.1]
theorem zzQ:zfj Tryz.prog 8 25=some [.int .u8,.sl [.int .u8,.int .u8,.sl [.int .u8]],.sl [.int .u8]]:=by kernel_rfl
theorem zFK:zuu Tryz.prog 25=true:=by kernel_rfl
theorem zEr:Tryz.prog.readableRec 25=true:=by kernel_rfl
theorem zyj{d:D}(h:ShA Tryz.prog 8 25 d):∃ dr:DraftN,DraftOk dr/\d=.agg (zeg.c false (zc0 dr)):=by
 obtain⟨x,h1,h2⟩:=zuV.agg zFK zzQ h;obtain⟨dr,h3,rfl⟩:=zyq h1;exact⟨dr,h3,h2⟩
theorem zim{H:Type}{enc:TypeId×Value->H}{W W':World}(hb:Below W.heap.size W W'):∀ {ts:List TypeId} {vs:List Value} {ds:List (DataW H)} {ps:List MemPlace},
  DataW.TrodAll enc Tryz.prog W 0 (λ_=>true) true ts vs ds ps->(∀ t∈ts,Tryz.prog.readableRec t=true/\t<Tryz.prog.types.size)->(∀ x∈ps,x.block<W.heap.size)->
  DataW.TrodAll enc Tryz.prog W' 0 (λb=>decide (b<W.heap.size)) true ts vs ds ps
 | [],vs,ds,ps,h,_,_=>by
  obtain⟨rfl,rfl,rfl⟩:=trodAll_nil h;exact trodAll_mk0
 | t :: ts,vs,ds,ps,h,ht,hlt=>by
  obtain⟨v,vs',d,ds',p,q,rfl,rfl,rfl,h1,h2⟩:=trodAll_cons h;obtain⟨r1,r2⟩:=ht t qai;exact⟨p,q,Below.trod laidOut r1 r2 h1 hb (λx hx=>hlt x (qcB _ hx)),zim hb h2 (λt h=>ht t (qag _ h)) (λx hx=>hlt x (qdh _ hx)),rfl⟩
theorem zxT:Dec zex [.int .u8,.int .u8,.int .u8,.int .i64] (λx=>okI .u8 x.what/\okI .u8 x.at_/\okI .u8 x.row/\okI .i64 x.n):=
 Dec.iso (Dec.pair (Dec.int .u8) (Dec.pair (Dec.int .u8) (Dec.pair (Dec.int .u8) (Dec.int .i64)))) (λx:S_haruspexref05_Bend=>(x.what,x.at_,x.row,x.n)) (λa=>⟨a.1,a.2.1,a.2.2.1,a.2.2.2⟩) (λ_=>rfl)
theorem zAa:zfj Tryz.prog 8 27=some [.int .u8,.int .u8,.int .u8,.int .i64]:=by kernel_rfl
theorem zFV:zuu Tryz.prog 27=true:=by kernel_rfl
theorem zCM{d:D}(h:ShA Tryz.prog 8 27 d):∃ x:S_haruspexref05_Bend,((0<=x.what/\x.what<=255)/\(0<=x.at_/\x.at_<=255)/\(0<=x.row/\x.row<=255))/\d=.agg (zex.c false x):=by
 obtain⟨x,⟨h1,h2,h3,_⟩,h4⟩:=zxT.agg zFV zAa h;exact⟨x,⟨zhK h1,zhK h2,zhK h3⟩,h4⟩
theorem zDQ:Tryz.prog.readableRec 27=true:=by kernel_rfl
theorem zu2:(252:Nat)<Tryz.prog.types.size:=of_decide_eq_true (by kernel_rfl)
end Go.Proofs.YtbjogdohfhdaiaaGreat.S
namespace Go.Dc
open Go Go.Mx Go.Lx
structure AskOk (a:S_haruspexlaw09_Ask):Prop where
 k:KnOk a.known
 l:∀ x∈[a.l.a0,a.l.a1,a.l.a2,a.l.a3,a.l.a4,a.l.a5,a.l.a6,a.l.a7],0<=x/\x<=255
theorem zqE{α:Type}{xs:List α}{i:Nat}{P:α->Prop}(h:i<xs.length)(hp:∀ x∈xs,P x):∃ x,zaE xs (i:Int)=some x/\P x:=⟨xs[i],zaA h,hp _ (qam h)⟩
theorem zmG{m v:Nat}{l:A8_Intu8}(hl:∀ x∈[l.a0,l.a1,l.a2,l.a3,l.a4,l.a5,l.a6,l.a7],0<=x/\x<=255)(hm:m<=8):∀(n i:Nat) (xs:List Nat),OrdOk i v xs->(xs.length+if v<i then 1 else 0)=i->i<=m->m - i<n ->
  ∃ zs:List Nat,zcG (m:Int) (v:Int) l n (iL xs) (i:Int)=some (iL zs)/\OrdOk m v zs/\(zs.length+if v<m then 1 else 0)=m
 | 0,_,_,_,_,_,h=>absurd h (qaj _)
 | n+1,i,xs,ho,hx,hi,hf=>by
  unfold zcG;rw[zaz];by_cases hlt:i<m
  .rw[qdv hlt,qdt];by_cases hv:i=v
   .subst hv;rw[qdz,qdt,qaa,zaf (by omega)]
    exact zmG hl hm n (i+1) xs ⟨ho.nod,λx h=>qcg (ho.lt x h),ho.ne⟩ (by
     rw[if_neg (qcc _)]at hx;rw[if_pos (qbt _)]
     omega) hlt (by omega)
   have hxl:xs.length<=i:=by omega
   obtain⟨x3,e3,b3⟩:=zqE (xs:=[l.a0,l.a1,l.a2,l.a3,l.a4,l.a5,l.a6,l.a7]) (i:=i) (P:=λx=>0<=x/\x<=255) (by simp; omega) hl;obtain⟨y,rfl⟩:∃ y:Nat,x3=(y:Int):=⟨x3.toNat,by omega⟩;obtain⟨q,hq⟩:∃ q,y % (xs.length+1)=q:=⟨_,rfl⟩;have hql:q<=xs.length:=by have:=qbk y (Nat.succ_pos xs.length); rw[show xs.length.succ=xs.length+1 from rfl,hq]at this; omega
   have hp:List.Perm (xs.take q ++ i :: xs.drop q) (i :: xs):=by
    refine List.perm_middle.trans ?_;rw[qb3]
   have hy255:y<=255:=by omega
   obtain⟨zs,g1,g2,g3⟩:=zmG hl hm n (i+1) (xs.take q ++ i :: xs.drop q) ⟨hp.nodup_iff.2 (qbb.2 ⟨λh=>qcc _ (ho.lt _ h),ho.nod⟩),
    λx h=>by
     rcases qav.1 (hp.mem_iff.1 h)with rfl | h
     .exact qbt _
     exact qcg (ho.lt _ h),
    λx h=>by
     rcases qav.1 (hp.mem_iff.1 h)with rfl | h
     .exact hv
     exact ho.ne _ h⟩ (by
    rw[hp.length_eq,qaC];by_cases hvi:v<i
    .rw[if_pos hvi]at hx; rw[if_pos (by omega)]; omega
    rw[if_neg hvi]at hx; rw[if_neg (by omega)]; omega) hlt (by omega)
   refine⟨zs,?_,g2,g3⟩
   rw[show((i:Int)==(v:Int))=false from by rw[qdy]; omega,qdu,show((i:Int)).tmod 8=(i:Int)from by
     rw[show(8:Int)=((8:Nat):Int)from rfl,zzj,qa7 (by omega)],e3,qaa,zai,zar (by omega),zaf (by omega),zkS (by omega),qaa,hq,
    show(0:Int)=((0:Nat):Int)from rfl,zin (qar _) (by rw[zai]; omega),qaa,zg2 (by simp[zai]; omega),qaa,
    zb8 (by simp[zai]; omega),qaa,zin hql (by rw[zai]; exact qap _),qaa,zb8 (by simp[zai]; omega),qaa,qaa,zaf (by omega),<- g1]
   congr 1
   simp[iL,qaM]
  have hie:i=m:=by omega
  subst hie;rw[qdw hlt,qdu];exact⟨xs,rfl,ho,hx⟩
theorem zya{m v:Nat}{l:A8_Intu8}(hl:∀ x∈[l.a0,l.a1,l.a2,l.a3,l.a4,l.a5,l.a6,l.a7],0<=x/\x<=255)(hm:m<=8)(hv:v<m):
  ∃ zs:List Nat,zdO (m:Int) (v:Int) l=some (iL zs)/\OrdOk m v zs/\zs.length=m - 1:=by
 obtain⟨zs,g1,g2,g3⟩:=zmG (v:=v) hl hm (m+2) 0 [] ⟨.nil,(λ_ h=>nomatch h),(λ_ h=>nomatch h)⟩ rfl (qar _) (by omega);rw[if_pos hv]at g3;refine⟨zs,?_,g2,by omega⟩;unfold zdO;rw[zap,show zcG (m:Int) (v:Int) l (m+2) [] 0=some (iL zs)from g1,qaa]
theorem zxf(x:Int):∃ n:Nat,IntKind.u64.wrap x=(n:Int):=by
 have h:0<=IntKind.u64.wrap x:=by
  simp only[IntKind.wrap,IntKind.bits,IntKind.signed];simp;omega
 exact⟨(IntKind.u64.wrap x).toNat,by omega⟩
variable{a:S_haruspexlaw09_Ask}
theorem zEW{m:Nat}(h1:1<=m)(hm:m<=8):∃ v:Nat,v<m/\zcR a (m:Int)=some (v:Int):=by
 obtain⟨n,hn⟩:=zxf a.v;have hlt:=qbk n (show 0<m by omega);refine⟨n % m,hlt,?_⟩;unfold zcR;rw[hn,show zhs (m:Int) 1=(m:Int)from by unfold zhs; split<;>omega,zbH (by omega),zkS (by omega),qaa,zar (by omega)]
theorem zBQ(ha:AskOk a){g:Nat}{ns:List NN}(h:RightN g ns):
  ∃(v:Nat) (e:List Int) (xs:List Nat) (r:A4_S_haruspexlaw09_Ask),zc5 a (zbZ g ns)=some r/\v<ns.length/\EvOk (ns.map (·.c)) e/\OrdOk ns.length v xs/\xs.length=ns.length - 1 /\
   zcR a (ns.length:Int)=some (v:Int)/\zcT a.known (zbZ g ns)=some e/\zdO (ns.length:Int) (v:Int) a.l=some (iL xs)/\
   ∀ x∈[r.a0,r.a1,r.a2,r.a3],x.order.length<=10:=by
 have hn8:=h.n2;have hn1:=h.n1;have hnl:(zbZ g ns).nodes.length=ns.length:=by simp[zbZ]
 obtain⟨v,v1,v2⟩:=zEW (a:=a) hn1 hn8;obtain⟨e,e1,e2⟩:=zx1 (g:=g) ha.k hn8 λx hx=>(h.zaF x hx).1
 obtain⟨xs,x1,x2,x3⟩:=zya (l:=a.l) ha.l hn8 v1;obtain⟨y5,y51,y52,_⟩:=zoj (xs:=a.e) (k:=10);obtain⟨y7,y71,y72,_⟩:=zoj (xs:=a.order) (k:=10);rw[show((10:Nat):Int)=10 from rfl]at y51 y71;have hxl:(iL xs).length<=10:=by rw[zai]; omega
 refine⟨v,e,xs,_,by unfold zc5; rw[e1,qaa,hnl,v2,qaa,y51,qaa,y71,qaa,x1,qaa],v1,e2,x2,x3,v2,e1,x1,λx hx=>?_⟩;simp only[qav,qbC,qdB]at hx;rcases hx with rfl | rfl | rfl | rfl
 .exact hxl
 .exact hxl
 .exact hxl
 exact y72
variable{b:S_haruspexref05_Bend}
theorem zA6{N:Nat}{dr:DraftN}(hN:1025<=N)(hd:DraftOk dr)(hb:BendOk b):
  ∃(g:Nat) (ns:List NN) (r:A2_S_api_Net),RightN g ns/\zb2 N (zc0 dr)=some (zbZ g ns)/\zfR N (zc0 dr) b=some r/\Bnd r.a0/\Bnd r.a1:=by
 obtain⟨num,ns,h,_,e2⟩:=zy5 hd hN;have h2:=h.bnd;obtain⟨y,e3,h3⟩:=zte hb.what hb.at_ hb.row h2;refine⟨_,ns,⟨zbZ (1+dr.grain % 60) ns,y⟩,h.right,e2,?_,h2.mono (by omega),h3.mono (by omega)⟩;unfold zfR;rw[e2,qaa];rw[show(⟨((1+dr.grain % 60:Nat):Int),ns.map nd⟩:S_api_Net)=zbZ (1+dr.grain % 60) ns from rfl,e3,qaa]
theorem zwx{d:S_api_Net}(hb:Bnd d)(e:List Int)(v:Int){order:List Int}(hol:order.length<4611686018427387904):
  (∃ err:Int,err≠0/\zbk d e v order=some (0,0,err)/\zcc d e v order=some err)\/
  (∃ a b:Int,zbk d e v order=some (a,b,0)/\zcc d e v order=some 0/\zfN d e v order=some (a,b)):=by
 rcases zDl hb e v hol with⟨err,h1,h2,h3⟩| ⟨g,ns,v',b,rfl,hr,rfl,hv,he,h1,h2,h3,h4⟩
 .refine .inl ⟨err,h1,?_,h3⟩;unfold zbk;rw[h2,qaa];simp only[qdA h1,qdu]
 cases b with
 | false=>
  refine .inl ⟨2,by decide,?_,h3⟩;unfold zbk;rw[h1,qaa];simp only[show((0:Int)== 0)=true from rfl,qdt];rw[h2,qaa,qdu]
 | true=>
  obtain⟨xs,rfl,ho,hxl⟩:=h4 rfl;have hn8:=hr.n2;have hn1:=hr.n1;have hx8:xs.length<=8:=by omega
  refine .inr ⟨_,_,zCl hr he ho hx8 h1 h2,h3,?_⟩;unfold zfN;obtain⟨K,k1,k2,k3⟩:=zCh he (by simpa using hn8) (ns.length+2) 0 0 (qar _) (by rw[qak]; omega) (by decide) (λj=>by simp);have hel:e.length=ns.length:=by rw[he.len,qak]
  have hml:(zau ns).length=ns.length:=by simp[zau]
  rw[hel,zap,show zdL e (ns.length+2) 0 0=some (K:Int)from k1,qaa,hr.zGx,qaa,zai,hml,zap,
   show zdM (iL (zau ns)) (K:Int) (ns.length+2) 0 []=some (iL (zgi (zd3 ns e (List.range ns.length))))from zDs hr k2 (λj=>by rw[k3,qak]) (ns.length+2) 0 (qar _) (by omega),qaa,zai,zap]
  have hfl:(zd3 ns e (List.range ns.length)).length=ns.length:=by unfold zd3; rw[qak,qdc]
  have:=zB1 hr c8 (kn:=knE e) ho.lt hx8 (xs.length+2) 0 (zd3 ns e (List.range ns.length)) [] 0 0 (zkw hr (λv hv=>qbd.1 hv) (by simpa using hn8)) ho.nod (λ_ _ hm=>nomatch hm) (λy hy=>by
   cases hoc:occ (zd3 ns e (List.range ns.length)) y with
   | false=>rfl
   | true=>
    obtain⟨p,hp,hyp⟩:=zmO.1 hoc;obtain⟨a,ha,rfl⟩:=qaB.1 hp;have hyn:=(zra hr (qbd.1 ha)).var y hyp;rw[qak]at hyn
    exact absurd ⟨hyn,hy⟩ ((zrx hr).1 hyp).2) (by omega) (by omega) (qar _) (by omega) (by omega)
  rw[show zdm (iL xs) (zbZ g ns) (xs.length+2) (iL (zgi (zd3 ns e (List.range ns.length)))) 0 0 0=_ from this,qaa];rfl
theorem zr9{r11:A4_S_haruspexlaw09_Ask}{d:S_api_Net}(hb:Bnd d)(hr:∀ x∈[r11.a0,r11.a1,r11.a2,r11.a3],x.order.length<=10):∀(n i:Nat),i<=4->4 - i<n->za5 r11 d n (i:Int)=some (.go ())
 | 0,_,_,h=>absurd h (qaj _)
 | n+1,i,h1,h2=>by
  unfold za5;by_cases hi:i<4
  .obtain⟨x,hx,hxl⟩:=zqE (xs:=[r11.a0,r11.a1,r11.a2,r11.a3]) (i:=i) (P:=λx=>x.order.length<=10) (by simpa using hi) hr;have ih:=zr9 hb hr n (i+1) hi (by omega);rw[show decide ((i:Int)<4)=true from qdv (by omega),qdt,hx,qaa,zaf (by omega),ih];rcases zwx hb x.e x.v (order:=x.order) (by omega)with⟨err,h3,h4,h5⟩| ⟨a,b,h3,h4,h5⟩
   .simp only[h4,h5,qaa,qdz,qdt,qdA h3,qdu,qbl]
   simp only[h3,h4,h5,qaa,qdz,qdt,qdu,qbl]
  rw[show decide ((i:Int)<4)=false from qdw (by omega),qdu]
theorem zpO{dr:DraftN}(hd:DraftOk dr)(hb:BendOk b)(ha:AskOk a):zcn 1100 (zc0 dr) b a=some true:=by
 obtain⟨g,ns,r,hr,e1,e2,b0,b1⟩:=zA6 (N:=1100) (by decide) hd hb;obtain⟨v,e,xs,r11,a1,_,_,_,_,_,_,_,a2⟩:=zBQ ha hr;unfold zcn;rw[zCs,qaa,qdt,e2,qaa];have hl:∀(n i:Nat),i<=2->2 - i<n->za6 1100 r (zc0 dr) a n (i:Int)=some (.go ()):=by
  intro n;induction n with
  | zero=>exact λi _ h=>absurd h (qaj _)
  | succ n ih=>
   intro i h1 h2;unfold za6;by_cases hi:i<2
   .obtain⟨x,hx,hxb⟩:=zqE (xs:=[r.a0,r.a1]) (i:=i) (P:=Bnd) (by simpa using hi) (λx hx=>by
     simp only[qav,qbC,qdB]at hx;rcases hx with rfl | rfl
     .exact b0
     exact b1)
    rw[show decide ((i:Int)<2)=true from qdv (by omega),qdt,hx,qaa,e1,qaa,a1,qaa,zaf (by omega),
     show za5 r11 x (4 - 0+2:Int).toNat 0=some (.go ())from zr9 hxb a2 6 0 (by omega) (by omega),qaa]
    exact ih (i+1) hi (by omega)
   rw[show decide ((i:Int)<2)=false from qdw (by omega),qdu]
 rw[show za6 1100 r (zc0 dr) a (2 - 0+2:Int).toNat 0=some (.go ())from hl 4 0 (by omega) (by omega),qaa]
end Go.Dc
namespace Go.Proofs.YtbjogdohfhdaiaaGreat.S
open Go Go.Mx Go.Lx Go.Dc Go.ChangeShapes Go.WideShapes Go.ChangeAt Go.RowKit
theorem zzU:Dec zke [.int .u8,.int .u8,.int .u8,.int .u8,.int .u8,.int .u8,.int .u8,.int .u8] (λx=>okI .u8 x.a0/\okI .u8 x.a1/\okI .u8 x.a2/\okI .u8 x.a3/\okI .u8 x.a4/\okI .u8 x.a5/\okI .u8 x.a6/\okI .u8 x.a7):=
 Dec.iso (Dec.pair (Dec.int .u8) (Dec.pair (Dec.int .u8) (Dec.pair (Dec.int .u8) (Dec.pair (Dec.int .u8) (Dec.pair (Dec.int .u8) (Dec.pair (Dec.int .u8) (Dec.pair (Dec.int .u8) (Dec.int .u8))))))))
  (λx:A8_Intu8=>(x.a0,x.a1,x.a2,x.a3,x.a4,x.a5,x.a6,x.a7)) (λa=>⟨a.1,a.2.1,a.2.2.1,a.2.2.2.1,a.2.2.2.2.1,a.2.2.2.2.2.1,a.2.2.2.2.2.2.1,a.2.2.2.2.2.2.2⟩) (λ_=>rfl)
theorem zxA:Dec zee [.int .u8,.int .u8,.int .u8,.int .u8,.int .u8,.int .u8,.int .u8,.int .u8,.int .u8]
  (λx=>okI .u8 x.which/\okI .u8 x.v.a0/\okI .u8 x.v.a1/\okI .u8 x.v.a2/\okI .u8 x.v.a3/\okI .u8 x.v.a4/\okI .u8 x.v.a5/\okI .u8 x.v.a6/\okI .u8 x.v.a7):=
 Dec.iso (Dec.pair (Dec.int .u8) zzU) (λx:S_haruspexref05_Known=>(x.which,x.v)) (λa=>⟨a.1,a.2⟩) (λ_=>rfl)
theorem zCN:Dec zcp [.int .u8,.int .u8,.int .u8,.int .u8,.int .u8,.int .u8,.int .u8,.int .u8,.int .u8,.int .i64,.int .u8,.int .u8,.int .u8,.int .u8,.int .u8,.int .u8,.int .u8,.int .u8,.sl [.int .i64],.sl [.int .i64]]
  (λx=>(okI .u8 x.known.which/\okI .u8 x.known.v.a0/\okI .u8 x.known.v.a1/\okI .u8 x.known.v.a2/\okI .u8 x.known.v.a3/\okI .u8 x.known.v.a4/\okI .u8 x.known.v.a5/\okI .u8 x.known.v.a6/\okI .u8 x.known.v.a7)/\okI .i64 x.v /\
   (okI .u8 x.l.a0/\okI .u8 x.l.a1/\okI .u8 x.l.a2/\okI .u8 x.l.a3/\okI .u8 x.l.a4/\okI .u8 x.l.a5/\okI .u8 x.l.a6/\okI .u8 x.l.a7)/\okL (okI .i64) x.e/\okL (okI .i64) x.order):=
 Dec.iso (Dec.pair zxA (Dec.pair (Dec.int .i64) (Dec.pair zzU (Dec.pair (Dec.list (Dec.int .i64)) (Dec.list (Dec.int .i64))))))
  (λx:S_haruspexlaw09_Ask=>(x.known,x.v,x.l,x.e,x.order)) (λa=>⟨a.1,a.2.1,a.2.2.1,a.2.2.2.1,a.2.2.2.2⟩) (λ_=>rfl)
theorem zxr:zfj Tryz.prog 8 33=some [.int .u8,.int .u8,.int .u8,.int .u8,.int .u8,.int .u8,.int .u8,.int .u8,.int .u8,.int .i64,.int .u8,.int .u8,.int .u8,.int .u8,.int .u8,.int .u8,.int .u8,.int .u8,.sl [.int .i64],.sl [.int .i64]]:=by kernel_rfl
theorem zDz:zuu Tryz.prog 33=true:=by kernel_rfl
theorem zB0:Tryz.prog.readableRec 33=true:=by kernel_rfl
theorem zEa{d:D}(h:ShA Tryz.prog 8 33 d):∃ x:S_haruspexlaw09_Ask,AskOk x/\d=.agg (zcp.c false x):=by
 obtain⟨x,⟨⟨_,k0,k1,k2,k3,k4,k5,k6,k7⟩,_,⟨l0,l1,l2,l3,l4,l5,l6,l7⟩,_⟩,h2⟩:=zCN.agg zDz zxr h;refine⟨x,⟨⟨λy hy=>?_⟩,λy hy=>?_⟩,h2⟩
 .simp only[qav,qbC,qdB]at hy;rcases hy with rfl | rfl | rfl | rfl | rfl | rfl | rfl | rfl<;>exact zhK (by assumption)
 simp only[qav,qbC,qdB]at hy;rcases hy with rfl | rfl | rfl | rfl | rfl | rfl | rfl | rfl<;>exact zhK (by assumption)
end Go.Proofs.YtbjogdohfhdaiaaGreat.S
namespace Go.Proofs.YtbjogdohfhdaiaaGreat
open Go.ChangeShapes Go.WideShapes Go.ChangeAt Go.RowKit
theorem zto:(Rows.eliminateCostsRow.inPlace == Tryz.pinned.checked.prog.inPlace 4)=true:=by kernel_rfl
theorem zEO:(Rows.eliminateCostsRow.unfollowed == Tryz.pinned.checked.prog.unfollowed 4)=true:=by kernel_rfl
theorem zEu:(Rows.eliminateCostsRow.recurses == Tryz.pinned.checked.prog.recurses 4)=true:=by kernel_rfl
theorem zyV:(Rows.eliminateCostsRow.named == Tryz.pinned.checked.prog.varsNamed 4)=true:=by kernel_rfl
theorem zAP:joinedFacts Tryz.pinned.checked.prog 4 Tryz.f4 Rows.eliminateCostsSpec Rows.eliminateCostsRow=true:=by
 unfold joinedFacts;rw[zAK,zDi,zB4,zCu,zD5,zto,zEO,zEu,zyV,zBD,zCD,show(Rows.eliminateCostsRow.lifted == Tryz.pinned.checked.prog.liftsFinal)=true from zEV,show(Tryz.pinned.checked.prog.make == some Rows.eliminateCostsRow.make)=true from zD2]
 kernel_rfl
theorem zGD:Tryz.pinned.checked.prog.funcNamed Rows.eliminateCostsRow.func=some 4:=by kernel_rfl
theorem zGM:Tryz.f4.isInstance Tryz.pinned.checked.prog Rows.eliminateCostsRow.origin Rows.eliminateCostsRow.targs:=of_decide_eq_true (by kernel_rfl)
end Go.Proofs.YtbjogdohfhdaiaaGreat
namespace Go.Proofs.YtbjogdohfhdaiaaGreat.S
open Go Go.Mx Go.Lx Go.Dc Go.ChangeShapes Go.WideShapes Go.ChangeAt Go.RowKit
theorem zDj:∀ t∈[25,27,33],(zfj Tryz.prog 8 t).isSome=true:=by
 intro t ht;simp only[qav,qbC,qdB]at ht;rcases ht with rfl | rfl | rfl
 .rw[zzQ]; rfl
 .rw[zAa]; rfl
 rw[zxr]; rfl
theorem zEq:∀ t∈[25,27,33],Tryz.prog.readableRec t=true/\t<Tryz.prog.types.size:=by
 intro t ht;simp only[qav,qbC,qdB]at ht;rcases ht with rfl | rfl | rfl
 .exact⟨zEr,qb8 (m:=252) (by decide) zu2⟩
 .exact⟨zDQ,qb8 (m:=252) (by decide) zu2⟩
 exact⟨zB0,qb8 (m:=252) (by decide) zu2⟩
theorem zql{H:Type}{enc:TypeId×Value->H}{w:World}{b0:Nat}{args:Array Value}{ds:List (DataW H)}{ps:List MemPlace}
  (hv:∀(j:Nat) t v,[25,27,33][j]? = some t->args[j]? = some v->Value.okWide Tryz.prog w .any b0 t v) (hd:DataW.TrodAll enc Tryz.prog w 0 (λ_=>true) true [25,27,33] args.toList ds ps):
  Calls Tryz.prog 4 args w λe w'=>e=.returned (.bool true)/\Below w.heap.size w w':=by
 refine zIA (g:=8) hv hd zDj λes hes=>?_
 obtain⟨x0,r,rfl,h0,hes⟩:=Dc.ShAs.inv hes;obtain⟨x1,r,rfl,h1,hes⟩:=Dc.ShAs.inv hes;obtain⟨x2,r,rfl,h2,hes⟩:=Dc.ShAs.inv hes;obtain rfl:=Dc.ShAs.none hes;obtain⟨a0,k0,rfl⟩:=zyj h0;obtain⟨a1,⟨b11,b12,b13⟩,rfl⟩:=zCM h1;obtain⟨a2,k2,rfl⟩:=zEa h2;exact zgy (zpO k0 ⟨b11,b12,b13⟩ k2)
theorem zn9(os:Os)(started:os.Started)(H:Type)(enc:TypeId×Value->H):
  ReturnsInHanded {} Tryz.checked os 4 .any (Rows.eliminateCostsSpec.pre6 enc Tryz.prog Tryz.f4 Rows.eliminateCostsRow.domain false) (Rows.eliminateCostsSpec.post enc Tryz.prog Tryz.f4 false true false false):=by
 refine returnsInHanded_of_change (C:=Tryz.checked) own started (by kernel_rfl) Tryz.func4
  (ChangeSpec.witness6 (enc:=enc) (C:=Tryz.checked) false ⟨#[],#[.agg #[.int .u8 0,.slice none 0 0,.slice none 0 0],.agg #[.int .u8 0,.int .u8 0,.int .u8 0,.int .i64 0],.agg #[.int .u8 0,.int .u8 0,.int .u8 0,.int .u8 0,.int .u8 0,.int .u8 0,.int .u8 0,.int .u8 0,.int .u8 0,.int .i64 0,.int .u8 0,.int .u8 0,.int .u8 0,.int .u8 0,.int .u8 0,.int .u8 0,.int .u8 0,.int .u8 0,.slice none 0 0,.slice none 0 0]],[]⟩ 8 (by kernel_rfl) (by kernel_rfl) (by kernel_rfl) (by kernel_rfl)) ?_
 intro W base args ds gs before hval0 hW hcnd _;have hval:∀(j:Nat) t v,Tryz.f4.params[j]? = some t->args[j]? = some v->Value.okWide Tryz.prog W .any base t v:=hval0;have hlt:∀ x∈before,x.block<W.heap.size:=λx hx=>hW.lt x hx
 have hW':=hW;obtain⟨p,q,hA0,hV,rfl,hfz,hnd⟩:=hW;have hA:DataW.TrodAll enc Tryz.prog W 0 (λ_=>true) true Tryz.f4.params.toList args.toList ds p:=hA0;rw[Tryz.params4]at hA hval;have hcalls:=zql (λj t v h1 h2=>hval j t v (by simpa using h1) h2) hA;obtain⟨rfl,rfl⟩:=trodVars_none hV;have hA1:DataW.TrodAll enc Tryz.prog W 0 (λ_=>true) true [25,27,33] args.toList ds p:=hA;have hds:∃ d0 d1 d2:DataW H,ds=[d0,d1,d2]:=by
  obtain⟨_,_,d0,ds0,_,_,_,e0,_,_,r0⟩:=trodAll_cons hA1;obtain⟨_,_,d1,ds1,_,_,_,e1,_,_,r1⟩:=trodAll_cons r0;obtain⟨_,_,d2,ds2,_,_,_,e2,_,_,r2⟩:=trodAll_cons r1;obtain⟨_,e3,_⟩:=trodAll_nil r2;exact⟨d0,d1,d2,by rw[e0,e1,e2,e3]⟩
 obtain⟨d0,d1,d2,rfl⟩:=hds;clear hA0 hval0;simp only[qaH]at hW' hlt;refine hcalls.mono λe W' ⟨he,hb⟩=>?_
 subst he
 exact⟨_,rfl,_,_,_,[],_,[],hW',trodAll_mk1 (shut_bool Tryz.underlying4 true),
  (by rw[Tryz.params4]; exact zim hb hA1 zEq hlt),
  rfl,hb.frame _,λh=>by cases h⟩
theorem costs_said:Rows.EliminateCostsSaid:=
 OpenClaim.holds_of_wide 4 Tryz.f4 rfl rfl rfl rfl rfl rfl rfl ⟨rfl,rfl,rfl,rfl,rfl⟩ rfl rfl rfl rfl rfl zGD Tryz.func4 zAP
  zGM (by unfold Func.isWrapper; first | (rw[if_pos (by decide +kernel)]; kernel_rfl)| (rw[if_neg (by decide +kernel)]; exact⟨rfl,rfl⟩))
  (λos started H enc _=>zn9 os started H enc)
end Go.Proofs.YtbjogdohfhdaiaaGreat.S
namespace Go.Proofs.YtbjogdohfhdaiaaGreat
theorem costs_said:Rows.EliminateCostsSaid:=S.costs_said
end Go.Proofs.YtbjogdohfhdaiaaGreat
