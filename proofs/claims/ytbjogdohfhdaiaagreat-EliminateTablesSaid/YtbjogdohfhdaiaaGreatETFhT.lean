/-
 Facts of what EliminateTables reaches. Conditions: none.
-/
import Derived.Test.YtbjogdohfhdaiaaGreatETDm
import Derived.Test.YtbjogdohfhdaiaaGreatETJ9
import Derived.Test.YtbjogdohfhdaiaaGreatETSa
import Derived.Test.YtbjogdohfhdaiaaGreatETFct
set_option linter.unusedSimpArgs false
set_option linter.unusedVariables false
set_option maxRecDepth 100000
namespace Go.Proofs.YtbjogdohfhdaiaaGreat
open Go.ChangeShapes Go.WideShapes Go.ChangeAt Go.RowKit
theorem zsa:(Rows.eliminateTablesRow.inPlace == Tryz.pinned.checked.prog.inPlace 6)=true:=by kernel_rfl
theorem zBM:(Rows.eliminateTablesRow.unfollowed == Tryz.pinned.checked.prog.unfollowed 6)=true:=by kernel_rfl
theorem zBo:(Rows.eliminateTablesRow.recurses == Tryz.pinned.checked.prog.recurses 6)=true:=by kernel_rfl
theorem zwn:(Rows.eliminateTablesRow.named == Tryz.pinned.checked.prog.varsNamed 6)=true:=by kernel_rfl
theorem zz0:joinedFacts Tryz.pinned.checked.prog 6 Tryz.f6 Rows.eliminateTablesSpec Rows.eliminateTablesRow=true:=by
 unfold joinedFacts;rw[zxZ,zBS,zzU,zAk,zCZ,zsa,zBM,zBo,zwn,zzh,zAO,show(Rows.eliminateTablesRow.lifted == Tryz.pinned.checked.prog.liftsFinal)=true from zCz,show(Tryz.pinned.checked.prog.make == some Rows.eliminateTablesRow.make)=true from zCw]
 kernel_rfl
theorem zDU:Tryz.pinned.checked.prog.funcNamed Rows.eliminateTablesRow.func=some 6:=by kernel_rfl
theorem zEj:Tryz.f6.isInstance Tryz.pinned.checked.prog Rows.eliminateTablesRow.origin Rows.eliminateTablesRow.targs:=of_decide_eq_true (by kernel_rfl)
end Go.Proofs.YtbjogdohfhdaiaaGreat
set_option maxRecDepth 100000
namespace Go.Proofs.YtbjogdohfhdaiaaGreat.S
open Go Go.Mx Go.Lx Go.Dc Go.ChangeShapes Go.WideShapes Go.ChangeAt Go.RowKit
theorem ztV{xs:List Int}(h:okL (okI .u8) xs):∃ ns:List Nat,(∀ x∈ns,x<=255)/\xs=iL ns:=by
 obtain⟨ns,h1,h2⟩:=Dc.zqQ (l:=xs) (f:=λn:Nat=>(n:Int)) (T:=λn=>n<=255) λy hy=>by
  have:=zkH (h.2 y hy);exact⟨y.toNat,by omega,by omega⟩
 exact⟨ns,h1,h2⟩
theorem zu2:Dec zan [.int .u8,.int .u8,.sl [.int .u8]] (λx=>okI .u8 x.zaC/\okI .u8 x.parents/\okL (okI .u8) x.w):=
 Dec.iso (Dec.pair (Dec.int .u8) (Dec.pair (Dec.int .u8) (Dec.list (Dec.int .u8)))) (λx:S_haruspexref05_Piece=>(x.zaC,x.parents,x.w)) (λa=>⟨a.1,a.2.1,a.2.2⟩) (λ_=>rfl)
theorem zs4:Dec zdI [.int .u8,.sl [.int .u8,.int .u8,.sl [.int .u8]],.sl [.int .u8]]
  (λx=>okI .u8 x.grain/\okL (λx=>okI .u8 x.zaC/\okI .u8 x.parents/\okL (okI .u8) x.w) x.nodes/\okL (okI .u8) x.order):=
 Dec.iso (Dec.pair (Dec.int .u8) (Dec.pair (Dec.list zu2) (Dec.list (Dec.int .u8)))) (λx:S_haruspexref05_Draft=>(x.grain,x.nodes,x.order)) (λa=>⟨a.1,a.2.1,a.2.2⟩) (λ_=>rfl)
theorem zxd{x:S_haruspexref05_Draft}(h:okI .u8 x.grain/\okL (λx=>okI .u8 x.zaC/\okI .u8 x.parents/\okL (okI .u8) x.w) x.nodes/\okL (okI .u8) x.order):∃ d:DraftN,DraftOk d/\x=zdm d:=by
 obtain⟨grain,nodes,order⟩:=x;obtain⟨h1,h2,h3⟩:=h;have hg:=zkH h1;obtain⟨os,o1,o2⟩:=ztV h3;obtain⟨ps,p1,p2⟩:=Dc.zqQ (l:=nodes) (f:=zp4) (T:=λn=>n.zaC<=255) λy hy=>by
  obtain⟨g1,g2,g3⟩:=h2.2 y hy;have k1:=zkH g1;have k2:=zkH g2;obtain⟨ws,w1,w2⟩:=ztV g3;refine⟨⟨y.zaC.toNat,y.parents.toNat,ws⟩,by simp only; omega,?_⟩;obtain⟨a,b,c⟩:=y;simp only at k1 k2 w2;subst w2;simp only[zp4,qce k1.1,qce k2.1]
 refine⟨⟨grain.toNat,ps,os⟩,⟨by simp only at hg ⊢; omega,p1,o1⟩,?_⟩;simp only at o2 p2 hg;subst o2 p2;simp only[zdm,qce hg.1]
theorem zyI:zeN Tryz.prog 8 25=some [.int .u8,.sl [.int .u8,.int .u8,.sl [.int .u8]],.sl [.int .u8]]:=by kernel_rfl
theorem zEF:zwa Tryz.prog 25=true:=by kernel_rfl
theorem zCx:Tryz.prog.readableRec 25=true:=by kernel_rfl
theorem zxh{d:D}(h:ShA Tryz.prog 8 25 d):∃ dr:DraftN,DraftOk dr/\d=.agg (zdI.c false (zdm dr)):=by
 obtain⟨x,h1,h2⟩:=zs4.agg zEF zyI h;obtain⟨dr,h3,rfl⟩:=zxd h1;exact⟨dr,h3,h2⟩
theorem zhy{H:Type}{enc:TypeId×Value->H}{W W':World}(hb:Below W.heap.size W W'):∀ {ts:List TypeId} {vs:List Value} {ds:List (DataW H)} {ps:List MemPlace},
  DataW.TrodAll enc Tryz.prog W 0 (λ_=>true) true ts vs ds ps->(∀ t∈ts,Tryz.prog.readableRec t=true/\t<Tryz.prog.types.size)->(∀ x∈ps,x.block<W.heap.size)->
  DataW.TrodAll enc Tryz.prog W' 0 (λb=>decide (b<W.heap.size)) true ts vs ds ps
 | [],vs,ds,ps,h,_,_=>by
  obtain⟨rfl,rfl,rfl⟩:=trodAll_nil h;exact trodAll_mk0
 | t :: ts,vs,ds,ps,h,ht,hlt=>by
  obtain⟨v,vs',d,ds',p,q,rfl,rfl,rfl,h1,h2⟩:=trodAll_cons h;obtain⟨r1,r2⟩:=ht t qam;exact⟨p,q,Below.trod laidOut r1 r2 h1 hb (λx hx=>hlt x (qcU _ hx)),zhy hb h2 (λt h=>ht t (qag _ h)) (λx hx=>hlt x (List.mem_append_right _ hx)),rfl⟩
theorem zyY:(252:Nat)<Tryz.prog.types.size:=of_decide_eq_true (by kernel_rfl)
end Go.Proofs.YtbjogdohfhdaiaaGreat.S
namespace Go.Dc
open Go Go.Mx Go.Lx
variable{f:Fc}{M v k:Nat}
theorem Stc.zaC{cs:List Nat}(h:Stc cs f M)(hv:pos f.vs v=some k)(hk:k<f.cs.length):f.cs[k]=cs.getD v 0:=by
 obtain⟨h1,e⟩:=zdb hv;rw[<- zpx h.ok hv hk,h.at (e ▸ qau h1)]
theorem Stc.mono{cs:List Nat}{N:Nat}(h:Stc cs f M)(hl:M<=N):Stc cs f N:=⟨h.ok,h.cs_,h.var,λi=>qan (h.le i) hl⟩
theorem Stc.klt{cs:List Nat}(h:Stc cs f M)(hv:pos f.vs v=some k):k<f.cs.length:=by
 obtain⟨h1,_⟩:=zdb hv;rw[<- h.ok.len]; exact h1
theorem Stc.fix{cs:List Nat}(hf:Stc cs f M)(hv:pos f.vs v=some k)(p:Nat):Stc cs (fixF f v k p) M:=by
 have hk:=hf.klt hv;refine⟨zAw hf.ok hv hk p,?_,λu hu=>hf.var u (qaJ.1 hu).1,zgs λx hx=>?_⟩
 .show f.cs.eraseIdx k=(rest f v).map _;rw[<- zgr hf.ok hv];exact qbs λu hu=>hf.at (qaJ.1 hu).1
 obtain⟨j,_,rfl⟩:=qaE.1 hx;exact hf.le _
theorem Stc.zzE{cs:List Nat}{f:Fc}{M:Nat}(hf:Stc cs f M){v k p:Nat}(hv:pos f.vs v=some k)(hp:p<cs.getD v 0):zcA f.D (v:Int) (p:Int)=some ((fixF f v k p).D,0):=by
 have hk:=hf.klt hv;exact Go.Dc.zzE hf.ok hv hk (by rw[hf.zaC hv hk]; exact hp)
variable{s:Nat->Nat}
theorem zqp{cs:List Nat}(hs:zrL cs s){p:Nat}(hp:p<cs.getD v 0):zrL cs (upd s v p):=by
 intro u hu;by_cases e:u=v
 .subst e; rw[zeX]; exact hp
 rw[zgI e]; exact hs u hu
def zsG(f:Fc)(v:Nat):Fc:=gF f (rest f v) ((gat false f (rest f v)).getD [])
theorem Stc.sum{cs:List Nat}(hf:Stc cs f M)(hB:zab f.cs * M<=zc2)(hv:pos f.vs v=some k):
  zbH f.D (v:Int)=some ((zsG f v).D,0)/\Stc cs (zsG f v) (cs.getD v 0 * M)/\∀ s,zrL cs s->(zsG f v).val s=zgA (cs.getD v 0) λp=>f.val (upd s v p):=by
 have hk:=hf.klt hv;have hg:=zqR false hf.ok (zhI hf.ok v) hf.le hB;have e:zsG f v=gF f (rest f v) ((List.range' 0 (zab (cof f (rest f v)))).map λj=>big false (fib f (rest f v) (zab f.cs) 0 j)):=by unfold zsG; rw[hg]; rfl
 refine⟨?_,?_,λs hs=>?_⟩
 .rw[zDY hf.ok hv,hg,e]; rfl
 .rw[e];refine⟨zDP hf.ok (zhI hf.ok v) hg,?_,λu hu=>hf.var u (qaJ.1 hu).1,zgs λx hx=>?_⟩
  .exact qbs λu hu=>hf.at (qaJ.1 hu).1
  obtain⟨j,hj,rfl⟩:=qaE.1 hx;have hj':=(qcP.1 hj).2;rw[zgr hf.ok hv,qaR]at hj';rw[zrn hf.ok hv hk hj'];refine qan (zxW (M:=M) λy hy=>?_) (qav M ?_)
  .obtain⟨i,_,rfl⟩:=qaE.1 hy;exact hf.le _
  rw[qar,List.length_range',hf.zaC hv hk];exact qao _
 have h:=Go.Dc.zzf false hf.ok hv hk hf.le hB hg (s:=s) λu hu=>hf.fit hs u (qaJ.1 hu).1
 rw[e,h,zAe,hf.zaC hv hk,zn7]
variable{u:Nat}
theorem zxJ:u∈(zsG f v).vs↔u∈f.vs/\u≠v:=by
 show u∈rest f v↔_;unfold rest;rw[qaJ];constructor
 .exact λh=>⟨h.1,λe=>by rw[e,qdB]at h; exact absurd h.2 (by decide)⟩
 exact λh=>⟨h.1,by rw[qdC h.2]; rfl⟩
structure Lok (cs:List Nat) (ps:List (Fc×Nat)):Prop where
 st:∀ p∈ps,Stc cs p.1 p.2
 one:∀ p∈ps,1<=p.2
abbrev bnd(ps:List (Fc×Nat)):Nat:=zab (ps.map (·.2))
variable{ps:List (Fc×Nat)}
theorem Lok.zA5{cs:List Nat}(h:Lok cs ps):1<=bnd ps:=zcQ λx hx=>by
 obtain⟨p,hp,rfl⟩:=qaE.1 hx;exact h.one p hp
theorem Lok.tail{cs:List Nat}{p:Fc×Nat}(h:Lok cs (p :: ps)):Lok cs ps:=⟨λq hq=>h.st q (qag _ hq),λq hq=>h.one q (qag _ hq)⟩
theorem Lok.sub{cs:List Nat}{qs:List (Fc×Nat)}(h:Lok cs ps)(hs:∀ q∈qs,q∈ps):Lok cs qs:=⟨λq hq=>h.st q (hs q hq),λq hq=>h.one q (hs q hq)⟩
theorem Lok.app{cs:List Nat}{qs:List (Fc×Nat)}(h:Lok cs ps)(h':Lok cs qs):Lok cs (ps ++ qs):=
 ⟨λq hq=>(qbr.1 hq).elim (h.st q) (h'.st q),λq hq=>(qbr.1 hq).elim (h.one q) (h'.one q)⟩
def ztG:Fc->List (Fc×Nat)->Fc
 | a,[]=>a
 | a,p :: ps=>ztG (zsA a p.1) ps
def gL(ps:List (Fc×Nat))(s:Nat->Nat):Nat:=zab (ps.map λp=>p.1.val s)
theorem zzi(p:Fc×Nat)(ps:List (Fc×Nat))(s:Nat->Nat):gL (p :: ps) s=p.1.val s * gL ps s:=rfl
theorem zBW(ps qs:List (Fc×Nat))(s:Nat->Nat):gL (ps ++ qs) s=gL ps s * gL qs s:=by
 unfold gL;rw[qbD,zfw]
theorem ziX(p:Fc×Nat)(ps:List (Fc×Nat)):bnd (p :: ps)=p.2 * bnd ps:=rfl
theorem zqL{cs:List Nat}(hc:NCs cs):∀ {ps:List (Fc×Nat)} {a:Fc} {A:Nat},Stc cs a A->Lok cs ps->A * bnd ps<=zc2->Stc cs (ztG a ps) (A * bnd ps)
 | [],a,A,ha,_,_=>by
  show Stc cs a (A * 1);rw[qb1]; exact ha
 | p :: ps,a,A,ha,h,hB=>by
  have h1:=h.tail.zA5;rw[ziX,<- qa6]at hB ⊢;have hB1:A * p.2<=zc2:=qan (qaO _ h1) hB;exact zqL hc (ha.mul hc (h.st p qam) hB1) h.tail hB
theorem zq2{cs:List Nat}(hc:NCs cs):∀ {ps:List (Fc×Nat)} {a:Fc} {A:Nat},Stc cs a A->Lok cs ps->A * bnd ps<=zc2->∀ s,zrL cs s->(ztG a ps).val s=a.val s * gL ps s
 | [],a,A,_,_,_,s,_=>(qb1 _).symm
 | p :: ps,a,A,ha,h,hB,s,hs=>by
  have h1:=h.tail.zA5;rw[ziX,<- qa6]at hB;have hB1:A * p.2<=zc2:=qan (qaO _ h1) hB;have hp:=h.st p qam;show(ztG (zsA a p.1) ps).val s=_;rw[zq2 hc (ha.mul hc hp hB1) h.tail hB s hs,ha.zpq hc hp hB1 hs,zzi,qa6]
theorem zq1{cs:List Nat}(hc:NCs cs){u:Nat}:∀ {ps:List (Fc×Nat)} {a:Fc} {A:Nat},Stc cs a A->Lok cs ps->A * bnd ps<=zc2->(u∈(ztG a ps).vs↔u∈a.vs\/∃ p∈ps,u∈p.1.vs)
 | [],a,A,_,_,_=>by simp[ztG]
 | p :: ps,a,A,ha,h,hB=>by
  have h1:=h.tail.zA5;rw[ziX,<- qa6]at hB;have hB1:A * p.2<=zc2:=qan (qaO _ h1) hB;have hp:=h.st p qam;show u∈(ztG (zsA a p.1) ps).vs↔_;rw[zq1 hc (ha.mul hc hp hB1) h.tail hB,show(u∈(zsA a p.1).vs↔u∈a.vs\/u∈p.1.vs)from zel ha.ok hp.ok];simp only[qax,exists_eq_or_imp,or_assoc]
def zdg(ps:List (Fc×Nat)):Fc:=ztG zpW ps
theorem zeI{cs:List Nat}(hc:NCs cs)(h:Lok cs ps)(hB:bnd ps<=zc2):Stc cs (zdg ps) (bnd ps):=by
 have:=zqL hc (zmt cs) h (by rw[qbh]; exact hB)
 rwa [qbh]at this
theorem zti{cs:List Nat}(hc:NCs cs)(h:Lok cs ps)(hB:bnd ps<=zc2)(hs:zrL cs s):(zdg ps).val s=gL ps s:=by
 have:=zq2 hc (zmt cs) h (by rw[qbh]; exact hB) s hs
 rwa [zz5,qbh]at this
theorem zhZ{cs:List Nat}(hc:NCs cs){ps:List (Fc×Nat)}(h:Lok cs ps)(hB:bnd ps<=zc2):u∈(zdg ps).vs↔∃ p∈ps,u∈p.1.vs:=by
 have:=zq1 hc (u:=u) (zmt cs) h (by rw[qbh]; exact hB);rw[show zpW.vs=[]from rfl]at this;simpa [zdg]using this
def occ(ps:List (Fc×Nat))(x:Nat):Bool:=ps.any λp=>decide (x∈p.1.vs)
variable{x:Nat}
theorem zg6{ps:List (Fc×Nat)}:occ ps x=true↔∃ p∈ps,x∈p.1.vs:=by
 unfold occ;rw[List.any_eq_true];exact⟨λ⟨p,h1,h2⟩=>⟨p,h1,of_decide_eq_true h2⟩,λ⟨p,h1,h2⟩=>⟨p,h1,qdz h2⟩⟩
def zbz(x:Nat)(ps:List (Fc×Nat)):List (Fc×Nat):=ps.filter λp=>decide (x∈p.1.vs)
def ze1(x:Nat)(ps:List (Fc×Nat)):List (Fc×Nat):=ps.filter λp=>!decide (x∈p.1.vs)
theorem zio{α:Type}(g:α->Nat)(q:α->Bool):∀ xs:List α,zab ((xs.filter q).map g)* zab ((xs.filter λx=>!q x).map g)=zab (xs.map g)
 | []=>rfl
 | x :: xs=>by
  have ih:=zio g q xs;cases hq:q x with
  | true=>
   rw[qbj hq,qbi (by rw[hq]; decide)];show g x * zab ((xs.filter q).map g)* _=g x * zab (xs.map g);rw[qa6,ih]
  | false=>
   rw[qbi (by rw[hq]; decide),qbj (by rw[hq]; rfl)];show _ * (g x * zab ((xs.filter λx=>!q x).map g))=g x * zab (xs.map g);rw[qcQ,ih]
def zfz(k:Nat->Nat)(x:Nat)(ps:List (Fc×Nat)):List (Fc×Nat):=ze1 x ps ++ [(zsG (zdg (zbz x ps)) x,k x * bnd (zbz x ps))]
theorem zeb{x:Nat}{ps:List (Fc×Nat)}:∀ q∈zbz x ps,q∈ps:=λq hq=>(qaJ.1 hq).1
theorem zhk{x:Nat}{ps:List (Fc×Nat)}:∀ q∈ze1 x ps,q∈ps:=λq hq=>(qaJ.1 hq).1
theorem zqy{x:Nat}{ps:List (Fc×Nat)}:∀ q∈ze1 x ps,x ∉ q.1.vs:=λq hq=>by
 have:=(qaJ.1 hq).2;rw[qbJ]at this;exact qdF this
theorem ztx{x:Nat}{ps:List (Fc×Nat)}:∀ q∈zbz x ps,x∈q.1.vs:=λq hq=>of_decide_eq_true (qaJ.1 hq).2
theorem znT(x:Nat)(ps:List (Fc×Nat)):bnd (zbz x ps)* bnd (ze1 x ps)=bnd ps:=zio (·.2) _ ps
theorem zxB(x:Nat)(ps:List (Fc×Nat))(s:Nat->Nat):gL (zbz x ps) s * gL (ze1 x ps) s=gL ps s:=zio (α:=Fc×Nat) (λp=>p.1.val s) (λp=>decide (x∈p.1.vs)) ps
theorem zxy{ps:List (Fc×Nat)}{t:Nat->Nat}(h:∀ p∈ps,∀ v∈p.1.vs,s v=t v):gL ps s=gL ps t:=by
 unfold gL;rw[qbs λp hp=>val_congr (f:=p.1) λv hv=>h p hp v hv]
structure Est (cs:List Nat) (C:Nat) (E:List Nat) (ps:List (Fc×Nat)):Prop where
 lok:Lok cs ps
 nod:E.Nodup
 lt:∀ x∈E,x<cs.length
 out:∀ p∈ps,∀ v∈p.1.vs,v ∉ E
 b:bnd ps<=C * zab (cd cs E)
theorem zkF{cs:List Nat}(hc:NCs cs){E:List Nat}(hn:E.Nodup)(hl:∀ x∈E,x<cs.length):zab (cd cs E)<=1024:=by
 have hp:E.Perm ((List.range cs.length).filter λx=>decide (x∈E)):=by
  refine(List.perm_ext_iff_of_nodup hn (qbl _ qcX)).2 λx=>?_
  rw[qaJ,qbn];exact⟨λh=>⟨hl x h,qdz h⟩,λh=>of_decide_eq_true h.2⟩
 have e:zab (cd cs E)=zab (cd cs ((List.range cs.length).filter λx=>decide (x∈E))):=zrI (hp.map _);rw[e];exact qan (zhB (λc hc'=>(hc.zaC c hc').1) (qbl _ qck) λu hu=>qbn.1 (qaJ.1 hu).1) hc.prod
variable{E:List Nat}
theorem Est.tot{cs:List Nat}(hc:NCs cs){C:Nat}(hC:C * 1024<=zc2)(h:Est cs C E ps):bnd ps<=zc2:=
 qan h.b (qan (qch C (zkF hc h.nod h.lt)) hC)
theorem zl5{cs:List Nat}(h:Lok cs ps):bnd (zbz x ps)<=bnd ps:=by
 rw[<- znT x ps];exact qaO _ (h.sub zhk).zA5
theorem Est.size{cs:List Nat}(hc:NCs cs){C:Nat}(hC:C * 1024<=zc2){qs:List (Fc×Nat)}(h:Est cs C E ps)(hq:∀ q∈qs,q∈ps)(hb:bnd qs<=bnd ps):zab (zdg qs).cs * bnd qs<=zc2:=by
 have hl:=h.lok.sub hq;have hB:bnd qs<=zc2:=qan hb (h.tot hc hC);have hs:=zeI hc hl hB;rw[hs.cs_];have hd:∀ u∈(zdg qs).vs,u ∉ E:=λu hu=>by
  obtain⟨p,hp,hup⟩:=(zhZ hc hl hB).1 hu;exact h.out p (hq p hp) u hup
 have hn:((zdg qs).vs ++ E).Nodup:=List.nodup_append.2 ⟨za5 hs.ok.inc,h.nod,λa ha b hb e=>hd a ha (e ▸ hb)⟩;have hp:=zkF hc hn λu hu=>(qbr.1 hu).elim (hs.var u) (h.lt u)
 rw[zol,zfw]at hp;calc zab (cd cs (zdg qs).vs)* bnd qs<=zab (cd cs (zdg qs).vs)* (C * zab (cd cs E)):=qch _ (qan hb h.b)
  _=C * (zab (cd cs (zdg qs).vs)* zab (cd cs E)):=qcQ _ _ _
  _<=C * 1024:=qch C hp
  _<=zc2:=hC
theorem zlM:occ ps x=true↔zbz x ps≠[]:=by
 rw[zg6];constructor
 .rintro⟨p,h1,h2⟩ e;have:p∈zbz x ps:=qaJ.2 ⟨h1,qdz h2⟩;rw[e]at this;cases this
 intro h;cases hw:zbz x ps with
 | nil=>exact absurd hw h
 | cons p t=>
  have:p∈zbz x ps:=by rw[hw]; exact qam
  exact⟨p,zeb p this,ztx p this⟩
theorem Est.step{cs:List Nat}(hc:NCs cs){C:Nat}(hC:C * 1024<=zc2)(h:Est cs C E ps)(hx:occ ps x=true)(hxE:x ∉ E):
  zbH (zdg (zbz x ps)).D (x:Int)=some ((zsG (zdg (zbz x ps)) x).D,0)/\Est cs C (x :: E) (zfz (λv=>cs.getD v 0) x ps)/\
   (∀ s,zrL cs s->gL (zfz (λv=>cs.getD v 0) x ps) s=zgA (cs.getD x 0) λp=>gL ps (upd s x p))/\∀ y,y≠x->occ (zfz (λv=>cs.getD v 0) x ps) y=occ ps y:=by
 obtain⟨p0,hp0,hxp⟩:=zg6.1 hx;have hxl:x<cs.length:=(h.lok.st p0 hp0).var x hxp;have hlw:=h.lok.sub (zeb (x:=x));have hlr:=h.lok.sub (zhk (x:=x));have hbw:=zl5 (x:=x) h.lok;have hB:bnd (zbz x ps)<=zc2:=qan hbw (h.tot hc hC);have hs:=zeI hc hlw hB;have hsz:=h.size hc hC zeb hbw;have hxv:x∈(zdg (zbz x ps)).vs:=(zhZ hc hlw hB).2 ⟨p0,qaJ.2 ⟨hp0,qdz hxp⟩,hxp⟩;obtain⟨k,hk⟩:=zjG hxv;obtain⟨g1,g2,g3⟩:=hs.sum hsz hk;have hcx:1<=cs.getD x 0:=by
  rw[qai,qac hxl];exact(hc.zaC _ (qau hxl)).1
 have hmem:∀ u,u∈(zsG (zdg (zbz x ps)) x).vs↔(∃ p∈zbz x ps,u∈p.1.vs)/\u≠x:=λu=>by rw[zxJ,zhZ hc hlw hB]
 refine⟨g1,⟨hlr.app ⟨λq hq=>?_,λq hq=>?_⟩,qa7.2 ⟨hxE,h.nod⟩,λy hy=>?_,λq hq u hu=>?_,?_⟩,λs hs'=>?_,λy hy=>?_⟩
 .rw[qaP.1 hq]; exact g2
 .rw[qaP.1 hq]; exact qc0 hcx hlw.zA5
 .rcases qax.1 hy with rfl | hy
  .exact hxl
  exact h.lt y hy
 .intro hm;rcases qbr.1 hq with hq | hq
  .rcases qax.1 hm with rfl | hm
   .exact zqy q hq hu
   exact h.out q (zhk q hq) u hu hm
  rw[qaP.1 hq]at hu;obtain⟨⟨p,hp,hup⟩,hne⟩:=(hmem u).1 hu;rcases qax.1 hm with rfl | hm
  .exact hne rfl
  exact h.out p (zeb p hp) u hup hm
 .show zab ((ze1 x ps ++ [(zsG (zdg (zbz x ps)) x,cs.getD x 0 * bnd (zbz x ps))]).map (·.2))<=C * (cs.getD x 0 * zab (cd cs E));rw[qbD,zfw];show bnd (ze1 x ps)* (cs.getD x 0 * bnd (zbz x ps)* 1)<=_;have e:bnd (ze1 x ps)* (cs.getD x 0 * bnd (zbz x ps)* 1)=cs.getD x 0 * bnd ps:=by rw[<- znT x ps,qb1,qcQ,qaV (bnd (ze1 x ps))]
  rw[e,qcQ];exact qch _ h.b
 .show gL (ze1 x ps ++ [(zsG (zdg (zbz x ps)) x,cs.getD x 0 * bnd (zbz x ps))]) s=_;rw[zBW];show gL (ze1 x ps) s * ((zsG (zdg (zbz x ps)) x).val s * 1)=_;rw[qb1,g3 s hs',<- zqV];refine zdS λp hp=>?_
  rw[zti hc hlw hB (zqp hs' hp),<- zxB x ps (upd s x p),qaV,zxy (ps:=ze1 x ps) (s:=s) (t:=upd s x p) λq hq u hu=>(zgI (by rintro rfl; exact zqy q hq hu)).symm]
 have h1:occ (zfz (λv=>cs.getD v 0) x ps) y=true↔occ ps y=true:=by
  rw[zg6,zg6];constructor
  .rintro⟨q,hq,hyq⟩;rcases qbr.1 hq with hq | hq
   .exact⟨q,zhk q hq,hyq⟩
   rw[qaP.1 hq]at hyq;obtain⟨⟨p,hp,hup⟩,_⟩:=(hmem y).1 hyq;exact⟨p,zeb p hp,hup⟩
  rintro⟨q,hq,hyq⟩;by_cases hxq:x∈q.1.vs
  .exact⟨_,List.mem_append_right _ (qaP.2 rfl),(hmem y).2 ⟨⟨q,qaJ.2 ⟨hq,qdz hxq⟩,hyq⟩,hy⟩⟩
  exact⟨q,qcU _ (qaJ.2 ⟨hq,by rw[qdy hxq]; rfl⟩),hyq⟩
 cases h2:occ ps y with
 | true=>exact h1.2 h2
 | false=>
  cases h3:occ (zfz (λv=>cs.getD v 0) x ps) y with
  | false=>rfl
  | true=>rw[h1.1 h3]at h2; cases h2
theorem zqa{k:Nat->Nat}{G:(Nat->Nat)->Nat}:∀(a b:List Nat) (s:Nat->Nat),zrQ k (a ++ b) s G=zrQ k a s λt=>zrQ k b t G
 | [],_,_=>rfl
 | v :: a,b,s=>zdS λx _=>zqa a b (upd s v x)
theorem zqh{cs:List Nat}{F G:(Nat->Nat)->Nat}(h:∀ t,zrL cs t->F t=G t):∀(a:List Nat) (s:Nat->Nat),zrL cs s->zrQ (λv=>cs.getD v 0) a s F=zrQ (λv=>cs.getD v 0) a s G
 | [],s,hs=>h s hs
 | v :: a,s,hs=>zdS λx hx=>zqh h a (upd s v x) (zqp hs hx)
def zic(kn:Nat->Bool)(k:Nat->Nat):List (Fc×Nat)->List Nat->List (Nat×Fc)
 | ps,[]=>[(ps.length,zdg ps)]
 | ps,x :: xs=>bif kn x || !occ ps x then zic kn k ps xs else((zbz x ps).length,zdg (zbz x ps)):: zic kn k (zfz k x ps) xs
def zkq(kn:Nat->Bool)(k:Nat->Nat):List (Fc×Nat)->List Nat->List (Fc×Nat)
 | ps,[]=>ps
 | ps,x :: xs=>bif kn x || !occ ps x then zkq kn k ps xs else zkq kn k (zfz k x ps) xs
def zlv(kn:Nat->Bool)(ps:List (Fc×Nat))(xs:List Nat):List Nat:=xs.filter λx=>!kn x && occ ps x
theorem zmO{cs:List Nat}(hc:NCs cs){C:Nat}(hC:C * 1024<=zc2){kn:Nat->Bool}:∀(xs:List Nat) (ps:List (Fc×Nat)) (E:List Nat),Est cs C E ps->xs.Nodup->(∀ x∈xs,x ∉ E)->
  (∃ E',Est cs C E' (zkq kn (λv=>cs.getD v 0) ps xs))/\(∀ s,zrL cs s->gL (zkq kn (λv=>cs.getD v 0) ps xs) s=zrQ (λv=>cs.getD v 0) (zlv kn ps xs) s (gL ps))/\
   ∀ y,occ (zkq kn (λv=>cs.getD v 0) ps xs) y=(occ ps y && !(decide (y∈xs) && !kn y))
 | [],ps,E,h,_,_=>⟨⟨E,h⟩,λs _=>rfl,λy=>by simp[zkq]⟩
 | x :: xs,ps,E,h,hn,hE=>by
  obtain⟨n1,n2⟩:=qa7.1 hn;unfold zkq;cases hb:(kn x || !occ ps x)with
  | true=>
   obtain⟨g1,g2,g3⟩:=zmO hc hC (kn:=kn) xs ps E h n2 λy hy=>hE y (qag _ hy)
   have hf:(!kn x && occ ps x)=false:=by cases h1:kn x<;>cases h2:occ ps x<;>rw[h1,h2]at hb<;>first | rfl | cases hb
   rw[qdw];refine⟨g1,λs hs=>?_,λy=>?_⟩
   .rw[g2 s hs];unfold zlv;rw[qbi (by rw[hf]; decide)]
   .rw[g3 y];by_cases e:y=x
    .subst e;rw[qdy n1,qdz qam];cases h1:kn y<;>cases h2:occ ps y<;>rw[h1,h2]at hb<;>first | rfl | cases hb
    .congr 3
     simp[e]
  | false=>
   have hk:kn x=false:=by cases h1:kn x<;>rw[h1]at hb<;>first | rfl | cases hb
   have ho:occ ps x=true:=by cases h1:occ ps x<;>rw[h1,hk]at hb<;>first | rfl | cases hb
   obtain⟨s1,s2,s3,s4⟩:=h.step hc hC ho (hE x qam);obtain⟨g1,g2,g3⟩:=zmO hc hC (kn:=kn) xs (zfz (λv=>cs.getD v 0) x ps) (x :: E) s2 n2 λy hy hm=>by
    rcases qax.1 hm with rfl | hm
    .exact n1 hy
    exact hE y (qag _ hy) hm
   have hl:zlv kn (zfz (λv=>cs.getD v 0) x ps) xs=zlv kn ps xs:=by
    unfold zlv;refine List.filter_congr λy hy=>?_
    rw[s4 y λe=>n1 (e ▸ hy)]
   have hl2:zlv kn ps (x :: xs)=x :: zlv kn ps xs:=by
    unfold zlv;rw[qbj (by rw[hk,ho]; rfl)]
   have hln:(x :: zlv kn ps xs).Nodup:=qa7.2 ⟨λhm=>n1 (qaJ.1 hm).1,qbl _ n2⟩;rw[qdx];refine⟨g1,λs hs=>?_,λy=>?_⟩
   .rw[g2 s hs,hl,hl2,zqh (G:=λt=>zrQ (λv=>cs.getD v 0) [x] t (gL ps)) (λt ht=>s3 t ht) _ s hs,<- zqa];exact(zut (List.perm_append_comm (l₁:=[x])) hln s (gL ps)).symm
   rw[g3 y];by_cases e:y=x
   .subst e;have hno:occ (zfz (λv=>cs.getD v 0) y ps) y=false:=by
     cases h1:occ (zfz (λv=>cs.getD v 0) y ps) y with
     | false=>rfl
     | true=>
      obtain⟨q,hq,hyq⟩:=zg6.1 h1;exact absurd qam (s2.out q hq y hyq)
    rw[hno,ho,hk,qdz qam];rfl
   rw[s4 y e];congr 3
   simp[e]
theorem zsT{α:Type}{pre post:List α}{x:α}:zaO (pre ++ x :: post) ((pre.length:Nat):Int)=some x:=by
 unfold zaO;rw[if_pos (qbL _),qaL,qas (qao _),qcr];rfl
def dL(ps:List (Fc×Nat)):List S_api_Factor:=ps.map λp=>p.1.D
theorem zkx(ps:List (Fc×Nat)):(dL ps).length=ps.length:=qar _
theorem zyt(ps qs:List (Fc×Nat)):dL (ps ++ qs)=dL ps ++ dL qs:=qbD
theorem zt2{cs:List Nat}(hc:NCs cs):∀(n:Nat) (pre:List S_api_Factor) (post:List (Fc×Nat)) (a:Fc) (A:Nat),Stc cs a A->Lok cs post->A * bnd post<=zc2->post.length<n->pre.length+post.length<9223372036854775807 ->
  zaK (pre ++ dL post) n ((pre.length:Nat):Int) a.D.vars a.D.zae a.D.w=some ((ztG a post).D.vars,(ztG a post).D.zae,(ztG a post).D.w)
 | 0,_,_,_,_,_,_,_,h,_=>absurd h (qat _)
 | n+1,pre,[],a,A,_,_,_,_,_=>by
  unfold zaK;rw[show decide (((pre.length:Nat):Int)<(((pre ++ dL []).length:Nat):Int))=false from qdy (by simp[dL]),qdx];rfl
 | n+1,pre,p :: post,a,A,ha,h,hB,hn,hl=>by
  unfold zaK;have h1:=h.tail.zA5;rw[ziX,<- qa6]at hB;have hB1:A * p.2<=zc2:=qan (qaO _ h1) hB;have hp:=h.st p qam;simp only[qay]at hn hl;rw[show decide (((pre.length:Nat):Int)<(((pre ++ dL (p :: post)).length:Nat):Int))=true from qdz (by simp only[dL,qaH,qaq,qay,qar]; omega),qdw];rw[show dL (p :: post)=p.1.D :: dL post from rfl,zsT,qaa];show((zcz a.D p.1.D).bind _)=_;rw[ha.zzW hc hp hB1,qaa,zak (by omega)];have:=zt2 hc n (pre ++ [p.1.D]) post (zsA a p.1) (A * p.2) (ha.mul hc hp hB1) h.tail hB (by omega) (by simp only[qaq,qay,qa3]; omega);rw[qaI,qaT,qaq]at this;exact this
theorem zy2{cs:List Nat}(hc:NCs cs)(h:Lok cs ps)(hB:bnd ps<=zc2)(hl:ps.length<9223372036854775807):za2 (dL ps)=some (zdg ps).D:=by
 unfold za2;rw[show zeS=some zpW.D from rfl,qaa,zkx,zaI];have:=zt2 hc (ps.length+2) [] ps zpW 1 (zmt cs) h (by rw[qbh]; exact hB) (by omega) (by simpa using hl);rw[qa4]at this;show((zaK (dL ps) (ps.length+2) ((([]:List S_api_Factor).length:Nat):Int) zpW.D.vars zpW.D.zae zpW.D.w).bind _)=_;rw[this];rfl
theorem zyz(x:Nat):∀(n:Nat) (pre post acc0 acc1:List Nat),post.length<n->pre.length+post.length<1000000000->acc0.length+acc1.length<=pre.length ->
  zaq (iL (pre ++ post)) (x:Int) n ((pre.length:Nat):Int) (iL acc0) (iL acc1)=some (iL (acc0 ++ post.filter λv=>v == x),iL (acc1 ++ post.filter λv=>!(v == x)))
 | 0,_,_,_,_,h,_,_=>absurd h (qat _)
 | n+1,pre,[],acc0,acc1,_,_,_=>by
  unfold zaq;rw[show decide (((pre.length:Nat):Int)<(((iL (pre ++ [])).length:Nat):Int))=false from qdy (by rw[zal]; simp),qdx];simp
 | n+1,pre,v :: post,acc0,acc1,hn,hl,ha=>by
  unfold zaq;simp only[qay]at hn hl;rw[show decide (((pre.length:Nat):Int)<(((iL (pre ++ v :: post)).length:Nat):Int))=true from qdz (by rw[zal]; simp; omega),qdw,zer,qaa];have h4:zb2 (v:Int) (x:Int)=some (v == x):=by
   show some ((v:Int)==(x:Int))=_;congr 1
   rw[qdr];simp only[qdA];omega
  rw[h4,qaa,zak (by omega)];have hr:=zyz x n (pre ++ [v]) post;cases hv:(v == x)with
  | true=>
   rw[qdw,show zdi 8 (iL acc0) [(v:Int)]=some (iL (acc0 ++ [v]))from by rw[zcv (by rw[zal]; simp; omega)]; simp[iL],qaa,qaa];have:=hr (acc0 ++ [v]) acc1 (by omega) (by simp; omega) (by simp; omega);rw[qaI,qaT,qaq]at this;rw[qbj (p:=λv=>v == x) hv,qbi (p:=λv=>!(v == x)) (by rw[hv]; decide)];rw[qaI,qaT]at this;exact this
  | false=>
   rw[qdx,show zdi 8 (iL acc1) [(v:Int)]=some (iL (acc1 ++ [v]))from by rw[zcv (by rw[zal]; simp; omega)]; simp[iL],qaa,qaa];have:=hr acc0 (acc1 ++ [v]) (by omega) (by simp; omega) (by simp; omega);rw[qaI,qaT,qaq]at this;rw[qbi (p:=λv=>v == x) (by rw[hv]; decide),qbj (p:=λv=>!(v == x)) (by rw[hv]; rfl)];rw[qaI,qaT]at this;exact this
theorem zBX(hf:FcOk f)(x:Nat):zbK f.D (x:Int)=some (decide (x∈f.vs)):=by
 have hl:f.vs.length<=12:=by rw[hf.len]; exact hf.le
 unfold zbK zby
 have:=zyz x (f.vs.length+2) [] f.vs [] [] (by omega) (by simp; omega) (qao _);show((((zaq (iL f.vs) (x:Int) (((iL f.vs).length:Int) - 0+2).toNat 0 [] []).bind _)).bind _)=_;rw[zal,zaI];rw[qa4]at this;rw[show zaq (iL f.vs) (x:Int) (f.vs.length+2) 0 [] []=_ from this,qaa,qaa];congr 1
 rw[qdr,qdG,qdG,zal];constructor
 .intro h;have h1:0<(f.vs.filter λv=>v == x).length:=by simpa using h
  obtain⟨y,hy⟩:=List.exists_mem_of_length_pos h1;obtain⟨h2,h3⟩:=qaJ.1 hy;exact(beq_iff_eq.1 h3)▸ h2
 intro h;have:x∈f.vs.filter λv=>v == x:=qaJ.2 ⟨h,qdB _⟩
 have:=List.length_pos_of_mem this;simpa using this
theorem zrs{cs:List Nat}(x:Nat):∀(n:Nat) (pre:List S_api_Factor) (post:List (Fc×Nat)) (acc0 acc1:List S_api_Factor),Lok cs post->post.length<n->pre.length+post.length<1000000000->acc0.length+acc1.length<=pre.length ->
  zbn (pre ++ dL post) (x:Int) n ((pre.length:Nat):Int) acc0 acc1=some (acc0 ++ dL (zbz x post),acc1 ++ dL (ze1 x post))
 | 0,_,_,_,_,_,h,_,_=>absurd h (qat _)
 | n+1,pre,[],acc0,acc1,_,_,_,_=>by
  unfold zbn;rw[show decide (((pre.length:Nat):Int)<(((pre ++ dL []).length:Nat):Int))=false from qdy (by simp[dL]),qdx];simp[dL,zbz,ze1]
 | n+1,pre,p :: post,acc0,acc1,h,hn,hl,ha=>by
  unfold zbn;simp only[qay]at hn hl;rw[show decide (((pre.length:Nat):Int)<(((pre ++ dL (p :: post)).length:Nat):Int))=true from qdz (by simp only[dL,qaH,qaq,qay,qar]; omega),qdw];rw[show dL (p :: post)=p.1.D :: dL post from rfl,zsT,qaa];have h4:zaL p.1.D (x:Int)=some (decide (x∈p.1.vs)):=by
   unfold zaL;rw[zBX (h.st p qam).ok x];rfl
  rw[h4,qaa,zak (by omega)];have hr:=zrs (cs:=cs) x n (pre ++ [p.1.D]) post;cases hv:decide (x∈p.1.vs)with
  | true=>
   rw[qdw,zcv (by simp; omega),qaa,qaa];have:=hr (acc0 ++ [p.1.D]) acc1 h.tail (by omega) (by simp; omega) (by simp; omega);rw[qaI,qaT,qaq]at this;unfold zbz ze1 at this ⊢;rw[qbj (p:=λq:Fc×Nat=>decide (x∈q.1.vs)) hv,qbi (p:=λq:Fc×Nat=>!decide (x∈q.1.vs)) (by rw[hv]; decide)];rw[qaI,qaT]at this;exact this
  | false=>
   rw[qdx,zcv (by simp; omega),qaa,qaa];have:=hr acc0 (acc1 ++ [p.1.D]) h.tail (by omega) (by simp; omega) (by simp; omega);rw[qaI,qaT,qaq]at this;unfold zbz ze1 at this ⊢;rw[qbi (p:=λq:Fc×Nat=>decide (x∈q.1.vs)) (by rw[hv]; decide),qbj (p:=λq:Fc×Nat=>!decide (x∈q.1.vs)) (by rw[hv]; rfl)];rw[qaI,qaT]at this;exact this
theorem zzr{cs:List Nat}(h:Lok cs ps)(hl:ps.length<1000000)(x:Nat):zcM (dL ps) (x:Int)=some (dL (zbz x ps),dL (ze1 x ps)):=by
 unfold zcM;have:=zrs (cs:=cs) x (ps.length+2) [] ps [] [] h (by omega) (by simp; omega) (qao _);rw[zkx,zaI];rw[qa4]at this;rw[show zbn (dL ps) (x:Int) (ps.length+2) 0 [] []=_ from this,qaa];rfl
theorem zov(x:Nat)(ps:List (Fc×Nat)):(zbz x ps).length+(ze1 x ps).length=ps.length:=by
 induction ps with
 | nil=>rfl
 | cons p ps ih=>
  unfold zbz ze1 at ih ⊢;cases hv:decide (x∈p.1.vs)with
  | true=>rw[qbj (p:=λq:Fc×Nat=>decide (x∈q.1.vs)) hv,qbi (p:=λq:Fc×Nat=>!decide (x∈q.1.vs)) (by rw[hv]; decide),qay,qay]; omega
  | false=>rw[qbi (p:=λq:Fc×Nat=>decide (x∈q.1.vs)) (by rw[hv]; decide),qbj (p:=λq:Fc×Nat=>!decide (x∈q.1.vs)) (by rw[hv]; rfl),qay,qay]; omega
theorem zfo{cs:List Nat}(hc:NCs cs){C:Nat}(hC:C * 1024<=zc2){q:S_eliminate_query}{kn:Nat->Bool}:∀(xs:List Nat) (ps:List (Fc×Nat)) (E:List Nat),Est cs C E ps->xs.Nodup->(∀ x∈xs,x ∉ E)->ps.length<1000000 ->
  (∀ x∈xs,∃ kx,zaO q.known (x:Int)=some kx/\kn x=decide (0<=kx))->
  ∃ u,zfg q (dL ps) (iL xs)=some u/\u.map (·.1)=(zic kn (λv=>cs.getD v 0) ps xs).map λe=>(⟨(e.1:Int),e.2.D⟩:StR)
 | [],ps,E,h,_,_,hl,_=>by
  refine⟨[(⟨((dL ps).length:Int),(zdg ps).D⟩,dL ps)],?_,?_⟩
  .show((za2 (dL ps)).bind _)=_;rw[zy2 hc h.lok (h.tot hc hC) (by omega),qaa]
  .simp[zic,zkx]
 | x :: xs,ps,E,h,hn,hE,hl,hk=>by
  obtain⟨n1,n2⟩:=qa7.1 hn;obtain⟨kx,k1,k2⟩:=hk x qam;have hE':∀ y∈xs,y ∉ E:=λy hy=>hE y (qag _ hy)
  have hk':∀ y∈xs,∃ kx,zaO q.known (y:Int)=some kx/\kn y=decide (0<=kx):=λy hy=>hk y (qag _ hy)
  rw[show iL (x :: xs)=(x:Int):: iL xs from rfl];unfold zfg zic;rw[k1,qaa,<- k2];cases hkn:kn x with
  | true=>
   rw[qdw,Bool.true_or,qdw];exact zfo hc hC xs ps E h n2 hE' hl hk'
  | false=>
   rw[qdx,qcN,zzr h.lok hl x,qaa];have hlw:(dL (zbz x ps)).length=(zbz x ps).length:=zkx _;cases ho:occ ps x with
   | false=>
    have hw:zbz x ps=[]:=by
     cases hw:zbz x ps with
     | nil=>rfl
     | cons a b=>exact absurd (zlM.2 (by rw[hw]; exact List.cons_ne_nil _ _)) (by rw[ho]; decide)
    have e0:(((dL (zbz x ps)).length:Int)== 0)=true:=by rw[hw]; rfl
    simp only[e0,qdw,qbE];exact zfo hc hC xs ps E h n2 hE' hl hk'
   | true=>
    have hw:zbz x ps≠[]:=zlM.1 ho;have hwl:0<(zbz x ps).length:=List.length_pos_iff.2 hw;have hpl:=zov x ps;have e0:(((dL (zbz x ps)).length:Int)== 0)=false:=by
     rw[hlw,qdD];omega
    obtain⟨s1,s2,s3,s4⟩:=h.step hc hC ho (hE x qam);have hB:bnd (zbz x ps)<=zc2:=qan (zl5 h.lok) (h.tot hc hC)
    obtain⟨u,u1,u2⟩:=zfo hc hC (kn:=kn) (q:=q) xs (zfz (λv=>cs.getD v 0) x ps) (x :: E) s2 n2 (λy hy hm=>by
     rcases qax.1 hm with rfl | hm
     .exact n1 hy
     exact hE' y hy hm) (by unfold zfz; rw[qaq,qdg]; omega) hk'
    refine⟨(⟨((zbz x ps).length:Int),(zdg (zbz x ps)).D⟩,dL ps):: u,?_,?_⟩
    .simp only[e0,qdx];rw[zy2 hc (h.lok.sub zeb) hB (by omega),qaa,s1,qaa,zcv (by rw[zkx]; simp; omega),qaa];rw[show dL (ze1 x ps)++ [(zsG (zdg (zbz x ps)) x).D]=dL (zfz (λv=>cs.getD v 0) x ps)from by unfold zfz; rw[zyt]; rfl,u1,qaa,hlw]
    simp only[qbf,qdx,qaH,u2]
def knE(e:List Int)(v:Nat):Bool:=decide (0<=e.getD v (-1))
def veE(e:List Int)(v:Nat):Nat:=(e.getD v (-1)).toNat
structure EvOk (cs:List Nat) (e:List Int):Prop where
 len:e.length=cs.length
 lo:∀ v,v<cs.length -> -1<=e.getD v (-1)
 hi:∀ v,v<cs.length->e.getD v (-1)<(cs.getD v 0:Nat)
variable{e:List Int}
theorem EvOk.ve{cs:List Nat}(h:EvOk cs e)(hv:v<cs.length)(hk:knE e v=true):veE e v<cs.getD v 0/\e.getD v (-1)=(veE e v:Int):=by
 have h1:=h.hi v hv;have h2:=of_decide_eq_true hk;unfold veE;omega
def zsO(e:List Int)(i:Nat)(f:Fc):Fc:=bif knE e i then(match pos f.vs i with | some k=>fixF f i k (veE e i)| none=>f)else f
def zhY(e:List Int):Nat->Nat->Fc->Fc
 | 0,_,f=>f
 | m+1,i,f=>zhY e m (i+1) (zsO e i f)
variable{i:Nat}
theorem zrb{cs:List Nat}(hf:Stc cs f M):Stc cs (zsO e i f) M:=by
 unfold zsO;cases knE e i with
 | false=>exact hf
 | true=>
  rw[qdw];cases hp:pos f.vs i with
  | none=>exact hf
  | some k=>exact hf.fix hp _
theorem zlf{cs:List Nat}{e:List Int}{M:Nat}:∀(m i:Nat) {f:Fc},Stc cs f M->Stc cs (zhY e m i f) M
 | 0,_,_,h=>h
 | m+1,i,_,h=>zlf m (i+1) (zrb h)
theorem zye{cs:List Nat}{q:S_eliminate_query}{e:List Int}(hq:q.known=e)(he:EvOk cs e)(hc:cs.length<=8){M:Nat}:∀(n m i:Nat) {f:Fc},Stc cs f M->i+m=cs.length->m<n ->
  zat q n (i:Int) f.D.vars f.D.zae f.D.w=some (.go ((zhY e m i f).D.vars,(zhY e m i f).D.zae,(zhY e m i f).D.w))
 | 0,_,_,_,_,_,h=>absurd h (qat _)
 | n+1,0,i,f,hf,hi,_=>by
  unfold zat;rw[hq,he.len,show decide ((i:Int)<((cs.length:Nat):Int))=false from qdy (by omega),qdx];rfl
 | n+1,m+1,i,f,hf,hi,hn=>by
  unfold zat;have hil:i<e.length:=by rw[he.len]; omega
  have hx:e[i]=e.getD i (-1):=by rw[qai,qac hil]; rfl
  rw[hq,show decide ((i:Int)<((e.length:Nat):Int))=true from qdz (by omega),qdw,zbd hil,qaa,hx];have ih:=zye hq he hc n m (i+1) (zrb (e:=e) (i:=i) hf) (by omega) (by omega);unfold zhY;cases hk:knE e i with
  | false=>
   have h0:e.getD i (-1)<0:=by have:=qdF hk; omega
   have e1:zsO e i f=f:=by unfold zsO; rw[hk,qdx]
   rw[e1]at ih ⊢;rw[qdz h0,qdw,qaa,qdw,qaa,zak (by omega)];exact ih
  | true=>
   obtain⟨h1,h2⟩:=he.ve (by omega) hk;have h0:¬ e.getD i (-1)<0:=by omega
   rw[qdy h0,qdx];rw[show zbK (S_api_Factor.mk f.D.vars f.D.zae f.D.w) (i:Int)=some (decide (i∈f.vs))from zBX hf.ok i,qaa,qaa];cases hp:pos f.vs i with
   | none=>
    have hm:i ∉ f.vs:=λhm=>by obtain⟨k,hk⟩:=zjG hm; rw[hp]at hk; cases hk
    have e1:zsO e i f=f:=by unfold zsO; rw[hk,qdw,hp]
    rw[e1]at ih ⊢;rw[qdy hm,qbE,qdw,qaa,zak (by omega)];exact ih
   | some k=>
    have hm:i∈f.vs:=by obtain⟨a,b⟩:=zdb hp; rw[<- b]; exact qau a
    have e1:zsO e i f=fixF f i k (veE e i):=by unfold zsO; rw[hk,qdw,hp]
    rw[e1]at ih ⊢;rw[qdz hm,qbf,qdx,h2];rw[show zcA (S_api_Factor.mk f.D.vars f.D.zae f.D.w) (i:Int) (veE e i:Int)=some ((fixF f i k (veE e i)).D,0)from hf.zzE hp h1,qaa];rw[show(((fixF f i k (veE e i)).D,(0:Int)).2 == 0)=true from rfl,qdw,qaa,zak (by omega)];exact ih
def zCO(ns:List NN)(e:List Int)(v:Nat):Fc:=zhY e ns.length 0 (zht (ns.map (·.c)) v (ns.getD v zsK))
def zej(ns:List NN)(e:List Int)(vs:List Nat):List (Fc×Nat):=vs.map λv=>(zCO ns e v,60)
variable{g:Nat}{ns:List NN}
theorem zxe(h:RightN g ns)(hv:v<ns.length):Stc (ns.map (·.c)) (zCO ns e v) 60:=zlf _ _ (h.stc hv)
theorem zs0{g:Nat}{ns:List NN}(h:RightN g ns){q:S_eliminate_query}{e:List Int}(hq:q.known=e)(he:EvOk (ns.map (·.c)) e){m:Nat}(hm:m<18446744073709551616):∀(n i:Nat) (acc:List (Fc×Nat)),i<=ns.length->ns.length - i<n->acc.length<=i ->
  zaz (zv9 ns,0) (m:Int) q n (i:Int) (dL acc)=some (.go (dL (acc ++ zej ns e ((List.range' i (ns.length - i)).filter λv=>m.testBit v))))
 | 0,_,_,_,h,_=>absurd h (qat _)
 | n+1,i,acc,hi,hn,ha=>by
  have hn8:=h.n2;have hfl:(zv9 ns).length=ns.length:=by simp[zv9]
  unfold zaz;simp only[];rw[hfl,zaH];rcases qaY i ns.length with hlt | hge
  .have hget:(zv9 ns)[i]'(by rw[hfl]; exact hlt)=(zht (ns.map (·.c)) i (ns.getD i zsK)).D:=by simp[zv9]
   rw[qdz hlt,qdw,zbd (by rw[hfl]; exact hlt),qaa,hget];obtain⟨q7,s1,s2⟩:=zEx hm (v:=i) (by omega);rw[s1,qaa,s2];have hr:List.range' i (ns.length - i)=i :: List.range' (i+1) (ns.length - (i+1)):=by
    rw[show ns.length - i=(ns.length - (i+1))+1 by omega];exact qca
   rw[hr];have ih:=zs0 h hq he hm n (i+1);cases hb:m.testBit i with
   | false=>
    rw[show(((false:Bool).toNat:Int)== 0)=true from rfl,qdw,qaa,zak (by omega),qbi (p:=λv=>m.testBit v) (by rw[hb]; decide)];exact ih acc hlt (by omega) (by omega)
   | true=>
    rw[show(((true:Bool).toNat:Int)== 0)=false from rfl,qdx,hq,he.len,qar,zaI];have hs:=zye hq he (by simpa using hn8) (ns.length+2) ns.length 0 (h.stc hlt) (by simp) (by omega);rw[show zat q (ns.length+2) 0 (zht (ns.map (·.c)) i (ns.getD i zsK)).D.vars (zht (ns.map (·.c)) i (ns.getD i zsK)).D.zae (zht (ns.map (·.c)) i (ns.getD i zsK)).D.w=_ from hs];simp only[qaa];rw[zcv (by rw[zkx]; simp; omega),qaa,qaa,zak (by omega),qbj (p:=λv=>m.testBit v) hb];have:=ih (acc ++ [(zCO ns e i,60)]) hlt (by omega) (by simp; omega);rw[qaI,zyt acc]at this;exact this
  have:i=ns.length:=by omega
  subst this;rw[qdy (qb3 _),qdx,qcr];simp[zej]
variable{m:Nat}
theorem zCs(h:RightN g ns){q:S_eliminate_query}(hn:q.net=zb4 g ns)(hq:q.known=e)(he:EvOk (ns.map (·.c)) e)(hm:m<18446744073709551616):
  za7 q (m:Int)=some (dL (zej ns e ((List.range ns.length).filter λv=>m.testBit v)),0):=by
 have hfl:(zv9 ns).length=ns.length:=by simp[zv9]
 unfold za7;rw[hn,zso h,qaa];simp only[];rw[show((0:Int)== 0)=true from rfl,qdw,hfl,zaI];have:=zs0 h hq he hm (ns.length+2) 0 [] (qaz _) (by omega) (qao _);rw[show zaz (zv9 ns,0) (m:Int) q (ns.length+2) 0 []=_ from this,qaa,qa4,qco,<- qdm]
theorem zCB{a j:Nat}:(a ||| 2 ^ x).testBit j=(a.testBit j || decide (x=j)):=by rw[Nat.testBit_or,Nat.testBit_two_pow]
theorem zDB{a:Nat}(ha:a<18446744073709551616)(hx:x<64):a ||| 2 ^ x<18446744073709551616:=qdc (n:=64) ha (qbX (by decide) hx)
structure OrdOk (n v:Nat) (xs:List Nat):Prop where
 nod:xs.Nodup
 lt:∀ x∈xs,x<n
 ne:∀ x∈xs,x≠v
theorem zwo(a n:Nat):zab (List.replicate n a)=a ^ n:=by
 induction n with
 | zero=>rfl
 | succ n ih=>rw[qa1]; show a * zab (List.replicate n a)=_; rw[ih,qdu,qaV]
theorem zjZ(h:RightN g ns){vs:List Nat}(hv:∀ v∈vs,v<ns.length)(hl:vs.length<=8):Est (ns.map (·.c)) (60 ^ 8) [] (zej ns e vs):=by
 refine⟨⟨λp hp=>?_,λp hp=>?_⟩,.nil,(λ_ hx=>nomatch hx),(λ_ _ _ _ hx=>nomatch hx),?_⟩
 .obtain⟨v,hm,rfl⟩:=qaE.1 hp;exact zxe h (hv v hm)
 .obtain⟨v,hm,rfl⟩:=qaE.1 hp;show 1<=60;decide
 have e1:(zej ns e vs).map (·.2)=List.replicate vs.length 60:=by
  unfold zej;rw[qde];exact List.map_const' ..
 show zab ((zej ns e vs).map (·.2))<=_;rw[e1,zwo];exact qan (qbQ (by decide) hl) (Nat.le_of_eq (qb1 _).symm)
theorem c8:60 ^ 8 * 1024<=zc2:=by decide
def zg0:List (Nat×Fc)->Nat->Nat->Nat×Nat
 | [],a,b=>(a,b)
 | x :: r,a,b=>zg0 r (a+(x.1 - 1)* x.2.ws.length) (max b x.2.ws.length)
theorem ztB:∀(L:List (Nat×Fc)) (u:List StI) (a b:Nat),u.map (·.1)=L.map (λe=>(⟨(e.1:Int),e.2.D⟩:StR))->(∀ x∈L,1<=x.1/\x.1<=1000/\x.2.ws.length<=1024)->a+1024000 * L.length<=4611686018427387904 ->
  zba u (a:Int) (b:Int)=some (((zg0 L a b).1:Int),((zg0 L a b).2:Int))
 | [],u,a,b,hu,_,_=>by
  cases u with
  | nil=>rfl
  | cons y u=>cases hu
 | x :: L,u,a,b,hu,hb,ha=>by
  cases u with
  | nil=>cases hu
  | cons y u=>
   simp only[qaH,List.cons.injEq]at hu;obtain⟨hy,hu⟩:=hu;obtain⟨h1,h2,h3⟩:=hb x qam;simp only[qay]at ha;unfold zba;rw[hy];have hw:x.2.D.w.length=x.2.ws.length:=zal _;have hm:(x.1 - 1)* x.2.ws.length<=999 * 1024:=qbc (by omega) h3;simp only[hw]
   rw[zf7 (n:=(x.1:Int) - 1) (by omega) (by omega),show((x.1:Int) - 1)* ((x.2.ws.length:Nat):Int)=(((x.1 - 1)* x.2.ws.length:Nat):Int)from by rw[qaU]; congr 1; omega,zas (by omega),
    show(a:Int)+(((x.1 - 1)* x.2.ws.length:Nat):Int)=((a+(x.1 - 1)* x.2.ws.length:Nat):Int)from by rw[qbM],zas (by omega),
    show ze6 (b:Int) ((x.2.ws.length:Nat):Int)=((max b x.2.ws.length:Nat):Int)from by unfold ze6; split<;>omega]
   exact ztB L u _ _ hu (λz hz=>hb z (qag _ hz)) (by omega)
theorem zhs{kn:Nat->Bool}{k:Nat->Nat}:∀(xs:List Nat) (ps:List (Fc×Nat)),(zic kn k ps xs).length<=xs.length+1
 | [],ps=>qao _
 | x :: xs,ps=>by
  unfold zic;cases kn x || !occ ps x with
  | true=>rw[qdw]; exact Nat.le_succ_of_le (zhs xs ps)
  | false=>rw[qdx]; exact Nat.succ_le_succ (zhs xs _)
theorem zh1{cs:List Nat}(hc:NCs cs){C:Nat}(hC:C * 1024<=zc2){kn:Nat->Bool}:∀(xs:List Nat) (ps:List (Fc×Nat)) (E:List Nat),Est cs C E ps->xs.Nodup->(∀ x∈xs,x ∉ E)->1<=ps.length ->
  ∀ y∈zic kn (λv=>cs.getD v 0) ps xs,1<=y.1/\y.1<=ps.length/\y.2.ws.length<=1024
 | [],ps,E,h,_,_,hp,y,hy=>by
  rw[qaP.1 hy];have hs:=zeI hc h.lok (h.tot hc hC);refine⟨hp,qao _,?_⟩;show(zdg ps).ws.length<=1024;rw[hs.ok.size,hs.cs_];exact(hc.vars hs.ok.inc hs.var).1
 | x :: xs,ps,E,h,hn,hE,hp,y,hy=>by
  obtain⟨n1,n2⟩:=qa7.1 hn;have hE':∀ y∈xs,y ∉ E:=λy hy=>hE y (qag _ hy)
  unfold zic at hy;cases hb:(kn x || !occ ps x)with
  | true=>rw[hb,qdw]at hy; exact zh1 hc hC xs ps E h n2 hE' hp y hy
  | false=>
   rw[hb,qdx]at hy;have ho:occ ps x=true:=by cases h1:occ ps x<;>rw[h1]at hb<;>first | rfl | (cases h2:kn x<;>rw[h2]at hb<;>cases hb)
   obtain⟨s1,s2,s3,s4⟩:=h.step hc hC ho (hE x qam);have hpl:=zov x ps;have hwl:0<(zbz x ps).length:=List.length_pos_iff.2 (zlM.1 ho);rcases qax.1 hy with rfl | hy
   .have hB:bnd (zbz x ps)<=zc2:=qan (zl5 h.lok) (h.tot hc hC);have hs:=zeI hc (h.lok.sub (zeb (x:=x))) hB;refine⟨hwl,by omega,?_⟩;show(zdg (zbz x ps)).ws.length<=1024;rw[hs.ok.size,hs.cs_];exact(hc.vars hs.ok.inc hs.var).1
   have hel:(zfz (λv=>cs.getD v 0) x ps).length=(ze1 x ps).length+1:=by unfold zfz; rw[qaq,qdg]
   obtain⟨g1,g2,g3⟩:=zh1 hc hC xs (zfz (λv=>cs.getD v 0) x ps) (x :: E) s2 n2 (λz hz hm=>by
    rcases qax.1 hm with rfl | hm
    .exact n1 hz
    exact hE' z hz hm) (by omega) y hy
   exact⟨g1,by omega,g3⟩
def zrZ(ns:List NN)(e:List Int)(vs xs:List Nat):List (Nat×Fc):=zic (knE e) (λv=>(ns.map (·.c)).getD v 0) (zej ns e vs) xs
theorem zDd{cs:List Nat}(he:EvOk cs e)(hx:x<cs.length):∃ kx,zaO e (x:Int)=some kx/\knE e x=decide (0<=kx):=by
 have hl:x<e.length:=by rw[he.len]; exact hx
 refine⟨e[x],zbd hl,?_⟩;unfold knE;rw[qai,qac hl];rfl
theorem zww{n:Nat}(hn:n<=8):∃ m:Nat,m<18446744073709551616/\IntKind.u64.wrap (((2 ^ n:Nat):Int) - 1)=(m:Int)/\(List.range n).filter (λv=>m.testBit v)=List.range n:=by
 have h1:1<=2 ^ n:=Nat.one_le_two_pow;have h2:2 ^ n<=2 ^ 8:=qbQ (by decide) hn;refine⟨2 ^ n - 1,by omega,?_,?_⟩
 .rw[show((2 ^ n:Nat):Int) - 1=((2 ^ n - 1:Nat):Int)from by omega];exact zbS (by omega)
 refine List.filter_eq_self.2 λv hv=>?_
 rw[Nat.testBit_two_pow_sub_one];exact qdz (qbn.1 hv)
variable{xs:List Nat}
theorem ztb(h:RightN g ns)(he:EvOk (ns.map (·.c)) e){vs:List Nat}{v:Nat}(hvs:∀ v∈vs,v<ns.length)(hl:vs.length<=8)(ho:OrdOk ns.length v xs)(hxl:xs.length<=8){q:S_eliminate_query}(hq:q.known=e):
  ∃ u,zow q (dL (zej ns e vs)) (iL xs)=some u/\u.map (·.1)=(zrZ ns e vs xs).map λy=>(⟨(y.1:Int),y.2.D⟩:StR):=by
 have hfl:(zej ns e vs).length=vs.length:=qar _;obtain⟨u,u1,u2⟩:=zfo (q:=q) (kn:=knE e) h.ncs c8 xs (zej ns e vs) [] (zjZ h hvs hl) ho.nod (λ_ _ hm=>nomatch hm) (by rw[hfl]; omega) (λx hx=>by rw[hq]; exact zDd he (by simpa using ho.lt x hx));refine⟨u,?_,u2⟩;unfold zow;rw[show zeR (iL xs)=some ()from by unfold zeR; rw[if_pos (by rw[zal]; omega)],qaa];exact u1
theorem zzD(h:RightN g ns)(he:EvOk (ns.map (·.c)) e)(ho:OrdOk ns.length v xs)(hxl:xs.length<=8)(hask:zbL (zb4 g ns) e (v:Int)=some (⟨zb4 g ns,e,(v:Int)⟩,0))(hord:zaQ ⟨zb4 g ns,e,(v:Int)⟩ (iL xs)=some true):
  zco (zb4 g ns) e (v:Int) (iL xs)=some ((((zg0 (zrZ ns e (List.range ns.length) xs) 0 0).1:Nat):Int),(((zg0 (zrZ ns e (List.range ns.length) xs) 0 0).2:Nat):Int),0):=by
 have hn8:=h.n2;have hn1:=h.n1;have hnl:(zb4 g ns).nodes.length=ns.length:=by simp[zb4]
 obtain⟨m,m1,m2,m3⟩:=zww hn8;obtain⟨u,u1,u2⟩:=ztb (v:=v) h he (vs:=List.range ns.length) (λv hv=>qbn.1 hv) (by simpa using hn8) ho hxl (q:=⟨zb4 g ns,e,(v:Int)⟩) rfl;unfold zco;rw[hask,qaa];simp only[show((0:Int)== 0)=true from rfl,qdw];rw[hord,qaa,qdw,hnl,zC9 (by omega),qaa,m2,zCs h rfl rfl he m1,m3,qaa];simp only[show((0:Int)== 0)=true from rfl,qdw];rw[show zdT ⟨zb4 g ns,e,(v:Int)⟩ (dL (zej ns e (List.range ns.length))) (iL xs)=some (⟨zb4 g ns,e,(v:Int)⟩,dL (zej ns e (List.range ns.length)),iL xs)from rfl,qaa];simp only[];rw[u1,qaa];have hb:=zh1 h.ncs c8 (kn:=knE e) xs (zej ns e (List.range ns.length)) [] (zjZ h (λv hv=>qbn.1 hv) (by simpa using hn8)) ho.nod (λ_ _ hm=>nomatch hm) (by unfold zej; rw[qar,qcR]; exact hn1);have hfl:(zej ns e (List.range ns.length)).length=ns.length:=by unfold zej; rw[qar,qcR]
 have hsl:(zrZ ns e (List.range ns.length) xs).length<=xs.length+1:=zhs _ _
 have:=ztB (zrZ ns e (List.range ns.length) xs) u 0 0 u2 (λx hx=>by
  obtain⟨b1,b2,b3⟩:=hb x hx
  exact⟨b1,by omega,b3⟩) (by omega)
 rw[show zba u 0 0=_ from this,qaa]
theorem zw8:u∈(zsO e i f).vs↔u∈f.vs/\¬ (u=i/\knE e i=true):=by
 unfold zsO;cases hk:knE e i with
 | false=>simp
 | true=>
  rw[qdw];cases hp:pos f.vs i with
  | none=>
   have hn:=ziY hp;constructor
   .exact λh=>⟨h,λ⟨a,_⟩=>hn (a ▸ h)⟩
   .exact λh=>h.1
  | some k=>
   show u∈rest f i↔_;unfold rest;rw[qaJ];constructor
   .exact λh=>⟨h.1,λ⟨a,_⟩=>by rw[a,qdB]at h; exact absurd h.2 (by decide)⟩
   exact λh=>⟨h.1,by rw[qdC (λa=>h.2 ⟨a,rfl⟩)]; rfl⟩
theorem zkJ{e:List Int}{u:Nat}:∀(m i:Nat) {f:Fc},u∈(zhY e m i f).vs↔u∈f.vs/\¬ (i<=u/\u<i+m/\knE e u=true)
 | 0,i,f=>by
  show u∈f.vs↔_;constructor
  .exact λh=>⟨h,λ⟨a,b,_⟩=>by omega⟩
  .exact λh=>h.1
 | m+1,i,f=>by
  show u∈(zhY e m (i+1) (zsO e i f)).vs↔_;rw[zkJ m (i+1),zw8];constructor
  .rintro⟨⟨h1,h2⟩,h3⟩;refine⟨h1,λ⟨a,b,c⟩=>?_⟩;by_cases ei:u=i
   .exact h2 ⟨ei,ei ▸ c⟩
   exact h3 ⟨by omega,by omega,c⟩
  rintro⟨h1,h2⟩;exact⟨⟨h1,λ⟨a,c⟩=>h2 ⟨by omega,by omega,a ▸ c⟩⟩,λ⟨a,b,c⟩=>h2 ⟨by omega,by omega,c⟩⟩
theorem zqX(h:RightN g ns):u∈(zCO ns e v).vs↔(u=v\/u∈(ns.getD v zsK).ps)/\¬ (u<ns.length/\knE e u=true):=by
 unfold zCO;rw[zkJ,show(zht (ns.map (·.c)) v (ns.getD v zsK)).vs=fam (ns.getD v zsK).ps v from rfl,zmw];constructor
 .exact λ⟨a,b⟩=>⟨a,λ⟨c,d⟩=>b ⟨qaz _,by omega,d⟩⟩
 exact λ⟨a,b⟩=>⟨a,λ⟨_,c,d⟩=>b ⟨by omega,d⟩⟩
structure KnOk (k:S_haruspexref05_Known):Prop where
 v:∀ x∈[k.v.a0,k.v.a1,k.v.a2,k.v.a3,k.v.a4,k.v.a5,k.v.a6,k.v.a7],0<=x/\x<=255
theorem zvo{ns:List NN}{g:Nat}{k:S_haruspexref05_Known}(hk:KnOk k)(hn:ns.length<=8)(hc:∀ x∈ns,1<=x.c):∀(n i:Nat) (acc:List Int),i<=ns.length->acc.length=i->(∀ v,v<i -> -1<=acc.getD v (-1)/\acc.getD v (-1)<((ns.map (·.c)).getD v 0:Nat))->ns.length - i<n ->
  ∃ out,zb9 (zb4 g ns) k n (i:Int) acc=some out/\EvOk (ns.map (·.c)) out
 | 0,_,_,_,_,_,h=>absurd h (qat _)
 | n+1,i,acc,h1,h2,h4,h3=>by
  unfold zb9;have hnl:(zb4 g ns).nodes.length=ns.length:=by simp[zb4]
  rw[hnl,zaH];by_cases hi:i<ns.length
  .obtain⟨q,hq⟩:=zFR (a:=k.which) (v:=i);rw[qdz hi,qdw,zD6 (by omega),hq,qaa];have key:∃ y:Int,((bif ((zkX .u8 q 1)== 1)then((zaO [k.v.a0,k.v.a1,k.v.a2,k.v.a3,k.v.a4,k.v.a5,k.v.a6,k.v.a7] (i:Int)).bind λx5=>(zaO (zb4 g ns).nodes (i:Int)).bind λx7=>(zqt (w64 x5) x7.zaC).bind λq9=>some q9)else some (-1)):Option Int)=some y/\-1<=y/\y<((ns.map (·.c)).getD i 0:Nat):=by
    have hcx:=hc _ (qau hi);have hci:(ns.map (·.c)).getD i 0=ns[i].c:=by rw[qai,qa5,qac hi]; rfl
    rw[hci];cases(zkX .u8 q 1)== 1 with
    | false=>exact⟨-1,rfl,by omega,by omega⟩
    | true=>
     obtain⟨x5,h5,h6⟩:∃ x,zaO [k.v.a0,k.v.a1,k.v.a2,k.v.a3,k.v.a4,k.v.a5,k.v.a6,k.v.a7] (i:Int)=some x/\0<=x/\x<=255:=⟨_,zbd (by simp; omega),hk.v _ (qau _)⟩;refine⟨(w64 x5).tmod ((ns[i].c:Nat):Int),?_,?_,?_⟩
     .rw[qdw,h5,qaa,show zaO (zb4 g ns).nodes (i:Int)=some (nd ns[i])from zcO hi,qaa,show(nd ns[i]).zaC=((ns[i].c:Nat):Int)from rfl];unfold zqt;rw[show((((ns[i].c:Nat):Int))== 0)=false by rw[qdD]; omega,qdx,qaa]
     .rw[zf7 (by omega) (by omega)];have:=Int.tmod_nonneg ((ns[i].c:Nat):Int) h6.1;omega
     rw[zf7 (by omega) (by omega)];exact Int.tmod_lt_of_pos _ (by omega)
   obtain⟨y,hy,y1,y2⟩:=key
   obtain⟨out,ho,ho2⟩:=zvo (g:=g) (k:=k) hk hn hc n (i+1) (acc ++ [y]) hi (by simp; omega) (λv hv=>by
    rw[qai];by_cases hvi:v<i
    .rw[qak (by omega),<- qai]; exact h4 v hvi
    have:v=i:=by omega
    subst this;rw[qas (by omega),h2,qcr]
    exact⟨y1,y2⟩) (by omega)
   refine⟨out,?_,ho2⟩;rw[hy,qaa,zcv (by simp; omega),qaa,zak (by omega),ho]
  have:i=ns.length:=by omega
  subst this;exact⟨acc,by rw[qdy hi,qdx],⟨by rw[h2,qar],λv hv=>(h4 v (by rwa [qar]at hv)).1,λv hv=>(h4 v (by rwa [qar]at hv)).2⟩⟩
theorem zwV{ns:List NN}{k:S_haruspexref05_Known}(hk:KnOk k)(hn:ns.length<=8)(hc:∀ x∈ns,1<=x.c):∃ out,zbW k (zb4 g ns)=some out/\EvOk (ns.map (·.c)) out:=by
 obtain⟨out,e,e2⟩:=zvo (g:=g) (k:=k) hk hn hc (ns.length+2) 0 [] (qaz _) rfl (λv hv=>absurd hv (qat _)) (by omega);refine⟨out,?_,e2⟩;rw[show((0:Nat):Int)=0 from rfl]at e;unfold zbW;rw[show(zb4 g ns).nodes.length=ns.length by simp[zb4],zaI,e,qaa]
structure AskOk (a:S_haruspexlaw09_Ask):Prop where
 k:KnOk a.known
 l:∀ x∈[a.l.a0,a.l.a1,a.l.a2,a.l.a3,a.l.a4,a.l.a5,a.l.a6,a.l.a7],0<=x/\x<=255
theorem zAR{α:Type}{xs:List α}{P:α->Prop}(h:i<xs.length)(hp:∀ x∈xs,P x):∃ x,zaO xs (i:Int)=some x/\P x:=⟨xs[i],zbd h,hp _ (qau h)⟩
theorem zlR{m v:Nat}{l:A8_Intu8}(hl:∀ x∈[l.a0,l.a1,l.a2,l.a3,l.a4,l.a5,l.a6,l.a7],0<=x/\x<=255)(hm:m<=8):∀(n i:Nat) (xs:List Nat),OrdOk i v xs->(xs.length+if v<i then 1 else 0)=i->i<=m->m - i<n ->
  ∃ zs:List Nat,zcf (m:Int) (v:Int) l n (iL xs) (i:Int)=some (iL zs)/\OrdOk m v zs/\(zs.length+if v<m then 1 else 0)=m
 | 0,_,_,_,_,_,h=>absurd h (qat _)
 | n+1,i,xs,ho,hx,hi,hf=>by
  unfold zcf;rw[zaH];by_cases hlt:i<m
  .rw[qdz hlt,qdw];by_cases hv:i=v
   .subst hv;rw[qdB,qdw,qaa,zak (by omega)]
    exact zlR hl hm n (i+1) xs ⟨ho.nod,λx h=>qcy (ho.lt x h),ho.ne⟩ (by
     rw[if_neg (qb3 _)]at hx;rw[if_pos (qbC _)]
     omega) hlt (by omega)
   have hxl:xs.length<=i:=by omega
   obtain⟨x3,e3,b3⟩:=zAR (xs:=[l.a0,l.a1,l.a2,l.a3,l.a4,l.a5,l.a6,l.a7]) (i:=i) (P:=λx=>0<=x/\x<=255) (by simp; omega) hl;obtain⟨y,rfl⟩:∃ y:Nat,x3=(y:Int):=⟨x3.toNat,by omega⟩;obtain⟨q,hq⟩:∃ q,y % (xs.length+1)=q:=⟨_,rfl⟩;have hql:q<=xs.length:=by have:=qbp y (Nat.succ_pos xs.length); rw[show xs.length.succ=xs.length+1 from rfl,hq]at this; omega
   have hp:List.Perm (xs.take q ++ i :: xs.drop q) (i :: xs):=by
    refine List.perm_middle.trans ?_;rw[qbV]
   have hy255:y<=255:=by omega
   obtain⟨zs,g1,g2,g3⟩:=zlR hl hm n (i+1) (xs.take q ++ i :: xs.drop q) ⟨hp.nodup_iff.2 (qa7.2 ⟨λh=>qb3 _ (ho.lt _ h),ho.nod⟩),
    λx h=>by
     rcases qax.1 (hp.mem_iff.1 h)with rfl | h
     .exact qbC _
     exact qcy (ho.lt _ h),
    λx h=>by
     rcases qax.1 (hp.mem_iff.1 h)with rfl | h
     .exact hv
     exact ho.ne _ h⟩ (by
    rw[hp.length_eq,qay];by_cases hvi:v<i
    .rw[if_pos hvi]at hx; rw[if_pos (by omega)]; omega
    rw[if_neg hvi]at hx; rw[if_neg (by omega)]; omega) hlt (by omega)
   refine⟨zs,?_,g2,g3⟩
   rw[show((i:Int)==(v:Int))=false from by rw[qdD]; omega,qdx,show((i:Int)).tmod 8=(i:Int)from by
     rw[show(8:Int)=((8:Nat):Int)from rfl,zwJ,qbe (by omega)],e3,qaa,zal,zas (by omega),zak (by omega),zjg (by omega),qaa,hq,
    show(0:Int)=((0:Nat):Int)from rfl,zhV (qaz _) (by rw[zal]; omega),qaa,zgv (by simp[zal]; omega),qaa,
    zcv (by simp[zal]; omega),qaa,zhV hql (by rw[zal]; exact qao _),qaa,zcv (by simp[zal]; omega),qaa,qaa,zak (by omega),<- g1]
   congr 1
   simp[iL,qaS]
  have hie:i=m:=by omega
  subst hie;rw[qdy hlt,qdx];exact⟨xs,rfl,ho,hx⟩
theorem zxq{l:A8_Intu8}(hl:∀ x∈[l.a0,l.a1,l.a2,l.a3,l.a4,l.a5,l.a6,l.a7],0<=x/\x<=255)(hm:m<=8)(hv:v<m):
  ∃ zs:List Nat,zcG (m:Int) (v:Int) l=some (iL zs)/\OrdOk m v zs/\zs.length=m - 1:=by
 obtain⟨zs,g1,g2,g3⟩:=zlR (v:=v) hl hm (m+2) 0 [] ⟨.nil,(λ_ h=>nomatch h),(λ_ h=>nomatch h)⟩ rfl (qaz _) (by omega);rw[if_pos hv]at g3;refine⟨zs,?_,g2,by omega⟩;unfold zcG;rw[zaI,show zcf (m:Int) (v:Int) l (m+2) [] 0=some (iL zs)from g1,qaa]
theorem zuU(x:Int):∃ n:Nat,IntKind.u64.wrap x=(n:Int):=by
 have h:0<=IntKind.u64.wrap x:=by
  simp only[IntKind.wrap,IntKind.bits,IntKind.signed];simp;omega
 exact⟨(IntKind.u64.wrap x).toNat,by omega⟩
variable{a:S_haruspexlaw09_Ask}
theorem zBY(h1:1<=m)(hm:m<=8):∃ v:Nat,v<m/\zb0 a (m:Int)=some (v:Int):=by
 obtain⟨n,hn⟩:=zuU a.v;have hlt:=qbp n (show 0<m by omega);refine⟨n % m,hlt,?_⟩;unfold zb0;rw[hn,show ze6 (m:Int) 1=(m:Int)from by unfold ze6; split<;>omega,zbS (by omega),zjg (by omega),qaa,zas (by omega)]
theorem zzF(ha:AskOk a)(h:RightN g ns):
  ∃(v:Nat) (e:List Int) (xs:List Nat) (r:A4_S_haruspexlaw09_Ask),zf9 a (zb4 g ns)=some r/\v<ns.length/\EvOk (ns.map (·.c)) e/\OrdOk ns.length v xs/\xs.length=ns.length - 1 /\
   zb0 a (ns.length:Int)=some (v:Int)/\zbW a.known (zb4 g ns)=some e/\zcG (ns.length:Int) (v:Int) a.l=some (iL xs)/\
   ∀ x∈[r.a0,r.a1,r.a2,r.a3],x.order.length<=10:=by
 have hn8:=h.n2;have hn1:=h.n1;have hnl:(zb4 g ns).nodes.length=ns.length:=by simp[zb4]
 obtain⟨v,v1,v2⟩:=zBY (a:=a) hn1 hn8;obtain⟨e,e1,e2⟩:=zwV (g:=g) ha.k hn8 λx hx=>(h.zaC x hx).1
 obtain⟨xs,x1,x2,x3⟩:=zxq (l:=a.l) ha.l hn8 v1;obtain⟨y5,y51,y52,_⟩:=znn (xs:=a.e) (k:=10);obtain⟨y7,y71,y72,_⟩:=znn (xs:=a.order) (k:=10);rw[show((10:Nat):Int)=10 from rfl]at y51 y71;have hxl:(iL xs).length<=10:=by rw[zal]; omega
 refine⟨v,e,xs,_,by unfold zf9; rw[e1,qaa,hnl,v2,qaa,y51,qaa,y71,qaa,x1,qaa],v1,e2,x2,x3,v2,e1,x1,λx hx=>?_⟩;simp only[qax,qbO,or_false]at hx;rcases hx with rfl | rfl | rfl | rfl
 .exact hxl
 .exact hxl
 .exact hxl
 exact y72
end Go.Dc
namespace Go.Proofs.YtbjogdohfhdaiaaGreat.S
open Go Go.Mx Go.Lx Go.Dc Go.ChangeShapes Go.WideShapes Go.ChangeAt Go.RowKit
theorem zx5:Dec zjx [.int .u8,.int .u8,.int .u8,.int .u8,.int .u8,.int .u8,.int .u8,.int .u8] (λx=>okI .u8 x.a0/\okI .u8 x.a1/\okI .u8 x.a2/\okI .u8 x.a3/\okI .u8 x.a4/\okI .u8 x.a5/\okI .u8 x.a6/\okI .u8 x.a7):=
 Dec.iso (Dec.pair (Dec.int .u8) (Dec.pair (Dec.int .u8) (Dec.pair (Dec.int .u8) (Dec.pair (Dec.int .u8) (Dec.pair (Dec.int .u8) (Dec.pair (Dec.int .u8) (Dec.pair (Dec.int .u8) (Dec.int .u8))))))))
  (λx:A8_Intu8=>(x.a0,x.a1,x.a2,x.a3,x.a4,x.a5,x.a6,x.a7)) (λa=>⟨a.1,a.2.1,a.2.2.1,a.2.2.2.1,a.2.2.2.2.1,a.2.2.2.2.2.1,a.2.2.2.2.2.2.1,a.2.2.2.2.2.2.2⟩) (λ_=>rfl)
theorem zuS:Dec zdG [.int .u8,.int .u8,.int .u8,.int .u8,.int .u8,.int .u8,.int .u8,.int .u8,.int .u8]
  (λx=>okI .u8 x.which/\okI .u8 x.v.a0/\okI .u8 x.v.a1/\okI .u8 x.v.a2/\okI .u8 x.v.a3/\okI .u8 x.v.a4/\okI .u8 x.v.a5/\okI .u8 x.v.a6/\okI .u8 x.v.a7):=
 Dec.iso (Dec.pair (Dec.int .u8) zx5) (λx:S_haruspexref05_Known=>(x.which,x.v)) (λa=>⟨a.1,a.2⟩) (λ_=>rfl)
theorem zzQ:Dec zen [.int .u8,.int .u8,.int .u8,.int .u8,.int .u8,.int .u8,.int .u8,.int .u8,.int .u8,.int .i64,.int .u8,.int .u8,.int .u8,.int .u8,.int .u8,.int .u8,.int .u8,.int .u8,.sl [.int .i64],.sl [.int .i64]]
  (λx=>(okI .u8 x.known.which/\okI .u8 x.known.v.a0/\okI .u8 x.known.v.a1/\okI .u8 x.known.v.a2/\okI .u8 x.known.v.a3/\okI .u8 x.known.v.a4/\okI .u8 x.known.v.a5/\okI .u8 x.known.v.a6/\okI .u8 x.known.v.a7)/\okI .i64 x.v /\
   (okI .u8 x.l.a0/\okI .u8 x.l.a1/\okI .u8 x.l.a2/\okI .u8 x.l.a3/\okI .u8 x.l.a4/\okI .u8 x.l.a5/\okI .u8 x.l.a6/\okI .u8 x.l.a7)/\okL (okI .i64) x.e/\okL (okI .i64) x.order):=
 Dec.iso (Dec.pair zuS (Dec.pair (Dec.int .i64) (Dec.pair zx5 (Dec.pair (Dec.list (Dec.int .i64)) (Dec.list (Dec.int .i64))))))
  (λx:S_haruspexlaw09_Ask=>(x.known,x.v,x.l,x.e,x.order)) (λa=>⟨a.1,a.2.1,a.2.2.1,a.2.2.2.1,a.2.2.2.2⟩) (λ_=>rfl)
theorem zvL:zeN Tryz.prog 8 33=some [.int .u8,.int .u8,.int .u8,.int .u8,.int .u8,.int .u8,.int .u8,.int .u8,.int .u8,.int .i64,.int .u8,.int .u8,.int .u8,.int .u8,.int .u8,.int .u8,.int .u8,.int .u8,.sl [.int .i64],.sl [.int .i64]]:=by kernel_rfl
theorem zC0:zwa Tryz.prog 33=true:=by kernel_rfl
theorem zA0:Tryz.prog.readableRec 33=true:=by kernel_rfl
theorem zCo{d:D}(h:ShA Tryz.prog 8 33 d):∃ x:S_haruspexlaw09_Ask,AskOk x/\d=.agg (zen.c false x):=by
 obtain⟨x,⟨⟨_,k0,k1,k2,k3,k4,k5,k6,k7⟩,_,⟨l0,l1,l2,l3,l4,l5,l6,l7⟩,_⟩,h2⟩:=zzQ.agg zC0 zvL h;refine⟨x,⟨⟨λy hy=>?_⟩,λy hy=>?_⟩,h2⟩
 .simp only[qax,qbO,or_false]at hy;rcases hy with rfl | rfl | rfl | rfl | rfl | rfl | rfl | rfl<;>exact zkH (by assumption)
 simp only[qax,qbO,or_false]at hy;rcases hy with rfl | rfl | rfl | rfl | rfl | rfl | rfl | rfl<;>exact zkH (by assumption)
end Go.Proofs.YtbjogdohfhdaiaaGreat.S
namespace Go.Dc
open Go Go.Mx Go.Lx
variable{g:Nat}{ns:List NN}{e:List Int}
theorem zxC(h:RightN g ns){L:List Nat}{x:Nat}(hx:x<ns.length):occ (zej ns e L) x=true↔(∃ a∈L,x=a\/x∈(ns.getD a zsK).ps)/\knE e x=false:=by
 rw[zg6];constructor
 .rintro⟨p,hp,hxp⟩;obtain⟨a,ha,rfl⟩:=qaE.1 hp;obtain⟨h1,h2⟩:=(zqX h).1 hxp;refine⟨⟨a,ha,h1⟩,?_⟩;cases hk:knE e x with
  | false=>rfl
  | true=>exact absurd ⟨hx,hk⟩ h2
 rintro⟨⟨a,ha,h1⟩,h2⟩;exact⟨_,qaE.2 ⟨a,ha,rfl⟩,(zqX h).2 ⟨h1,λh3=>by rw[h2]at h3; exact absurd h3.2 (by decide)⟩⟩
theorem zn8{g:Nat}{ns:List NN}{e:List Int}(he:EvOk (ns.map (·.c)) e)(hn:ns.length<=8):∀(n i:Nat),i<=ns.length->ns.length - i<n->zbv e (zb4 g ns) n (i:Int)=some (.go ())
 | 0,_,_,h=>absurd h (qat _)
 | n+1,i,hi,hf=>by
  have hel:e.length=ns.length:=by rw[he.len,qar]
  unfold zbv;rw[zaH];by_cases hlt:i<ns.length
  .have hie:i<e.length:=by omega
   have hx:e[i]=e.getD i (-1):=by rw[qai,qac hie]; rfl
   have hcc:(ns.map (·.c)).getD i 0=ns[i].c:=by rw[qai,qa5,qac hlt]; rfl
   have h1:=he.lo i (by rw[qar]; exact hlt);have h2:=he.hi i (by rw[qar]; exact hlt);rw[hcc]at h2
   rw[qdz hie,qdw,zbd hie,qaa,hx,show decide (e.getD i (-1)< -1)=false from qdy (by omega),qdx,show zaO (zb4 g ns).nodes (i:Int)=some (nd ns[i])from zcO hlt,qaa,show(nd ns[i]).zaC=((ns[i].c:Nat):Int)from rfl,
    show decide (((ns[i].c:Nat):Int)<=e.getD i (-1))=false from qdy (by omega),qaa,qdx,zak (by omega)]
   exact zn8 he hn n (i+1) hlt (by omega)
  rw[qdy (by omega),qdx]
theorem zAv(h:RightN g ns)(he:EvOk (ns.map (·.c)) e):zbs (zb4 g ns) e=some 0:=by
 have hel:e.length=ns.length:=by rw[he.len,qar]
 have hnl:(zb4 g ns).nodes.length=ns.length:=by simp[zb4]
 have hE:zdY (zb4 g ns) e=some true:=by
  unfold zdY;rw[hnl,hel,qdB,qdw,zaI,show zbv e (zb4 g ns) (ns.length+2) 0=some (.go ())from zn8 he h.n2 (ns.length+2) 0 (qaz _) (by omega),qaa]
 obtain⟨b,e1,e2⟩:=zy9 h e;rw[hE]at e1;cases e1;exact e2
theorem zli{n v:Nat}{q:S_eliminate_query}{xs:List Nat}(hq:q.net.nodes.length=n)(hn:n<=8)(hv:v<n)(ho:OrdOk n v xs)(hxl:xs.length<=8):∀(m i M:Nat),i<=xs.length->xs.length - i<m->M<18446744073709551616->(∀ j,M.testBit j=(decide (j∈xs.take i)|| decide (v=j)))->
  zaA (iL xs) q m (M:Int) (i:Int)=some (.go ())
 | 0,_,_,_,h,_,_=>absurd h (qat _)
 | m+1,i,M,hi,hf,hM,hb=>by
  unfold zaA;rw[zal,zaH,hq];by_cases hlt:i<xs.length
  .obtain⟨x,hx⟩:∃ x,xs[i]=x:=⟨_,rfl⟩;have hxm:x∈xs:=hx ▸ qau hlt;have h1:=ho.lt x hxm;have h2:=ho.ne x hxm;have hp:2 ^ x<18446744073709551616:=(qbX (by decide) (show x<64 by omega):2 ^ x<2 ^ 64);have htk:xs.take (i+1)=xs.take i ++ [x]:=by rw[List.take_add_one,qac hlt,hx]; rfl
   have hnot:x ∉ xs.take i:=λhm=>by
    have hd:=ho.nod;rw[<- qbV (i+1) xs,htk]at hd;exact(List.nodup_append.1 (List.nodup_append.1 hd).1).2.2 x hm x (qaP.2 rfl) rfl
   obtain⟨q9,s1,s2⟩:=zEx hM (v:=x) (by omega);rw[qdz hlt,qdw,zbf hlt,hx,qaa,show decide (((x:Nat):Int)<0)=false from qdy (by omega),qdx,show decide (((n:Nat):Int)<=((x:Nat):Int))=false from qdy (by omega),qdx,s1,qaa,s2,hb,qdy hnot,show decide (v=x)=false from qdy (λe=>h2 e.symm)];rw[show((((false || false:Bool).toNat:Nat):Int)== 1)=false from rfl];simp only[qaa,qdx];rw[zC9 (by omega),qaa,orU hM hp,zak (by omega)];refine zli hq hn hv ho hxl m (i+1) (M ||| 2 ^ x) hlt (by omega) (zDB hM (by omega)) λj=>?_
   rw[zCB,hb,htk,qdr];simp only[qbI,decide_eq_true_eq,qbr,qaP];constructor
   .rintro((a | a)| a)
    .exact .inl (.inl a)
    .exact .inr a
    exact .inl (.inr a.symm)
   rintro((a | a)| a)
   .exact .inl (.inl a)
   .exact .inr a.symm
   exact .inl (.inr a)
  rw[qdy hlt,qdx]
theorem zBU(h:RightN g ns)(he:EvOk (ns.map (·.c)) e){v:Nat}(hv:v<ns.length):zbL (zb4 g ns) e (v:Int)=some (⟨zb4 g ns,e,(v:Int)⟩,0):=by
 have hnl:(zb4 g ns).nodes.length=ns.length:=by simp[zb4]
 unfold zbL;rw[zAv h he,qaa,show((0:Int)== 0)=true from rfl,qdw,show decide (((v:Nat):Int)<0)=false from qdy (by omega),qdx,hnl,show decide (((ns.length:Nat):Int)<=((v:Nat):Int))=false from qdy (by omega),qaa,qdx]
theorem zus(h:RightN g ns)(he:EvOk (ns.map (·.c)) e){v:Nat}(hv:v<ns.length){xs:List Nat}(ho:OrdOk ns.length v xs)(hxl:xs.length=ns.length - 1):
  zbL (zb4 g ns) e (v:Int)=some (⟨zb4 g ns,e,(v:Int)⟩,0)/\zaQ ⟨zb4 g ns,e,(v:Int)⟩ (iL xs)=some true:=by
 have hn8:=h.n2;have hnl:(zb4 g ns).nodes.length=ns.length:=by simp[zb4]
 refine⟨zBU h he hv,?_⟩;unfold zaQ;have hp:2 ^ v<18446744073709551616:=(qbX (by decide) (show v<64 by omega):2 ^ v<2 ^ 64);simp only[hnl]
 rw[zal,zf7 (n:=((ns.length:Nat):Int) - 1) (by omega) (by omega),show(((xs.length:Nat):Int)==((ns.length:Nat):Int) - 1)=true from by rw[qdA]; omega,qdw,zC9 (by omega),qaa,zaI,
  show zaA (iL xs) ⟨zb4 g ns,e,(v:Int)⟩ (xs.length+2) ((2 ^ v:Nat):Int) 0=some (.go ())from zli (by exact hnl) hn8 hv ho (by omega) (xs.length+2) 0 (2 ^ v) (qaz _) (by omega) hp (λj=>by simp[Nat.testBit_two_pow]),qaa]
theorem zrv:∀(L:List (Nat×Fc)) (a b:Nat),b<=(zg0 L a b).2/\∀ x∈L,x.2.ws.length<=(zg0 L a b).2
 | [],a,b=>⟨qao _,λ_ h=>nomatch h⟩
 | x :: L,a,b=>by
  obtain⟨h1,h2⟩:=zrv L (a+(x.1 - 1)* x.2.ws.length) (max b x.2.ws.length);have e:zg0 (x :: L) a b=zg0 L (a+(x.1 - 1)* x.2.ws.length) (max b x.2.ws.length):=rfl;rw[e];refine⟨qan (Nat.le_max_left _ _) h1,λy hy=>?_⟩;rcases qax.1 hy with rfl | hy
  .exact qan (Nat.le_max_right _ _) h1
  exact h2 y hy
theorem zqk{m W:Nat}:∀(L:List (Nat×Fc)) (a b:Nat),b<=W->(∀ x∈L,x.1<=m/\x.2.ws.length<=W)->(zg0 L a b).2<=W/\(zg0 L a b).1<=a+L.length * (m * W)
 | [],a,b,hb,_=>⟨hb,qcG _ _⟩
 | x :: L,a,b,hb,h=>by
  obtain⟨k1,k2⟩:=h x qam;obtain⟨h1,h2⟩:=zqk (m:=m) (W:=W) L (a+(x.1 - 1)* x.2.ws.length) (max b x.2.ws.length) (Nat.max_le.2 ⟨hb,k2⟩) λy hy=>h y (qag _ hy)
  have e:zg0 (x :: L) a b=zg0 L (a+(x.1 - 1)* x.2.ws.length) (max b x.2.ws.length):=rfl;have h3:(x.1 - 1)* x.2.ws.length<=m * W:=qbc (by omega) k2;rw[e,qay,qbY];exact⟨h1,by omega⟩
theorem zia{cs:List Nat}(hc:NCs cs){C:Nat}(hC:C * 1024<=zc2){kn:Nat->Bool}:∀(xs:List Nat) (ps:List (Fc×Nat)) (E:List Nat),Est cs C E ps->xs.Nodup->(∀ x∈xs,x ∉ E)->
  (∀ y∈zic kn (λv=>cs.getD v 0) ps xs,1<=y.2.ws.length/\y.2.ws.length<=zab cs)/\∃ y∈zic kn (λv=>cs.getD v 0) ps xs,y.2=zdg (zkq kn (λv=>cs.getD v 0) ps xs)
 | [],ps,E,h,_,_=>by
  refine⟨λy hy=>?_,_,qaP.2 rfl,rfl⟩;rw[qaP.1 hy];have hs:=zeI hc h.lok (h.tot hc hC);show 1<=(zdg ps).ws.length/\(zdg ps).ws.length<=zab cs;rw[hs.ok.size];refine⟨zcQ λc hc'=>(hs.ok.zaC c hc').1,?_⟩;rw[hs.cs_];exact zhB (λc hc'=>(hc.zaC c hc').1) hs.ok.inc hs.var
 | x :: xs,ps,E,h,hn,hE=>by
  obtain⟨n1,n2⟩:=qa7.1 hn;have hE':∀ y∈xs,y ∉ E:=λy hy=>hE y (qag _ hy)
  unfold zic zkq;cases hb:(kn x || !occ ps x)with
  | true=>exact zia hc hC xs ps E h n2 hE'
  | false=>
   rw[qdx,qdx];have ho:occ ps x=true:=by cases h1:occ ps x<;>rw[h1]at hb<;>first | rfl | (cases h2:kn x<;>rw[h2]at hb<;>cases hb)
   obtain⟨s1,s2,s3,s4⟩:=h.step hc hC ho (hE x qam);obtain⟨g1,z,g2,g3⟩:=zia hc hC (kn:=kn) xs (zfz (λv=>cs.getD v 0) x ps) (x :: E) s2 n2 λy hy hm=>by
    rcases qax.1 hm with rfl | hm
    .exact n1 hy
    exact hE' y hy hm
   refine⟨λy hy=>?_,z,qag _ g2,g3⟩;rcases qax.1 hy with rfl | hy
   .have hB:bnd (zbz x ps)<=zc2:=qan (zl5 h.lok) (h.tot hc hC);have hs:=zeI hc (h.lok.sub (zeb (x:=x))) hB;show 1<=(zdg (zbz x ps)).ws.length/\(zdg (zbz x ps)).ws.length<=zab cs;rw[hs.ok.size];refine⟨zcQ λc hc'=>(hs.ok.zaC c hc').1,?_⟩;rw[hs.cs_];exact zhB (λc hc'=>(hc.zaC c hc').1) hs.ok.inc hs.var
   exact g1 y hy
theorem zwq{cs:List Nat}(h:∀ c∈cs,1<=c):∀ {c:Nat},c∈cs->c<=zab cs:=by
 induction cs with
 | nil=>exact λh=>nomatch h
 | cons d cs ih=>
  intro c hc;have h1:1<=zab cs:=zcQ λx hx=>h x (qag _ hx)
  have h2:=h d qam;show c<=d * zab cs;rcases qax.1 hc with rfl | hc
  .exact qaO _ h1
  exact qan (ih (λx hx=>h x (qag _ hx)) hc) (qcj _ h2)
theorem zok{dr:DraftN}{a:S_haruspexlaw09_Ask}(hd:DraftOk dr)(ha:AskOk a):zbR 1100 (zdm dr) a=some true:=by
 obtain⟨num,ns,hok,_,e2⟩:=zwv hd (N:=1100) (by decide);have h:=hok.right;obtain⟨v,e,xs,r11,_,hv,he,ho,hxl,a1,a2,a3,_⟩:=zzF ha h;have hn8:=h.n2;have hn1:=h.n1;have hnl:(zb4 (1+dr.grain % 60) ns).nodes.length=ns.length:=by simp[zb4]
 rw[show(⟨((1+dr.grain % 60:Nat):Int),ns.map nd⟩:S_api_Net)=zb4 (1+dr.grain % 60) ns from rfl]at e2;have hx8:xs.length<=8:=by omega
 have hasks:=zus h he hv ho hxl;obtain⟨q1,q2⟩:=hasks;have hcost:=zzD h he ho hx8 q1 q2;obtain⟨L,hL⟩:∃ L,L=zrZ ns e (List.range ns.length) xs:=⟨_,rfl⟩;rw[<- hL]at hcost;have hest:=zjZ h (e:=e) (vs:=List.range ns.length) (λv hv=>qbn.1 hv) (by simpa using hn8);have hfl:(zej ns e (List.range ns.length)).length=ns.length:=by unfold zej; rw[qar,qcR]
 obtain⟨b1,y,b2,b3⟩:=zia h.ncs c8 (kn:=knE e) xs (zej ns e (List.range ns.length)) [] hest ho.nod (λ_ _ hm=>nomatch hm);have hb:=zh1 h.ncs c8 (kn:=knE e) xs (zej ns e (List.range ns.length)) [] hest ho.nod (λ_ _ hm=>nomatch hm) (by omega);have hLl:L.length<=ns.length:=by
  have:L.length<=xs.length+1:=by rw[hL]; exact zhs _ _
  omega
 obtain⟨W,hW⟩:∃ W,W=zab (ns.map (·.c)):=⟨_,rfl⟩;have hW1024:W<=1024:=by rw[hW]; exact h.prod
 obtain⟨g1,g2⟩:=zqk (m:=ns.length) (W:=W) L 0 0 (qaz _) (λx hx=>by
  rw[hL]at hx;refine⟨by have:=(hb x hx).2.1; omega,?_⟩
  rw[hW]; exact(b1 x hx).2)
 obtain⟨_,g3⟩:=zrv L 0 0;have hyL:y∈L:=by rw[hL]; exact b2
 have hy1:=g3 y hyL;have hy2:=(b1 y b2).1;obtain⟨p,hp⟩:∃ p,p=(zg0 L 0 0).1:=⟨_,rfl⟩;obtain⟨t,ht⟩:∃ t,t=(zg0 L 0 0).2:=⟨_,rfl⟩;rw[<- hp,<- ht]at hcost;rw[<- ht]at hy1 g1;rw[<- hp,qaR]at g2;have hp1:p<=ns.length * ns.length * W:=by
  rw[qa6];exact qan g2 (qav _ hLl)
 have hnn:ns.length * ns.length<=64:=qbc hn8 hn8;have hnW:ns.length * ns.length * W<=64 * 1024:=qbc hnn hW1024;have hvl:v<e.length:=by rw[he.len,qar]; exact hv
 have hxe:e[v]=e.getD v (-1):=by rw[qai,qac hvl]; rfl
 have hcv:knE e v=false->(ns.map (·.c)).getD v 0<=t:=λhk=>by
  refine qan ?_ hy1;have hE:=zmO h.ncs c8 (kn:=knE e) xs (zej ns e (List.range ns.length)) [] hest ho.nod (λ_ _ hm=>nomatch hm);obtain⟨⟨E',k1⟩,_,k3⟩:=hE;have hocc:occ (zkq (knE e) (λv=>(ns.map (·.c)).getD v 0) (zej ns e (List.range ns.length)) xs) v=true:=by
   rw[k3,(zxC h hv).2 ⟨⟨v,qbn.2 hv,.inl rfl⟩,hk⟩,qdy (λhm=>ho.ne v hm rfl)];rfl
  have hs:=zeI h.ncs k1.lok (k1.tot h.ncs c8);have hvm:=(zhZ h.ncs k1.lok (k1.tot h.ncs c8)).2 (zg6.1 hocc);rw[b3,hs.ok.size,hs.cs_];refine zwq (λc hc=>?_) (qaE.2 ⟨v,hvm,rfl⟩);rw[<- hs.cs_]at hc;exact(hs.ok.zaC c hc).1
 have hcc:(ns.map (·.c)).getD v 0=ns[v].c:=by rw[qai,qa5,qac hv]; rfl
 unfold zbR;rw[zy8,qaa,qdw,e2,qaa,a2,qaa,hnl,a1,qaa,a3,qaa,hcost,qaa,zsX h,qaa];simp only[show((0:Int)== 0)=true from rfl,qdw];rw[<- hW,show decide (((p:Nat):Int)<0)=false from qdy (by omega),qdx,show decide (((t:Nat):Int)<1)=false from qdy (by omega),qdx,show decide (((W:Nat):Int)<((t:Nat):Int))=false from qdy (by omega),qdx,zbd hvl,qaa,hxe];have hlast:((bif decide (e.getD v (-1)<0)then((zaO (zb4 (1+dr.grain % 60) ns).nodes (v:Int)).bind λx24=>some (decide ((t:Int)<x24.zaC)))else some false:Option Bool))=some false:=by
  cases hk:knE e v with
  | true=>
   have:=of_decide_eq_true hk;rw[qdy (by omega),qdx]
  | false=>
   have h1:=qdF hk;have h2:=hcv hk;rw[hcc]at h2;rw[qdz (by omega),qdw,show zaO (zb4 (1+dr.grain % 60) ns).nodes (v:Int)=some (nd ns[v])from zcO hv,qaa,show(nd ns[v]).zaC=((ns[v].c:Nat):Int)from rfl,qdy (by omega)]
 rw[hlast,qaa,qdx,<- qaU,zas (by omega),<- qaU,zas (by omega),show decide (((p:Nat):Int)<=((ns.length * ns.length * W:Nat):Int))=true from qdz (by omega),qdw];by_cases hone:1<ns.length
 .rw[show decide ((1:Int)<((ns.length:Nat):Int))=true from qdz (by omega),qdw,qaa]
 rw[show decide ((1:Int)<((ns.length:Nat):Int))=false from qdy (by omega),qdx,qaa];have hxs:xs=[]:=qaB (by omega);have hp0:p=0:=by
  rw[hp,hL,hxs];show 0+((zej ns e (List.range ns.length)).length - 1)* _=0;rw[hfl,show ns.length - 1=0 by omega,qcc]
 rw[hp0];rfl
end Go.Dc
namespace Go.Proofs.YtbjogdohfhdaiaaGreat.S
open Go Go.Mx Go.Lx Go.Dc Go.ChangeShapes Go.WideShapes Go.ChangeAt Go.RowKit
theorem zBN:∀ t∈[25,33],(zeN Tryz.prog 8 t).isSome=true:=by
 intro t ht;simp only[qax,qbO,or_false]at ht;rcases ht with rfl | rfl
 .rw[zyI]; rfl
 rw[zvL]; rfl
theorem zB3:∀ t∈[25,33],Tryz.prog.readableRec t=true/\t<Tryz.prog.types.size:=by
 intro t ht;simp only[qax,qbO,or_false]at ht;rcases ht with rfl | rfl
 .exact⟨zCx,qcK (m:=252) (by decide) zyY⟩
 exact⟨zA0,qcK (m:=252) (by decide) zyY⟩
theorem znS{H:Type}{enc:TypeId×Value->H}{w:World}{b0:Nat}{args:Array Value}{ds:List (DataW H)}{ps:List MemPlace}
  (hv:∀(j:Nat) t v,[25,33][j]? = some t->args[j]? = some v->Value.okWide Tryz.prog w .any b0 t v) (hd:DataW.TrodAll enc Tryz.prog w 0 (λ_=>true) true [25,33] args.toList ds ps):
  Calls Tryz.prog 6 args w λe w'=>e=.returned (.bool true)/\Below w.heap.size w w':=by
 refine zF6 (g:=8) hv hd zBN λes hes=>?_
 obtain⟨x0,r,rfl,h0,hes⟩:=Dc.ShAs.inv hes;obtain⟨x1,r,rfl,h1,hes⟩:=Dc.ShAs.inv hes;obtain rfl:=Dc.ShAs.none hes;obtain⟨a0,k0,rfl⟩:=zxh h0;obtain⟨a1,k1,rfl⟩:=zCo h1;exact zfP (zok k0 k1)
theorem zmU(os:Os)(started:os.Started)(H:Type)(enc:TypeId×Value->H):
  ReturnsInHanded {} Tryz.checked os 6 .any (Rows.eliminateTablesSpec.pre6 enc Tryz.prog Tryz.f6 Rows.eliminateTablesRow.domain false) (Rows.eliminateTablesSpec.post enc Tryz.prog Tryz.f6 false true false false):=by
 refine returnsInHanded_of_change (C:=Tryz.checked) own started (by kernel_rfl) Tryz.func6
  (ChangeSpec.witness6 (enc:=enc) (C:=Tryz.checked) false ⟨#[],#[.agg #[.int .u8 0,.slice none 0 0,.slice none 0 0],.agg #[.int .u8 0,.int .u8 0,.int .u8 0,.int .u8 0,.int .u8 0,.int .u8 0,.int .u8 0,.int .u8 0,.int .u8 0,.int .i64 0,.int .u8 0,.int .u8 0,.int .u8 0,.int .u8 0,.int .u8 0,.int .u8 0,.int .u8 0,.int .u8 0,.slice none 0 0,.slice none 0 0]],[]⟩ 8 (by kernel_rfl) (by kernel_rfl) (by kernel_rfl) (by kernel_rfl)) ?_
 intro W base args ds gs before hval0 hW hcnd _;have hval:∀(j:Nat) t v,Tryz.f6.params[j]? = some t->args[j]? = some v->Value.okWide Tryz.prog W .any base t v:=hval0;have hlt:∀ x∈before,x.block<W.heap.size:=λx hx=>hW.lt x hx
 have hW':=hW;obtain⟨p,q,hA0,hV,rfl,hfz,hnd⟩:=hW;have hA:DataW.TrodAll enc Tryz.prog W 0 (λ_=>true) true Tryz.f6.params.toList args.toList ds p:=hA0;rw[Tryz.params6]at hA hval;have hcalls:=znS (λj t v h1 h2=>hval j t v (by simpa using h1) h2) hA;obtain⟨rfl,rfl⟩:=trodVars_none hV;have hA1:DataW.TrodAll enc Tryz.prog W 0 (λ_=>true) true [25,33] args.toList ds p:=hA;have hds:∃ d0 d1:DataW H,ds=[d0,d1]:=by
  obtain⟨_,_,d0,ds0,_,_,_,e0,_,_,r0⟩:=trodAll_cons hA1;obtain⟨_,_,d1,ds1,_,_,_,e1,_,_,r1⟩:=trodAll_cons r0;obtain⟨_,e2,_⟩:=trodAll_nil r1;exact⟨d0,d1,by rw[e0,e1,e2]⟩
 obtain⟨d0,d1,rfl⟩:=hds;clear hA0 hval0;simp only[qaZ]at hW' hlt;refine hcalls.mono λe W' ⟨he,hb⟩=>?_
 subst he
 exact⟨_,rfl,_,_,_,[],_,[],hW',trodAll_mk1 (shut_bool Tryz.underlying4 true),
  (by rw[Tryz.params6]; exact zhy hb hA1 zB3 hlt),
  rfl,hb.frame _,λh=>by cases h⟩
theorem tables_said:Rows.EliminateTablesSaid:=
 OpenClaim.holds_of_wide 6 Tryz.f6 rfl rfl rfl rfl rfl rfl rfl ⟨rfl,rfl,rfl,rfl,rfl⟩ rfl rfl rfl rfl rfl zDU Tryz.func6 zz0
  zEj (by unfold Func.isWrapper; first | (rw[if_pos (by decide +kernel)]; kernel_rfl)| (rw[if_neg (by decide +kernel)]; exact⟨rfl,rfl⟩))
  (λos started H enc _=>zmU os started H enc)
end Go.Proofs.YtbjogdohfhdaiaaGreat.S
namespace Go.Proofs.YtbjogdohfhdaiaaGreat
theorem tables_said:Rows.EliminateTablesSaid:=S.tables_said
end Go.Proofs.YtbjogdohfhdaiaaGreat
