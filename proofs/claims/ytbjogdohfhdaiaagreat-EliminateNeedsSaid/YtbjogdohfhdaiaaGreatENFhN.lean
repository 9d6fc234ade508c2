/-
 Facts of what EliminateNeeds reaches. Conditions: none.
-/
import Derived.Test.YtbjogdohfhdaiaaGreatENDm
import Derived.Test.YtbjogdohfhdaiaaGreatENJ10
import Derived.Test.YtbjogdohfhdaiaaGreatENSa
import Derived.Test.YtbjogdohfhdaiaaGreatENFct
set_option linter.unusedSimpArgs false
set_option linter.unusedVariables false
set_option maxRecDepth 100000
namespace Go.Proofs.YtbjogdohfhdaiaaGreat
open Go.ChangeShapes Go.WideShapes Go.ChangeAt Go.RowKit
theorem zq8:(Rows.eliminateNeedsRow.inPlace == Tryz.pinned.checked.prog.inPlace 5)=true:=by kernel_rfl
theorem zBE:(Rows.eliminateNeedsRow.unfollowed == Tryz.pinned.checked.prog.unfollowed 5)=true:=by kernel_rfl
theorem zAX:(Rows.eliminateNeedsRow.recurses == Tryz.pinned.checked.prog.recurses 5)=true:=by kernel_rfl
theorem zwJ:(Rows.eliminateNeedsRow.named == Tryz.pinned.checked.prog.varsNamed 5)=true:=by kernel_rfl
theorem zyE:joinedFacts Tryz.pinned.checked.prog 5 Tryz.f5 Rows.eliminateNeedsSpec Rows.eliminateNeedsRow=true:=by
 unfold joinedFacts;rw[zxj,zAz,zzr,zy0,zAM,zq8,zBE,zAX,zwJ,zzs,zyW,show(Rows.eliminateNeedsRow.lifted == Tryz.pinned.checked.prog.liftsFinal)=true from zBW,show(Tryz.pinned.checked.prog.make == some Rows.eliminateNeedsRow.make)=true from zCj]
 kernel_rfl
theorem zC4:Tryz.pinned.checked.prog.funcNamed Rows.eliminateNeedsRow.func=some 5:=by kernel_rfl
theorem zDI:Tryz.f5.isInstance Tryz.pinned.checked.prog Rows.eliminateNeedsRow.origin Rows.eliminateNeedsRow.targs:=qdG (by kernel_rfl)
end Go.Proofs.YtbjogdohfhdaiaaGreat
set_option maxRecDepth 100000
namespace Go.Proofs.YtbjogdohfhdaiaaGreat.S
open Go Go.Mx Go.Lx Go.Dc Go.ChangeShapes Go.WideShapes Go.ChangeAt Go.RowKit
theorem ztW{xs:List Int}(h:okL (okI .u8) xs):∃ ns:List Nat,(∀ x∈ns,x<=255)/\xs=iL ns:=by
 obtain⟨ns,h1,h2⟩:=Dc.zqT (l:=xs) (f:=λn:Nat=>(n:Int)) (T:=λn=>n<=255) λy hy=>by
  have:=zhb (h.2 y hy);exact⟨y.toNat,by omega,by omega⟩
 exact⟨ns,h1,h2⟩
theorem zuF:Dec zao [.int .u8,.int .u8,.sl [.int .u8]] (λx=>okI .u8 x.zap/\okI .u8 x.parents/\okL (okI .u8) x.w):=
 Dec.iso (Dec.pair (Dec.int .u8) (Dec.pair (Dec.int .u8) (Dec.list (Dec.int .u8)))) (λx:S_haruspexref05_Piece=>(x.zap,x.parents,x.w)) (λa=>⟨a.1,a.2.1,a.2.2⟩) (λ_=>rfl)
theorem zu9:Dec zdp [.int .u8,.sl [.int .u8,.int .u8,.sl [.int .u8]],.sl [.int .u8]]
  (λx=>okI .u8 x.grain/\okL (λx=>okI .u8 x.zap/\okI .u8 x.parents/\okL (okI .u8) x.w) x.nodes/\okL (okI .u8) x.order):=
 Dec.iso (Dec.pair (Dec.int .u8) (Dec.pair (Dec.list zuF) (Dec.list (Dec.int .u8)))) (λx:S_haruspexref05_Draft=>(x.grain,x.nodes,x.order)) (λa=>⟨a.1,a.2.1,a.2.2⟩) (λ_=>rfl)
theorem zwx{x:S_haruspexref05_Draft}(h:okI .u8 x.grain/\okL (λx=>okI .u8 x.zap/\okI .u8 x.parents/\okL (okI .u8) x.w) x.nodes/\okL (okI .u8) x.order):∃ d:DraftN,DraftOk d/\x=zco d:=by
 obtain⟨grain,nodes,order⟩:=x;obtain⟨h1,h2,h3⟩:=h;have hg:=zhb h1;obtain⟨os,o1,o2⟩:=ztW h3;obtain⟨ps,p1,p2⟩:=Dc.zqT (l:=nodes) (f:=zqw) (T:=λn=>n.zap<=255) λy hy=>by
  obtain⟨g1,g2,g3⟩:=h2.2 y hy;have k1:=zhb g1;have k2:=zhb g2;obtain⟨ws,w1,w2⟩:=ztW g3;refine⟨⟨y.zap.toNat,y.parents.toNat,ws⟩,by simp only; omega,?_⟩;obtain⟨a,b,c⟩:=y;simp only at k1 k2 w2;subst w2;simp only[zqw,qb0 k1.1,qb0 k2.1]
 refine⟨⟨grain.toNat,ps,os⟩,⟨by simp only at hg ⊢; omega,p1,o1⟩,?_⟩;simp only at o2 p2 hg;subst o2 p2;simp only[zco,qb0 hg.1]
theorem zxZ:zef Tryz.prog 8 25=some [.int .u8,.sl [.int .u8,.int .u8,.sl [.int .u8]],.sl [.int .u8]]:=by kernel_rfl
theorem zDg:zsf Tryz.prog 25=true:=by kernel_rfl
theorem zA3:Tryz.prog.readableRec 25=true:=by kernel_rfl
theorem zxc{d:D}(h:ShA Tryz.prog 8 25 d):∃ dr:DraftN,DraftOk dr/\d=.agg (zdp.c false (zco dr)):=by
 obtain⟨x,h1,h2⟩:=zu9.agg zDg zxZ h;obtain⟨dr,h3,rfl⟩:=zwx h1;exact⟨dr,h3,h2⟩
theorem zhg{H:Type}{enc:TypeId×Value->H}{W W':World}(hb:Below W.heap.size W W'):∀ {ts:List TypeId} {vs:List Value} {ds:List (DataW H)} {ps:List MemPlace},
  DataW.TrodAll enc Tryz.prog W 0 (λ_=>true) true ts vs ds ps->(∀ t∈ts,Tryz.prog.readableRec t=true/\t<Tryz.prog.types.size)->(∀ x∈ps,x.block<W.heap.size)->
  DataW.TrodAll enc Tryz.prog W' 0 (λb=>decide (b<W.heap.size)) true ts vs ds ps
 | [],vs,ds,ps,h,_,_=>by
  obtain⟨rfl,rfl,rfl⟩:=trodAll_nil h;exact trodAll_mk0
 | t :: ts,vs,ds,ps,h,ht,hlt=>by
  obtain⟨v,vs',d,ds',p,q,rfl,rfl,rfl,h1,h2⟩:=trodAll_cons h;obtain⟨r1,r2⟩:=ht t qam;exact⟨p,q,Below.trod laidOut r1 r2 h1 hb (λx hx=>hlt x (qc8 _ hx)),zhg hb h2 (λt h=>ht t (qai _ h)) (λx hx=>hlt x (List.mem_append_right _ hx)),rfl⟩
theorem zw7:Dec zdO [.int .u8,.int .u8,.int .u8,.int .i64] (λx=>okI .u8 x.what/\okI .u8 x.at_/\okI .u8 x.row/\okI .i64 x.n):=
 Dec.iso (Dec.pair (Dec.int .u8) (Dec.pair (Dec.int .u8) (Dec.pair (Dec.int .u8) (Dec.int .i64)))) (λx:S_haruspexref05_Bend=>(x.what,x.at_,x.row,x.n)) (λa=>⟨a.1,a.2.1,a.2.2.1,a.2.2.2⟩) (λ_=>rfl)
theorem zxC:zef Tryz.prog 8 27=some [.int .u8,.int .u8,.int .u8,.int .i64]:=by kernel_rfl
theorem zDK:zsf Tryz.prog 27=true:=by kernel_rfl
theorem zzj{d:D}(h:ShA Tryz.prog 8 27 d):∃ x:S_haruspexref05_Bend,((0<=x.what/\x.what<=255)/\(0<=x.at_/\x.at_<=255)/\(0<=x.row/\x.row<=255))/\d=.agg (zdO.c false x):=by
 obtain⟨x,⟨h1,h2,h3,_⟩,h4⟩:=zw7.agg zDK zxC h;exact⟨x,⟨zhb h1,zhb h2,zhb h3⟩,h4⟩
theorem zBC:Tryz.prog.readableRec 27=true:=by kernel_rfl
theorem ztN:(252:Nat)<Tryz.prog.types.size:=qdG (by kernel_rfl)
end Go.Proofs.YtbjogdohfhdaiaaGreat.S
namespace Go.Dc
open Go Go.Mx Go.Lx
variable{f:Fc}{M v k:Nat}
theorem Stc.zap{cs:List Nat}(h:Stc cs f M)(hv:pos f.vs v=some k)(hk:k<f.cs.length):f.cs[k]=cs.getD v 0:=by
 obtain⟨h1,e⟩:=zdm hv;rw[<- zlg h.ok hv hk,h.at (e ▸ qao h1)]
theorem Stc.mono{cs:List Nat}{N:Nat}(h:Stc cs f M)(hl:M<=N):Stc cs f N:=⟨h.ok,h.cs_,h.var,λi=>qaq (h.le i) hl⟩
theorem Stc.klt{cs:List Nat}(h:Stc cs f M)(hv:pos f.vs v=some k):k<f.cs.length:=by
 obtain⟨h1,_⟩:=zdm hv;rw[<- h.ok.len]; exact h1
theorem Stc.zyr{cs:List Nat}{f:Fc}{M:Nat}(hf:Stc cs f M){v k p:Nat}(hv:pos f.vs v=some k)(hp:p<cs.getD v 0):zes f.D (v:Int) (p:Int)=some ((fixF f v k p).D,0):=by
 have hk:=hf.klt hv;exact Go.Dc.zyr hf.ok hv hk (by rw[hf.zap hv hk]; exact hp)
theorem Stc.zi8{cs:List Nat}{f:Fc}{M:Nat}(hf:Stc cs f M){v k p:Nat}(hv:pos f.vs v=some k)(hp:p<cs.getD v 0){s:Nat->Nat}(hs:zs7 cs s):(fixF f v k p).val s=f.val (upd s v p):=by
 have hk:=hf.klt hv;exact Go.Dc.zi8 hf.ok hv hk (by rw[hf.zap hv hk]; exact hp) λu hu=>hf.fit hs u (qaM.1 hu).1
variable{s:Nat->Nat}
theorem zw2{cs:List Nat}(hs:zs7 cs s){p:Nat}(hp:p<cs.getD v 0):zs7 cs (upd s v p):=by
 intro u hu;by_cases e:u=v
 .subst e; rw[zfY]; exact hp
 rw[zjI e]; exact hs u hu
def zr4(f:Fc)(v:Nat):Fc:=gF f (rest f v) ((gat false f (rest f v)).getD [])
theorem Stc.sum{cs:List Nat}(hf:Stc cs f M)(hB:zab f.cs * M<=zdW)(hv:pos f.vs v=some k):
  zdk f.D (v:Int)=some ((zr4 f v).D,0)/\Stc cs (zr4 f v) (cs.getD v 0 * M)/\∀ s,zs7 cs s->(zr4 f v).val s=zr7 (cs.getD v 0) λp=>f.val (upd s v p):=by
 have hk:=hf.klt hv;have hg:=zlm false hf.ok (zgX hf.ok v) hf.le hB;have e:zr4 f v=gF f (rest f v) ((List.range' 0 (zab (cof f (rest f v)))).map λj=>big false (fib f (rest f v) (zab f.cs) 0 j)):=by unfold zr4; rw[hg]; rfl
 refine⟨?_,?_,λs hs=>?_⟩
 .rw[zC7 hf.ok hv,hg,e]; rfl
 .rw[e];refine⟨zCh hf.ok (zgX hf.ok v) hg,?_,λu hu=>hf.var u (qaM.1 hu).1,zeX λx hx=>?_⟩
  .exact qbx λu hu=>hf.at (qaM.1 hu).1
  obtain⟨j,hj,rfl⟩:=qaz.1 hx;have hj':=(qc1.1 hj).2;rw[zhx hf.ok hv,qaR]at hj';rw[zqA hf.ok hv hk hj'];refine qaq (zvc (M:=M) λy hy=>?_) (qav M ?_)
  .obtain⟨i,_,rfl⟩:=qaz.1 hy;exact hf.le _
  rw[qay,List.length_range',hf.zap hv hk];exact qap _
 have h:=Go.Dc.zoC false hf.ok hv hk hf.le hB hg (s:=s) λu hu=>hf.fit hs u (qaM.1 hu).1
 rw[e,h,zyv,hf.zap hv hk,zmr]
theorem zwM{u:Nat}:u∈(zr4 f v).vs↔u∈f.vs/\u≠v:=by
 show u∈rest f v↔_;unfold rest;rw[qaM];constructor
 .exact λh=>⟨h.1,λe=>by rw[e,qdD]at h; exact absurd h.2 (by decide)⟩
 exact λh=>⟨h.1,by rw[qdI h.2]; rfl⟩
structure Lok (cs:List Nat) (ps:List (Fc×Nat)):Prop where
 st:∀ p∈ps,Stc cs p.1 p.2
 one:∀ p∈ps,1<=p.2
abbrev bnd(ps:List (Fc×Nat)):Nat:=zab (ps.map (·.2))
variable{ps:List (Fc×Nat)}
theorem Lok.zBF{cs:List Nat}(h:Lok cs ps):1<=bnd ps:=zdQ λx hx=>by
 obtain⟨p,hp,rfl⟩:=qaz.1 hx;exact h.one p hp
theorem Lok.tail{cs:List Nat}{p:Fc×Nat}(h:Lok cs (p :: ps)):Lok cs ps:=⟨λq hq=>h.st q (qai _ hq),λq hq=>h.one q (qai _ hq)⟩
theorem Lok.sub{cs:List Nat}{qs:List (Fc×Nat)}(h:Lok cs ps)(hs:∀ q∈qs,q∈ps):Lok cs qs:=⟨λq hq=>h.st q (hs q hq),λq hq=>h.one q (hs q hq)⟩
theorem Lok.app{cs:List Nat}{qs:List (Fc×Nat)}(h:Lok cs ps)(h':Lok cs qs):Lok cs (ps ++ qs):=
 ⟨λq hq=>(qa8.1 hq).elim (h.st q) (h'.st q),λq hq=>(qa8.1 hq).elim (h.one q) (h'.one q)⟩
def zxY:Fc->List (Fc×Nat)->Fc
 | a,[]=>a
 | a,p :: ps=>zxY (zr8 a p.1) ps
def gL(ps:List (Fc×Nat))(s:Nat->Nat):Nat:=zab (ps.map λp=>p.1.val s)
theorem zyh(p:Fc×Nat)(ps:List (Fc×Nat))(s:Nat->Nat):gL (p :: ps) s=p.1.val s * gL ps s:=rfl
theorem zB4(ps qs:List (Fc×Nat))(s:Nat->Nat):gL (ps ++ qs) s=gL ps s * gL qs s:=by
 unfold gL;rw[qbw,zfa]
theorem zle(p:Fc×Nat)(ps:List (Fc×Nat)):bnd (p :: ps)=p.2 * bnd ps:=rfl
theorem zqa{cs:List Nat}(hc:NCs cs):∀ {ps:List (Fc×Nat)} {a:Fc} {A:Nat},Stc cs a A->Lok cs ps->A * bnd ps<=zdW->Stc cs (zxY a ps) (A * bnd ps)
 | [],a,A,ha,_,_=>by
  show Stc cs a (A * 1);rw[qde]; exact ha
 | p :: ps,a,A,ha,h,hB=>by
  have h1:=h.tail.zBF;rw[zle,<- qbd]at hB ⊢;have hB1:A * p.2<=zdW:=qaq (qa6 _ h1) hB;exact zqa hc (ha.mul hc (h.st p qam) hB1) h.tail hB
theorem zqG{cs:List Nat}(hc:NCs cs):∀ {ps:List (Fc×Nat)} {a:Fc} {A:Nat},Stc cs a A->Lok cs ps->A * bnd ps<=zdW->∀ s,zs7 cs s->(zxY a ps).val s=a.val s * gL ps s
 | [],a,A,_,_,_,s,_=>(qde _).symm
 | p :: ps,a,A,ha,h,hB,s,hs=>by
  have h1:=h.tail.zBF;rw[zle,<- qbd]at hB;have hB1:A * p.2<=zdW:=qaq (qa6 _ h1) hB;have hp:=h.st p qam;show(zxY (zr8 a p.1) ps).val s=_;rw[zqG hc (ha.mul hc hp hB1) h.tail hB s hs,ha.zjq hc hp hB1 hs,zyh,qbd]
theorem zqh{cs:List Nat}(hc:NCs cs){u:Nat}:∀ {ps:List (Fc×Nat)} {a:Fc} {A:Nat},Stc cs a A->Lok cs ps->A * bnd ps<=zdW->(u∈(zxY a ps).vs↔u∈a.vs\/∃ p∈ps,u∈p.1.vs)
 | [],a,A,_,_,_=>by simp[zxY]
 | p :: ps,a,A,ha,h,hB=>by
  have h1:=h.tail.zBF;rw[zle,<- qbd]at hB;have hB1:A * p.2<=zdW:=qaq (qa6 _ h1) hB;have hp:=h.st p qam;show u∈(zxY (zr8 a p.1) ps).vs↔_;rw[zqh hc (ha.mul hc hp hB1) h.tail hB,show(u∈(zr8 a p.1).vs↔u∈a.vs\/u∈p.1.vs)from zgD ha.ok hp.ok];simp only[qax,exists_eq_or_imp,or_assoc]
def zfp(ps:List (Fc×Nat)):Fc:=zxY zvJ ps
theorem zni{cs:List Nat}(hc:NCs cs)(h:Lok cs ps)(hB:bnd ps<=zdW):Stc cs (zfp ps) (bnd ps):=by
 have:=zqa hc (zo7 cs) h (by rw[qbl]; exact hB)
 rwa [qbl]at this
theorem zth{cs:List Nat}(hc:NCs cs)(h:Lok cs ps)(hB:bnd ps<=zdW)(hs:zs7 cs s):(zfp ps).val s=gL ps s:=by
 have:=zqG hc (zo7 cs) h (by rw[qbl]; exact hB) s hs
 rwa [zzQ,qbl]at this
theorem zi7{cs:List Nat}(hc:NCs cs){ps:List (Fc×Nat)}(h:Lok cs ps)(hB:bnd ps<=zdW){u:Nat}:u∈(zfp ps).vs↔∃ p∈ps,u∈p.1.vs:=by
 have:=zqh hc (u:=u) (zo7 cs) h (by rw[qbl]; exact hB);rw[show zvJ.vs=[]from rfl]at this;simpa [zfp]using this
def occ(ps:List (Fc×Nat))(x:Nat):Bool:=ps.any λp=>decide (x∈p.1.vs)
theorem zpa{ps:List (Fc×Nat)}{x:Nat}:occ ps x=true↔∃ p∈ps,x∈p.1.vs:=by
 unfold occ;rw[List.any_eq_true];exact⟨λ⟨p,h1,h2⟩=>⟨p,h1,qdG h2⟩,λ⟨p,h1,h2⟩=>⟨p,h1,qdB h2⟩⟩
def ze5(x:Nat)(ps:List (Fc×Nat)):List (Fc×Nat):=ps.filter λp=>decide (x∈p.1.vs)
def zib(x:Nat)(ps:List (Fc×Nat)):List (Fc×Nat):=ps.filter λp=>!decide (x∈p.1.vs)
theorem zhI{α:Type}(g:α->Nat)(q:α->Bool):∀ xs:List α,zab ((xs.filter q).map g)* zab ((xs.filter λx=>!q x).map g)=zab (xs.map g)
 | []=>rfl
 | x :: xs=>by
  have ih:=zhI g q xs;cases hq:q x with
  | true=>
   rw[qcK hq,qcJ (by rw[hq]; decide)];show g x * zab ((xs.filter q).map g)* _=g x * zab (xs.map g);rw[qbd,ih]
  | false=>
   rw[qcJ (by rw[hq]; decide),qcK (by rw[hq]; rfl)];show _ * (g x * zab ((xs.filter λx=>!q x).map g))=g x * zab (xs.map g);rw[qc2,ih]
def zs8(k:Nat->Nat)(x:Nat)(ps:List (Fc×Nat)):List (Fc×Nat):=zib x ps ++ [(zr4 (zfp (ze5 x ps)) x,k x * bnd (ze5 x ps))]
theorem zgM{x:Nat}{ps:List (Fc×Nat)}:∀ q∈ze5 x ps,q∈ps:=λq hq=>(qaM.1 hq).1
theorem zhh{x:Nat}{ps:List (Fc×Nat)}:∀ q∈zib x ps,q∈ps:=λq hq=>(qaM.1 hq).1
theorem zpU{x:Nat}{ps:List (Fc×Nat)}:∀ q∈zib x ps,x ∉ q.1.vs:=λq hq=>by
 have:=(qaM.1 hq).2;rw[qbC]at this;exact of_decide_eq_false this
theorem zno(x:Nat)(ps:List (Fc×Nat)):bnd (ze5 x ps)* bnd (zib x ps)=bnd ps:=zhI (·.2) _ ps
theorem zwI(x:Nat)(ps:List (Fc×Nat))(s:Nat->Nat):gL (ze5 x ps) s * gL (zib x ps) s=gL ps s:=zhI (α:=Fc×Nat) (λp=>p.1.val s) (λp=>decide (x∈p.1.vs)) ps
theorem zv6{ps:List (Fc×Nat)}{t:Nat->Nat}(h:∀ p∈ps,∀ v∈p.1.vs,s v=t v):gL ps s=gL ps t:=by
 unfold gL;rw[qbx λp hp=>val_congr (f:=p.1) λv hv=>h p hp v hv]
structure Est (cs:List Nat) (C:Nat) (E:List Nat) (ps:List (Fc×Nat)):Prop where
 lok:Lok cs ps
 nod:E.Nodup
 lt:∀ x∈E,x<cs.length
 out:∀ p∈ps,∀ v∈p.1.vs,v ∉ E
 b:bnd ps<=C * zab (cd cs E)
theorem zkP{cs:List Nat}(hc:NCs cs){E:List Nat}(hn:E.Nodup)(hl:∀ x∈E,x<cs.length):zab (cd cs E)<=1024:=by
 have hp:E.Perm ((List.range cs.length).filter λx=>decide (x∈E)):=by
  refine(List.perm_ext_iff_of_nodup hn (qbA _ qcP)).2 λx=>?_
  rw[qaM,qbi];exact⟨λh=>⟨hl x h,qdB h⟩,λh=>qdG h.2⟩
 have e:zab (cd cs E)=zab (cd cs ((List.range cs.length).filter λx=>decide (x∈E))):=zrS (hp.map _);rw[e];exact qaq (zlb (λc hc'=>(hc.zap c hc').1) (qbA _ qdn) λu hu=>qbi.1 (qaM.1 hu).1) hc.prod
variable{E:List Nat}
theorem Est.tot{cs:List Nat}(hc:NCs cs){C:Nat}(hC:C * 1024<=zdW)(h:Est cs C E ps):bnd ps<=zdW:=
 qaq h.b (qaq (qcq C (zkP hc h.nod h.lt)) hC)
theorem zzk{cs:List Nat}{x:Nat}(h:Lok cs ps):bnd (ze5 x ps)<=bnd ps:=by
 rw[<- zno x ps];exact qa6 _ (h.sub zhh).zBF
theorem Est.size{cs:List Nat}(hc:NCs cs){C:Nat}(hC:C * 1024<=zdW){qs:List (Fc×Nat)}(h:Est cs C E ps)(hq:∀ q∈qs,q∈ps)(hb:bnd qs<=bnd ps):zab (zfp qs).cs * bnd qs<=zdW:=by
 have hl:=h.lok.sub hq;have hB:bnd qs<=zdW:=qaq hb (h.tot hc hC);have hs:=zni hc hl hB;rw[hs.cs_];have hd:∀ u∈(zfp qs).vs,u ∉ E:=λu hu=>by
  obtain⟨p,hp,hup⟩:=(zi7 hc hl hB).1 hu;exact h.out p (hq p hp) u hup
 have hn:((zfp qs).vs ++ E).Nodup:=List.nodup_append.2 ⟨zbc hs.ok.inc,h.nod,λa ha b hb e=>hd a ha (e ▸ hb)⟩;have hp:=zkP hc hn λu hu=>(qa8.1 hu).elim (hs.var u) (h.lt u)
 rw[zqx,zfa]at hp;calc zab (cd cs (zfp qs).vs)* bnd qs<=zab (cd cs (zfp qs).vs)* (C * zab (cd cs E)):=qcq _ (qaq hb h.b)
  _=C * (zab (cd cs (zfp qs).vs)* zab (cd cs E)):=qc2 _ _ _
  _<=C * 1024:=qcq C hp
  _<=zdW:=hC
theorem Est.step{cs:List Nat}(hc:NCs cs){C:Nat}(hC:C * 1024<=zdW){E:List Nat}{ps:List (Fc×Nat)}(h:Est cs C E ps){x:Nat}(hx:occ ps x=true)(hxE:x ∉ E):
  zdk (zfp (ze5 x ps)).D (x:Int)=some ((zr4 (zfp (ze5 x ps)) x).D,0)/\Est cs C (x :: E) (zs8 (λv=>cs.getD v 0) x ps)/\
   (∀ s,zs7 cs s->gL (zs8 (λv=>cs.getD v 0) x ps) s=zr7 (cs.getD x 0) λp=>gL ps (upd s x p))/\∀ y,y≠x->occ (zs8 (λv=>cs.getD v 0) x ps) y=occ ps y:=by
 obtain⟨p0,hp0,hxp⟩:=zpa.1 hx;have hxl:x<cs.length:=(h.lok.st p0 hp0).var x hxp;have hlw:=h.lok.sub (zgM (x:=x));have hlr:=h.lok.sub (zhh (x:=x));have hbw:=zzk (x:=x) h.lok;have hB:bnd (ze5 x ps)<=zdW:=qaq hbw (h.tot hc hC);have hs:=zni hc hlw hB;have hsz:=h.size hc hC zgM hbw;have hxv:x∈(zfp (ze5 x ps)).vs:=(zi7 hc hlw hB).2 ⟨p0,qaM.2 ⟨hp0,qdB hxp⟩,hxp⟩;obtain⟨k,hk⟩:=zl5 hxv;obtain⟨g1,g2,g3⟩:=hs.sum hsz hk;have hcx:1<=cs.getD x 0:=by
  rw[qae,qac hxl];exact(hc.zap _ (qao hxl)).1
 have hmem:∀ u,u∈(zr4 (zfp (ze5 x ps)) x).vs↔(∃ p∈ze5 x ps,u∈p.1.vs)/\u≠x:=λu=>by rw[zwM,zi7 hc hlw hB]
 refine⟨g1,⟨hlr.app ⟨λq hq=>?_,λq hq=>?_⟩,qbs.2 ⟨hxE,h.nod⟩,λy hy=>?_,λq hq u hu=>?_,?_⟩,λs hs'=>?_,λy hy=>?_⟩
 .rw[qaL.1 hq]; exact g2
 .rw[qaL.1 hq]; exact qdc hcx hlw.zBF
 .rcases qax.1 hy with rfl | hy
  .exact hxl
  exact h.lt y hy
 .intro hm;rcases qa8.1 hq with hq | hq
  .rcases qax.1 hm with rfl | hm
   .exact zpU q hq hu
   exact h.out q (zhh q hq) u hu hm
  rw[qaL.1 hq]at hu;obtain⟨⟨p,hp,hup⟩,hne⟩:=(hmem u).1 hu;rcases qax.1 hm with rfl | hm
  .exact hne rfl
  exact h.out p (zgM p hp) u hup hm
 .show zab ((zib x ps ++ [(zr4 (zfp (ze5 x ps)) x,cs.getD x 0 * bnd (ze5 x ps))]).map (·.2))<=C * (cs.getD x 0 * zab (cd cs E));rw[qbw,zfa];show bnd (zib x ps)* (cs.getD x 0 * bnd (ze5 x ps)* 1)<=_;have e:bnd (zib x ps)* (cs.getD x 0 * bnd (ze5 x ps)* 1)=cs.getD x 0 * bnd ps:=by rw[<- zno x ps,qde,qc2,qaX (bnd (zib x ps))]
  rw[e,qc2];exact qcq _ h.b
 .show gL (zib x ps ++ [(zr4 (zfp (ze5 x ps)) x,cs.getD x 0 * bnd (ze5 x ps))]) s=_;rw[zB4];show gL (zib x ps) s * ((zr4 (zfp (ze5 x ps)) x).val s * 1)=_;rw[qde,g3 s hs',<- zq1];refine zkE λp hp=>?_
  rw[zth hc hlw hB (zw2 hs' hp),<- zwI x ps (upd s x p),qaX,zv6 (ps:=zib x ps) (s:=s) (t:=upd s x p) λq hq u hu=>(zjI (by rintro rfl; exact zpU q hq hu)).symm]
 have h1:occ (zs8 (λv=>cs.getD v 0) x ps) y=true↔occ ps y=true:=by
  rw[zpa,zpa];constructor
  .rintro⟨q,hq,hyq⟩;rcases qa8.1 hq with hq | hq
   .exact⟨q,zhh q hq,hyq⟩
   rw[qaL.1 hq]at hyq;obtain⟨⟨p,hp,hup⟩,_⟩:=(hmem y).1 hyq;exact⟨p,zgM p hp,hup⟩
  rintro⟨q,hq,hyq⟩;by_cases hxq:x∈q.1.vs
  .exact⟨_,List.mem_append_right _ (qaL.2 rfl),(hmem y).2 ⟨⟨q,qaM.2 ⟨hq,qdB hxq⟩,hyq⟩,hy⟩⟩
  exact⟨q,qc8 _ (qaM.2 ⟨hq,by rw[qdC hxq]; rfl⟩),hyq⟩
 cases h2:occ ps y with
 | true=>exact h1.2 h2
 | false=>
  cases h3:occ (zs8 (λv=>cs.getD v 0) x ps) y with
  | false=>rfl
  | true=>rw[h1.1 h3]at h2; cases h2
def knE(e:List Int)(v:Nat):Bool:=decide (0<=e.getD v (-1))
structure EvOk (cs:List Nat) (e:List Int):Prop where
 len:e.length=cs.length
 lo:∀ v,v<cs.length -> -1<=e.getD v (-1)
 hi:∀ v,v<cs.length->e.getD v (-1)<(cs.getD v 0:Nat)
theorem zBO{g:Nat}{ns:List NN}{e:List Int}(hl:e.length=ns.length)(hn:ns.length<=8):∀(n i:Nat),zaV e (zbF g ns) n (i:Int)=some (.go ())->∀ v,i<=v->v<ns.length -> -1<=e.getD v (-1)/\e.getD v (-1)<((ns.map (·.c)).getD v 0:Nat)
 | 0,_,h,_,_,_=>by cases h
 | n+1,i,h,v,hv,hvl=>by
  have hi:i<e.length:=by omega
  have hin:i<ns.length:=by omega
  have hx:e[i]=e.getD i (-1):=by rw[qae,qac hi]; rfl
  unfold zaV at h;rw[zam,qdB hi,qdz,zay hi,qaa,hx]at h;by_cases c1:e.getD i (-1)< -1
  .rw[qdB c1,qdz,qaa,qdz]at h;cases h
  rw[qdC c1,qdA,show zaz (zbF g ns).nodes (i:Int)=some (nd ns[i])from zcX hin]at h;simp only[qaa,show(nd ns[i]).zap=((ns[i].c:Nat):Int)from rfl]at h;have hcc:(ns.map (·.c)).getD i 0=ns[i].c:=by rw[qae,qaW,qac hin]; rfl
  by_cases c2:((ns[i].c:Nat):Int)<=e.getD i (-1)
  .rw[qdB c2,qdz]at h;cases h
  rw[qdC c2,qdA,zah (by omega)]at h;by_cases ev:v=i
  .subst ev;rw[hcc];omega
  exact zBO hl hn n (i+1) h v (by omega) hvl
theorem zBM{net:S_api_Net}{e:List Int}:∀(n:Nat) (i:Int) (r:Bool),zaV e net n i=some (.ret r)->r=false
 | 0,_,_,h=>by cases h
 | n+1,i,r,h=>by
  unfold zaV at h;cases hd:decide (i<(e.length:Int))with
  | false=>rw[hd,qdA]at h; cases h
  | true=>
   rw[hd,qdz]at h;obtain⟨b,_,h⟩:=bind_some h;cases b with
   | true=>rw[qdz]at h; cases h; rfl
   | false=>rw[qdA]at h; exact zBM n _ r h
variable{g:Nat}{ns:List NN}
theorem zBN(h:RightN g ns){e:List Int}(hb:zbN (zbF g ns) e=some true):EvOk (ns.map (·.c)) e:=by
 have hnl:(zbF g ns).nodes.length=ns.length:=by simp[zbF]
 unfold zbN at hb;rw[hnl]at hb;by_cases hl:e.length=ns.length
 .rw[show(((e.length:Nat):Int)==((ns.length:Nat):Int))=true by rw[hl]; simp,qdz]at hb;obtain⟨o,ho,hb⟩:=bind_some hb;cases o with
  | go u=>
   have:=zBO (g:=g) hl h.n2 _ 0 ho;exact⟨by simpa using hl,λv hv=>(this v (qau _) (by simpa using hv)).1,λv hv=>(this v (qau _) (by simpa using hv)).2⟩
  | ret r=>
   have hr:=zBM _ _ _ ho;cases hb;cases hr
 rw[show(((e.length:Nat):Int)==((ns.length:Nat):Int))=false by rw[qdE]; omega,qdA]at hb;cases hb
theorem zkF{a x j:Nat}:(a ||| 2 ^ x).testBit j=(a.testBit j || decide (x=j)):=by rw[qbj,qbf]
theorem zv4{a x:Nat}(ha:a<18446744073709551616)(hx:x<64):a ||| 2 ^ x<18446744073709551616:=qbc (n:=64) ha (qa0 (by decide) hx)
structure OrdOk (n v:Nat) (xs:List Nat):Prop where
 nod:xs.Nodup
 lt:∀ x∈xs,x<n
 ne:∀ x∈xs,x≠v
abbrev noQ:S_eliminate_query:=⟨⟨0,[]⟩,[],0⟩
theorem zzT{vs:List Nat}(h:∀ v∈vs,v<64):zbi vs<18446744073709551616:=Nat.lt_pow_two_of_testBit (n:=64) _ λi hi=>by
 rw[zcp];exact qdC λhm=>absurd (h i hm) (by omega)
structure KnOk (k:S_haruspexref05_Known):Prop where
 v:∀ x∈[k.v.a0,k.v.a1,k.v.a2,k.v.a3,k.v.a4,k.v.a5,k.v.a6,k.v.a7],0<=x/\x<=255
theorem ztb{ns:List NN}{g:Nat}{k:S_haruspexref05_Known}(hk:KnOk k)(hn:ns.length<=8)(hc:∀ x∈ns,1<=x.c):∀(n i:Nat) (acc:List Int),i<=ns.length->acc.length=i->(∀ v,v<i -> -1<=acc.getD v (-1)/\acc.getD v (-1)<((ns.map (·.c)).getD v 0:Nat))->ns.length - i<n ->
  ∃ out,zbY (zbF g ns) k n (i:Int) acc=some out/\EvOk (ns.map (·.c)) out
 | 0,_,_,_,_,_,h=>absurd h (qak _)
 | n+1,i,acc,h1,h2,h4,h3=>by
  unfold zbY;have hnl:(zbF g ns).nodes.length=ns.length:=by simp[zbF]
  rw[hnl,zam];by_cases hi:i<ns.length
  .obtain⟨q,hq⟩:=zFE (a:=k.which) (v:=i);rw[qdB hi,qdz,zwk (by omega),hq,qaa];have key:∃ y:Int,((bif ((zkd .u8 q 1)== 1)then((zaz [k.v.a0,k.v.a1,k.v.a2,k.v.a3,k.v.a4,k.v.a5,k.v.a6,k.v.a7] (i:Int)).bind λx5=>(zaz (zbF g ns).nodes (i:Int)).bind λx7=>(zrz (w64 x5) x7.zap).bind λq9=>some q9)else some (-1)):Option Int)=some y/\-1<=y/\y<((ns.map (·.c)).getD i 0:Nat):=by
    have hcx:=hc _ (qao hi);have hci:(ns.map (·.c)).getD i 0=ns[i].c:=by rw[qae,qaW,qac hi]; rfl
    rw[hci];cases(zkd .u8 q 1)== 1 with
    | false=>exact⟨-1,rfl,by omega,by omega⟩
    | true=>
     obtain⟨x5,h5,h6⟩:∃ x,zaz [k.v.a0,k.v.a1,k.v.a2,k.v.a3,k.v.a4,k.v.a5,k.v.a6,k.v.a7] (i:Int)=some x/\0<=x/\x<=255:=⟨_,zay (by simp; omega),hk.v _ (qao _)⟩;refine⟨(w64 x5).tmod ((ns[i].c:Nat):Int),?_,?_,?_⟩
     .rw[qdz,h5,qaa,show zaz (zbF g ns).nodes (i:Int)=some (nd ns[i])from zcX hi,qaa,show(nd ns[i]).zap=((ns[i].c:Nat):Int)from rfl];unfold zrz;rw[show((((ns[i].c:Nat):Int))== 0)=false by rw[qdE]; omega,qdA,qaa]
     .rw[zfk (by omega) (by omega)];have:=Int.tmod_nonneg ((ns[i].c:Nat):Int) h6.1;omega
     rw[zfk (by omega) (by omega)];exact Int.tmod_lt_of_pos _ (by omega)
   obtain⟨y,hy,y1,y2⟩:=key
   obtain⟨out,ho,ho2⟩:=ztb (g:=g) (k:=k) hk hn hc n (i+1) (acc ++ [y]) hi (by simp; omega) (λv hv=>by
    rw[qae];by_cases hvi:v<i
    .rw[qan (by omega),<- qae]; exact h4 v hvi
    have:v=i:=by omega
    subst this;rw[qaB (by omega),h2,qcb]
    exact⟨y1,y2⟩) (by omega)
   refine⟨out,?_,ho2⟩;rw[hy,qaa,zdt (by simp; omega),qaa,zah (by omega),ho]
  have:i=ns.length:=by omega
  subst this;exact⟨acc,by rw[qdC hi,qdA],⟨by rw[h2,qay],λv hv=>(h4 v (by rwa [qay]at hv)).1,λv hv=>(h4 v (by rwa [qay]at hv)).2⟩⟩
theorem zv8{ns:List NN}{k:S_haruspexref05_Known}(hk:KnOk k)(hn:ns.length<=8)(hc:∀ x∈ns,1<=x.c):∃ out,zci k (zbF g ns)=some out/\EvOk (ns.map (·.c)) out:=by
 obtain⟨out,e,e2⟩:=ztb (g:=g) (k:=k) hk hn hc (ns.length+2) 0 [] (qau _) rfl (λv hv=>absurd hv (qak _)) (by omega);refine⟨out,?_,e2⟩;rw[show((0:Nat):Int)=0 from rfl]at e;unfold zci;rw[show(zbF g ns).nodes.length=ns.length by simp[zbF],zaq,e,qaa]
structure AskOk (a:S_haruspexlaw09_Ask):Prop where
 k:KnOk a.known
 l:∀ x∈[a.l.a0,a.l.a1,a.l.a2,a.l.a3,a.l.a4,a.l.a5,a.l.a6,a.l.a7],0<=x/\x<=255
theorem zo3{α:Type}{xs:List α}{i:Nat}{P:α->Prop}(h:i<xs.length)(hp:∀ x∈xs,P x):∃ x,zaz xs (i:Int)=some x/\P x:=⟨xs[i],zay h,hp _ (qao h)⟩
theorem zlk{m v:Nat}{l:A8_Intu8}(hl:∀ x∈[l.a0,l.a1,l.a2,l.a3,l.a4,l.a5,l.a6,l.a7],0<=x/\x<=255)(hm:m<=8):∀(n i:Nat) (xs:List Nat),OrdOk i v xs->(xs.length+if v<i then 1 else 0)=i->i<=m->m - i<n ->
  ∃ zs:List Nat,zcb (m:Int) (v:Int) l n (iL xs) (i:Int)=some (iL zs)/\OrdOk m v zs/\(zs.length+if v<m then 1 else 0)=m
 | 0,_,_,_,_,_,h=>absurd h (qak _)
 | n+1,i,xs,ho,hx,hi,hf=>by
  unfold zcb;rw[zam];by_cases hlt:i<m
  .rw[qdB hlt,qdz];by_cases hv:i=v
   .subst hv;rw[qdD,qdz,qaa,zah (by omega)]
    exact zlk hl hm n (i+1) xs ⟨ho.nod,λx h=>qcY (ho.lt x h),ho.ne⟩ (by
     rw[if_neg (qcw _)]at hx;rw[if_pos (qbQ _)]
     omega) hlt (by omega)
   have hxl:xs.length<=i:=by omega
   obtain⟨x3,e3,b3⟩:=zo3 (xs:=[l.a0,l.a1,l.a2,l.a3,l.a4,l.a5,l.a6,l.a7]) (i:=i) (P:=λx=>0<=x/\x<=255) (by simp; omega) hl;obtain⟨y,rfl⟩:∃ y:Nat,x3=(y:Int):=⟨x3.toNat,by omega⟩;obtain⟨q,hq⟩:∃ q,y % (xs.length+1)=q:=⟨_,rfl⟩;have hql:q<=xs.length:=by have:=qbk y (Nat.succ_pos xs.length); rw[show xs.length.succ=xs.length+1 from rfl,hq]at this; omega
   have hp:List.Perm (xs.take q ++ i :: xs.drop q) (i :: xs):=by
    refine List.perm_middle.trans ?_;rw[qb1]
   have hy255:y<=255:=by omega
   obtain⟨zs,g1,g2,g3⟩:=zlk hl hm n (i+1) (xs.take q ++ i :: xs.drop q) ⟨hp.nodup_iff.2 (qbs.2 ⟨λh=>qcw _ (ho.lt _ h),ho.nod⟩),
    λx h=>by
     rcases qax.1 (hp.mem_iff.1 h)with rfl | h
     .exact qbQ _
     exact qcY (ho.lt _ h),
    λx h=>by
     rcases qax.1 (hp.mem_iff.1 h)with rfl | h
     .exact hv
     exact ho.ne _ h⟩ (by
    rw[hp.length_eq,qaP];by_cases hvi:v<i
    .rw[if_pos hvi]at hx; rw[if_pos (by omega)]; omega
    rw[if_neg hvi]at hx; rw[if_neg (by omega)]; omega) hlt (by omega)
   refine⟨zs,?_,g2,g3⟩
   rw[show((i:Int)==(v:Int))=false from by rw[qdE]; omega,qdA,show((i:Int)).tmod 8=(i:Int)from by
     rw[show(8:Int)=((8:Nat):Int)from rfl,zvP,qbm (by omega)],e3,qaa,zak,zaJ (by omega),zah (by omega),zlM (by omega),qaa,hq,
    show(0:Int)=((0:Nat):Int)from rfl,zhw (qau _) (by rw[zak]; omega),qaa,zir (by simp[zak]; omega),qaa,
    zdt (by simp[zak]; omega),qaa,zhw hql (by rw[zak]; exact qap _),qaa,zdt (by simp[zak]; omega),qaa,qaa,zah (by omega),<- g1]
   congr 1
   simp[iL,qaO]
  have hie:i=m:=by omega
  subst hie;rw[qdC hlt,qdA];exact⟨xs,rfl,ho,hx⟩
theorem zwB{m:Nat}{l:A8_Intu8}(hl:∀ x∈[l.a0,l.a1,l.a2,l.a3,l.a4,l.a5,l.a6,l.a7],0<=x/\x<=255)(hm:m<=8)(hv:v<m):
  ∃ zs:List Nat,zc9 (m:Int) (v:Int) l=some (iL zs)/\OrdOk m v zs/\zs.length=m - 1:=by
 obtain⟨zs,g1,g2,g3⟩:=zlk (v:=v) hl hm (m+2) 0 [] ⟨.nil,(λ_ h=>nomatch h),(λ_ h=>nomatch h)⟩ rfl (qau _) (by omega);rw[if_pos hv]at g3;refine⟨zs,?_,g2,by omega⟩;unfold zc9;rw[zaq,show zcb (m:Int) (v:Int) l (m+2) [] 0=some (iL zs)from g1,qaa]
theorem zti(x:Int):∃ n:Nat,IntKind.u64.wrap x=(n:Int):=by
 have h:0<=IntKind.u64.wrap x:=by
  simp only[IntKind.wrap,IntKind.bits,IntKind.signed];simp;omega
 exact⟨(IntKind.u64.wrap x).toNat,by omega⟩
variable{a:S_haruspexlaw09_Ask}
theorem zB1{m:Nat}(h1:1<=m)(hm:m<=8):∃ v:Nat,v<m/\zck a (m:Int)=some (v:Int):=by
 obtain⟨n,hn⟩:=zti a.v;have hlt:=qbk n (show 0<m by omega);refine⟨n % m,hlt,?_⟩;unfold zck;rw[hn,show zfr (m:Int) 1=(m:Int)from by unfold zfr; split<;>omega,zcZ (by omega),zlM (by omega),qaa,zaJ (by omega)]
theorem zzn(ha:AskOk a)(h:RightN g ns):
  ∃(v:Nat) (e:List Int) (xs:List Nat) (r:A4_S_haruspexlaw09_Ask),zcv a (zbF g ns)=some r/\v<ns.length/\EvOk (ns.map (·.c)) e/\OrdOk ns.length v xs/\xs.length=ns.length - 1 /\
   zck a (ns.length:Int)=some (v:Int)/\zci a.known (zbF g ns)=some e/\zc9 (ns.length:Int) (v:Int) a.l=some (iL xs)/\
   ∀ x∈[r.a0,r.a1,r.a2,r.a3],x.order.length<=10:=by
 have hn8:=h.n2;have hn1:=h.n1;have hnl:(zbF g ns).nodes.length=ns.length:=by simp[zbF]
 obtain⟨v,v1,v2⟩:=zB1 (a:=a) hn1 hn8;obtain⟨e,e1,e2⟩:=zv8 (g:=g) ha.k hn8 λx hx=>(h.zap x hx).1
 obtain⟨xs,x1,x2,x3⟩:=zwB (l:=a.l) ha.l hn8 v1;obtain⟨y5,y51,y52,_⟩:=znT (xs:=a.e) (k:=10);obtain⟨y7,y71,y72,_⟩:=znT (xs:=a.order) (k:=10);rw[show((10:Nat):Int)=10 from rfl]at y51 y71;have hxl:(iL xs).length<=10:=by rw[zak]; omega
 refine⟨v,e,xs,_,by unfold zcv; rw[e1,qaa,hnl,v2,qaa,y51,qaa,y71,qaa,x1,qaa],v1,e2,x2,x3,v2,e1,x1,λx hx=>?_⟩;simp only[qax,qbR,or_false]at hx;rcases hx with rfl | rfl | rfl | rfl
 .exact hxl
 .exact hxl
 .exact hxl
 exact y72
theorem zzK{N:Nat}{dr:DraftN}{b:S_haruspexref05_Bend}(hN:1025<=N)(hd:DraftOk dr)(hb:BendOk b):
  ∃(g:Nat) (ns:List NN) (r:A2_S_api_Net),RightN g ns/\zby N (zco dr)=some (zbF g ns)/\zeN N (zco dr) b=some r/\Bnd r.a0/\Bnd r.a1:=by
 obtain⟨num,ns,h,_,e2⟩:=zxd hd hN;have h2:=h.bnd;obtain⟨y,e3,h3⟩:=zrt hb.what hb.at_ hb.row h2;refine⟨_,ns,⟨zbF (1+dr.grain % 60) ns,y⟩,h.right,e2,?_,h2.mono (by omega),h3.mono (by omega)⟩;unfold zeN;rw[e2,qaa];rw[show(⟨((1+dr.grain % 60:Nat):Int),ns.map nd⟩:S_api_Net)=zbF (1+dr.grain % 60) ns from rfl,e3,qaa]
end Go.Dc
namespace Go.Proofs.YtbjogdohfhdaiaaGreat.S
open Go Go.Mx Go.Lx Go.Dc Go.ChangeShapes Go.WideShapes Go.ChangeAt Go.RowKit
theorem zyd:Dec ziT [.int .u8,.int .u8,.int .u8,.int .u8,.int .u8,.int .u8,.int .u8,.int .u8] (λx=>okI .u8 x.a0/\okI .u8 x.a1/\okI .u8 x.a2/\okI .u8 x.a3/\okI .u8 x.a4/\okI .u8 x.a5/\okI .u8 x.a6/\okI .u8 x.a7):=
 Dec.iso (Dec.pair (Dec.int .u8) (Dec.pair (Dec.int .u8) (Dec.pair (Dec.int .u8) (Dec.pair (Dec.int .u8) (Dec.pair (Dec.int .u8) (Dec.pair (Dec.int .u8) (Dec.pair (Dec.int .u8) (Dec.int .u8))))))))
  (λx:A8_Intu8=>(x.a0,x.a1,x.a2,x.a3,x.a4,x.a5,x.a6,x.a7)) (λa=>⟨a.1,a.2.1,a.2.2.1,a.2.2.2.1,a.2.2.2.2.1,a.2.2.2.2.2.1,a.2.2.2.2.2.2.1,a.2.2.2.2.2.2.2⟩) (λ_=>rfl)
theorem zuf:Dec zds [.int .u8,.int .u8,.int .u8,.int .u8,.int .u8,.int .u8,.int .u8,.int .u8,.int .u8]
  (λx=>okI .u8 x.which/\okI .u8 x.v.a0/\okI .u8 x.v.a1/\okI .u8 x.v.a2/\okI .u8 x.v.a3/\okI .u8 x.v.a4/\okI .u8 x.v.a5/\okI .u8 x.v.a6/\okI .u8 x.v.a7):=
 Dec.iso (Dec.pair (Dec.int .u8) zyd) (λx:S_haruspexref05_Known=>(x.which,x.v)) (λa=>⟨a.1,a.2⟩) (λ_=>rfl)
theorem zy3:Dec zbS [.int .u8,.int .u8,.int .u8,.int .u8,.int .u8,.int .u8,.int .u8,.int .u8,.int .u8,.int .i64,.int .u8,.int .u8,.int .u8,.int .u8,.int .u8,.int .u8,.int .u8,.int .u8,.sl [.int .i64],.sl [.int .i64]]
  (λx=>(okI .u8 x.known.which/\okI .u8 x.known.v.a0/\okI .u8 x.known.v.a1/\okI .u8 x.known.v.a2/\okI .u8 x.known.v.a3/\okI .u8 x.known.v.a4/\okI .u8 x.known.v.a5/\okI .u8 x.known.v.a6/\okI .u8 x.known.v.a7)/\okI .i64 x.v /\
   (okI .u8 x.l.a0/\okI .u8 x.l.a1/\okI .u8 x.l.a2/\okI .u8 x.l.a3/\okI .u8 x.l.a4/\okI .u8 x.l.a5/\okI .u8 x.l.a6/\okI .u8 x.l.a7)/\okL (okI .i64) x.e/\okL (okI .i64) x.order):=
 Dec.iso (Dec.pair zuf (Dec.pair (Dec.int .i64) (Dec.pair zyd (Dec.pair (Dec.list (Dec.int .i64)) (Dec.list (Dec.int .i64))))))
  (λx:S_haruspexlaw09_Ask=>(x.known,x.v,x.l,x.e,x.order)) (λa=>⟨a.1,a.2.1,a.2.2.1,a.2.2.2.1,a.2.2.2.2⟩) (λ_=>rfl)
theorem zt7:zef Tryz.prog 8 33=some [.int .u8,.int .u8,.int .u8,.int .u8,.int .u8,.int .u8,.int .u8,.int .u8,.int .u8,.int .i64,.int .u8,.int .u8,.int .u8,.int .u8,.int .u8,.int .u8,.int .u8,.int .u8,.sl [.int .i64],.sl [.int .i64]]:=by kernel_rfl
theorem zBf:zsf Tryz.prog 33=true:=by kernel_rfl
theorem zyC:Tryz.prog.readableRec 33=true:=by kernel_rfl
theorem zAE{d:D}(h:ShA Tryz.prog 8 33 d):∃ x:S_haruspexlaw09_Ask,AskOk x/\d=.agg (zbS.c false x):=by
 obtain⟨x,⟨⟨_,k0,k1,k2,k3,k4,k5,k6,k7⟩,_,⟨l0,l1,l2,l3,l4,l5,l6,l7⟩,_⟩,h2⟩:=zy3.agg zBf zt7 h;refine⟨x,⟨⟨λy hy=>?_⟩,λy hy=>?_⟩,h2⟩
 .simp only[qax,qbR,or_false]at hy;rcases hy with rfl | rfl | rfl | rfl | rfl | rfl | rfl | rfl<;>exact zhb (by assumption)
 simp only[qax,qbR,or_false]at hy;rcases hy with rfl | rfl | rfl | rfl | rfl | rfl | rfl | rfl<;>exact zhb (by assumption)
end Go.Proofs.YtbjogdohfhdaiaaGreat.S
namespace Go.Dc
open Go Go.Mx Go.Lx
inductive Anc (par:Nat->Nat->Prop):Nat->Nat->Prop
 | refl (a:Nat):Anc par a a
 | up {a b c:Nat}:Anc par a b->par b c->Anc par a c
inductive Tr (par:Nat->Nat->Prop) (kn ab:Nat->Prop) (u:Nat):Bool->Nat->Prop
 | start:Tr par kn ab u false u
 | dn {d:Bool} {v c:Nat}:Tr par kn ab u d v->¬ kn v->par c v->Tr par kn ab u false c
 | tu {v p:Nat}:Tr par kn ab u false v->ab v->par v p->Tr par kn ab u true p
 | uu {v p:Nat}:Tr par kn ab u true v->¬ kn v->par v p->Tr par kn ab u true p
inductive Mr (par:Nat->Nat->Prop) (kn:Nat->Prop) (n:Nat):Nat->Prop
 | base:Mr par kn n n
 | step {a b:Nat}:Mr par kn n a->¬ kn a->(par a b\/par b a\/∃ c,par c a/\par c b)->Mr par kn n b
def ztG(par:Nat->Nat->Prop)(n u c q:Nat):Prop:=par c q\/(c=u/\q=n)
def zsc(par:Nat->Nat->Prop)(kn:Nat->Prop)(n u t i:Nat):Prop:=∃ a,(a=n\/a=t\/kn a)/\Anc (ztG par n u) a i
def kept(par:Nat->Nat->Prop)(kn:Nat->Prop)(n u t c q:Nat):Prop:=zsc par kn n u t c/\ztG par n u c q
section
variable {par:Nat->Nat->Prop} {kn ab:Nat->Prop} {n u t:Nat}
variable{a c:Nat}
theorem Anc.tr{b:Nat}(h1:Anc par a b)(h2:Anc par b c):Anc par a c:=by
 induction h2 with
 | refl=>exact h1
 | up _ e ih=>exact .up ih e
theorem Anc.x{b:Nat}(h:Anc par a b):Anc (ztG par n u) a b:=by
 induction h with
 | refl=>exact .refl _
 | up _ e ih=>exact .up ih (.inl e)
variable{i:Nat}
theorem zDT(hn:∀ q,¬ par n q)(hu:u≠n)(h:Anc (ztG par n u) n i):i=n:=by
 induction h with
 | refl=>rfl
 | up _ e ih=>
  subst ih;rcases e with e | ⟨e,_⟩
  .exact absurd e (hn _)
  exact absurd e.symm hu
theorem zAD(hn:∀ q,¬ par n q)(hu:u≠n)(h:Anc (ztG par n u) a i):i=n\/Anc par a i:=by
 induction h with
 | refl=>exact .inr (.refl _)
 | up _ e ih=>
  rcases e with e | ⟨_,e⟩
  .rcases ih with rfl | ih
   .exact absurd e (hn _)
   exact .inr (.up ih e)
  exact .inl e
theorem zwp(hn:∀ q,¬ par n q)(hu:u≠n)(hi:i≠n):zsc par kn n u t i↔∃ a,(a=t\/kn a)/\Anc par a i:=by
 constructor
 .rintro⟨a,rfl | h,r⟩
  .exact absurd (zDT hn hu r) hi
  rcases zAD hn hu r with e | r
  .exact absurd e hi
  exact⟨a,h,r⟩
 rintro⟨a,h,r⟩;exact⟨a,.inr h,r.x⟩
theorem zpb{q:Nat}(h:zsc par kn n u t c)(e:ztG par n u c q):zsc par kn n u t q:=by
 obtain⟨a,h1,h2⟩:=h;exact⟨a,h1,.up h2 e⟩
theorem zDy(hab:∀ i,ab i↔∃ e,kn e/\Anc par e i)(hkn:¬ kn n){d:Bool}{x:Nat}(h:Tr par kn ab u d x):
  (d=true->ab x/\Mr (kept par kn n u t) kn n x)/\(d=false->∃ z,ztG par n u x z/\¬ kn z/\(zsc par kn n u t z->Mr (kept par kn n u t) kn n z)):=by
 have hold:∀ {i:Nat},ab i->zsc par kn n u t i:=λh=>by
  obtain⟨e,h1,h2⟩:=(hab _).1 h;exact⟨e,.inr (.inr h1),h2.x⟩
 have hup:∀ {i j:Nat},ab i->par i j->ab j:=λh e=>by
  obtain⟨a,h1,h2⟩:=(hab _).1 h;exact(hab _).2 ⟨a,h1,.up h2 e⟩
 have hdn:∀ {x:Nat},(∃ z,ztG par n u x z/\¬ kn z/\(zsc par kn n u t z->Mr (kept par kn n u t) kn n z))->zsc par kn n u t x->Mr (kept par kn n u t) kn n x:=by
  rintro x ⟨z,z1,z2,z3⟩ ho;exact .step (z3 (zpb ho z1)) z2 (.inr (.inl ⟨ho,z1⟩))
 induction h with
 | start=>exact⟨λh=>(by cases h),λ_=>⟨n,.inr ⟨rfl,rfl⟩,hkn,λ_=>.base⟩⟩
 | @dn d v c h hk e ih=>
  refine⟨λh=>(by cases h),λ_=>⟨v,.inl e,hk,λho=>?_⟩⟩;cases d with
  | true=>exact(ih.1 rfl).2
  | false=>exact hdn (ih.2 rfl) ho
 | @tu v p h ha e ih=>
  refine⟨λ_=>⟨hup ha e,?_⟩,λh=>(by cases h)⟩;obtain⟨z,z1,z2,z3⟩:=ih.2 rfl;have ho:=hold ha;exact .step (z3 (zpb ho z1)) z2 (.inr (.inr ⟨v,⟨ho,z1⟩,⟨ho,.inl e⟩⟩))
 | @uu v p h hk e ih=>
  obtain⟨h1,h2⟩:=ih.1 rfl;exact⟨λ_=>⟨hup h1 e,.step h2 hk (.inl ⟨hold h1,.inl e⟩)⟩,λh=>(by cases h)⟩
theorem zzo(hab:∀ i,ab i↔∃ e,kn e/\Anc par e i)(h:Anc par t c):¬ ab c->(∃ d,Tr par kn ab u d c)->∃ d,Tr par kn ab u d t:=by
 induction h with
 | refl=>exact λ_ h=>h
 | @up b c h e ih=>
  rintro ha ⟨d,hd⟩;refine ih (λhb=>ha ?_) ⟨false,.dn hd (λhk=>ha ((hab _).2 ⟨c,hk,.refl c⟩)) e⟩;obtain⟨a,h1,h2⟩:=(hab _).1 hb;exact(hab _).2 ⟨a,h1,.up h2 e⟩
theorem zDk(hab:∀ i,ab i↔∃ e,kn e/\Anc par e i)(hn:∀ q,¬ par n q)(hn':∀ c,¬ par c n)(hu:u≠n){x:Nat}(h:Mr (kept par kn n u t) kn n x):
  (∃ d,Tr par kn ab u d t)\/x=n\/kn x\/∃ d,Tr par kn ab u d x:=by
 have hcase:∀ {c:Nat},c≠n->zsc par kn n u t c->ab c\/(¬ ab c/\Anc par t c):=λ{c} hc ho=>by
  by_cases ha:ab c
  .exact .inl ha
  obtain⟨a,h1,h2⟩:=(zwp hn hu hc).1 ho;rcases h1 with rfl | h1
  .exact .inr ⟨ha,h2⟩
  exact absurd ((hab _).2 ⟨a,h1,h2⟩) ha
 have htop:∀ {c b:Nat},c≠n->Tr par kn ab u false c->zsc par kn n u t c->par c b->(∃ d,Tr par kn ab u d t)\/∃ d,Tr par kn ab u d b:=λ{c b} hc ht ho e=>by
  rcases hcase hc ho with ha | ⟨ha,hr⟩
  .exact .inr ⟨true,.tu ht ha e⟩
  exact .inl (zzo hab hr ha ⟨false,ht⟩)
 have hun:∀ {q:Nat},¬ ztG par n u n q:=λ{q} e=>e.elim (hn q) λe=>hu e.1.symm
 induction h with
 | base=>exact .inr (.inl rfl)
 | @step a b h hk e ih=>
  by_cases hbn:b=n
  .exact .inr (.inl hbn)
  by_cases han:a=n
  .subst han;rcases e with⟨_,e⟩| ⟨_,e⟩| ⟨c,⟨ho,e1⟩,⟨_,e2⟩⟩
   .exact absurd e hun
   .rcases e with e | ⟨e,_⟩
    .exact absurd e (hn' _)
    exact .inr (.inr (.inr ⟨false,e ▸ .start⟩))
   rcases e1 with e1 | ⟨rfl,_⟩
   .exact absurd e1 (hn' _)
   rcases e2 with e2 | ⟨_,e2⟩
   .exact(htop hu .start ho e2).elim .inl λh=>.inr (.inr (.inr h))
   exact absurd e2 hbn
  rcases ih with ih | ih | ih | ⟨d,hd⟩
  .exact .inl ih
  .exact absurd ih han
  .exact absurd ih hk
  rcases e with⟨ho,e⟩| ⟨_,e⟩| ⟨c,⟨ho,e1⟩,⟨_,e2⟩⟩
  .rcases e with e | ⟨_,e⟩
   .cases d with
    | true=>exact .inr (.inr (.inr ⟨true,.uu hd hk e⟩))
    | false=>exact(htop han hd ho e).elim .inl λh=>.inr (.inr (.inr h))
   exact absurd e hbn
  .rcases e with e | ⟨_,e⟩
   .exact .inr (.inr (.inr ⟨false,.dn hd hk e⟩))
   exact absurd e han
  rcases e1 with e1 | ⟨_,e1⟩
  .have hc:c≠n:=λe=>hn _ (e ▸ e1)
   rcases e2 with e2 | ⟨_,e2⟩
   .exact(htop hc (.dn hd hk e1) ho e2).elim .inl λh=>.inr (.inr (.inr h))
   exact absurd e2 hbn
  exact absurd e1 han
theorem zAN(hab:∀ i,ab i↔∃ e,kn e/\Anc par e i)(hn:∀ q,¬ par n q)(hn':∀ c,¬ par c n)(hu:u≠n)(hkn:¬ kn n)(ht:t≠n)(hkt:¬ kn t):(∃ d,Tr par kn ab u d t)↔Mr (kept par kn n u t) kn n t:=by
 have ho:zsc par kn n u t t:=⟨t,.inr (.inl rfl),.refl t⟩;constructor
 .rintro⟨d,h⟩;have hm:=zDy (t:=t) hab hkn h;cases d with
  | true=>exact(hm.1 rfl).2
  | false=>
   obtain⟨z,z1,z2,z3⟩:=hm.2 rfl;exact .step (z3 (zpb ho z1)) z2 (.inr (.inl ⟨ho,z1⟩))
 intro h;rcases zDk hab hn hn' hu h with h | h | h | h
 .exact h
 .exact absurd h ht
 .exact absurd h hkt
 exact h
end
section
variable {par:Nat->Nat->Prop} {kn ab:Nat->Prop} {n u t:Nat}
theorem Mr.trans{par:Nat->Nat->Prop}{a b c:Nat}(h1:Mr par kn a b)(h2:Mr par kn b c):Mr par kn a c:=by
 induction h2 with
 | base=>exact h1
 | step _ hk e ih=>exact .step ih hk e
theorem Mr.mono{par par':Nat->Nat->Prop}(hp:∀ c q,par c q->par' c q){a b:Nat}(h:Mr par kn a b):Mr par' kn a b:=by
 induction h with
 | base=>exact .base
 | step _ hk e ih=>
  refine .step ih hk ?_;rcases e with e | e | ⟨c,e1,e2⟩
  .exact .inl (hp _ _ e)
  .exact .inr (.inl (hp _ _ e))
  exact .inr (.inr ⟨c,hp _ _ e1,hp _ _ e2⟩)
end
def zeH(ms:List Nat)(c p:Nat):Prop:=(ms.getD c 0).testBit p=true
variable{a b:Nat}
theorem zgY{ms:List Nat}:Anc (zeH ms) a b↔Reach ms a b:=by
 constructor
 .intro h;induction h with
  | refl=>exact .refl _
  | up _ e ih=>exact ih.tr (.step e (.refl _))
 intro h;induction h with
 | refl=>exact .refl _
 | step e _ ih=>exact(Anc.up (.refl _) e).tr ih
theorem zm4(ms:List Nat)(j:Nat):(ms ++ [0]).getD j 0=ms.getD j 0:=by
 rw[qae,qae];rcases Nat.lt_trichotomy j ms.length with h | h | h
 .rw[qan h]
 .subst h; simp
 rw[qaB (by omega),qaI (by simp; omega),qaI (by omega)]
def msX(ms:List Nat)(u:Nat):List Nat:=(ms ++ [0]).set u (ms.getD u 0 ||| 2 ^ ms.length)
theorem zvq(ms:List Nat)(u:Nat):(msX ms u).length=ms.length+1:=by simp[msX]
variable{c:Nat}
theorem zlB{ms:List Nat}{u q:Nat}(hu:u<ms.length):zeH (msX ms u) c q↔ztG (zeH ms) ms.length u c q:=by
 unfold zeH msX ztG;rw[ziw (by simp; omega),zm4];by_cases e:u=c
 .subst e;rw[if_pos rfl,qbj,qbf,qaZ,qdF];exact⟨λh=>h.elim .inl λh=>.inr ⟨rfl,h.symm⟩,λh=>h.elim .inl λh=>.inr h.2.symm⟩
 rw[if_neg e];exact⟨.inl,λh=>h.elim id λh=>absurd h.1.symm e⟩
def zeV(ms:List Nat)(old:Nat):List Nat:=(List.range ms.length).map λv=>bif old.testBit v then ms.getD v 0 else 0
variable{v:Nat}
theorem zgS{n:Nat}{f:Nat->Nat}(h0:n<=v->f v=0):((List.range n).map f).getD v 0=f v:=by
 rw[qae,qaW];by_cases h:v<n
 .rw[qcF h]; rfl
 rw[qaI (by simp; omega),h0 (by omega)]; rfl
theorem zms{ms:List Nat}{old q:Nat}:zeH (zeV ms old) c q↔old.testBit c=true/\zeH ms c q:=by
 unfold zeH zeV;rw[zgS λh=>by rw[qae,qaI h]; cases old.testBit c<;>rfl];cases old.testBit c with
 | false=>simp
 | true=>simp
theorem zwV{ms:List Nat}(hn:ms.length<=60)(he:EOk ms):∃ ds,MoralOk ms ds:=by
 have hf:∀ u j,u<ms.length->(zsd ms u).testBit j=true->j<ms.length:=λu j hu h=>by
  unfold zsd at h;rw[zkF,qaZ,qdF]at h;rcases h with h | rfl
  .exact(he u j h).2
  exact hu
 refine⟨(List.range ms.length).map λi=>zbi ((List.range ms.length).filter λj=>decide (i≠j) && (List.range ms.length).any λu=>(zsd ms u).testBit i && (zsd ms u).testBit j),by simp,λd hd=>?_,λi j hi=>?_⟩
 .obtain⟨i,_,rfl⟩:=qaz.1 hd;exact zzT λv hv=>by have:=qbi.1 (qaM.1 hv).1; omega
 rw[zgS λh=>absurd hi (by omega),zcp,qdF,qaM,qbi,qag,qdF,List.any_eq_true];constructor
 .rintro⟨_,h1,u,h2,h3⟩;obtain⟨h3,h4⟩:=qbI.1 h3;exact⟨h1,u,qbi.1 h2,h3,h4⟩
 rintro⟨h1,u,h2,h3,h4⟩;exact⟨hf u j h2 h4,h1,u,qbi.2 h2,qbI.2 ⟨h3,h4⟩⟩
def ziA(ds:List Nat)(z:Nat):List Nat:=(List.range ds.length).map λv=>bif z.testBit v then 0 else ds.getD v 0
variable{ds:List Nat}{z:Nat}
theorem zlI{q:Nat}:zeH (ziA ds z) c q↔z.testBit c=false/\zeH ds c q:=by
 unfold zeH ziA;rw[zgS λh=>by rw[qae,qaI h]; cases z.testBit c<;>rfl];cases z.testBit c with
 | false=>simp
 | true=>simp
theorem zAF{ms:List Nat}(he:EOk ms)(hd:MoralOk ms ds){n i:Nat}(hn:n<ms.length):Reach (ziA ds z) n i↔Mr (zeH ms) (λj=>z.testBit j=true) n i:=by
 have hfam:∀ u j,(zsd ms u).testBit j=true↔zeH ms u j\/u=j:=λu j=>by
  unfold zsd;rw[zkF,qaZ,qdF];rfl
 have hadj:∀ a b,a<ms.length->a≠b->(zeH ds a b↔(zeH ms a b\/zeH ms b a\/∃ c,zeH ms c a/\zeH ms c b)):=λa b ha hab=>by
  unfold zeH;rw[hd.bit a b ha];constructor
  .rintro⟨_,u,_,h1,h2⟩;rw[hfam]at h1 h2;rcases h1 with h1 | rfl
   .rcases h2 with h2 | rfl
    .exact .inr (.inr ⟨u,h1,h2⟩)
    exact .inr (.inl h1)
   exact .inl (h2.resolve_right hab)
  intro h;refine⟨hab,?_⟩;rcases h with h | h | ⟨c,h1,h2⟩
  .exact⟨a,ha,(hfam _ _).2 (.inr rfl),(hfam _ _).2 (.inl h)⟩
  .exact⟨b,(he _ _ h).1,(hfam _ _).2 (.inl h),(hfam _ _).2 (.inr rfl)⟩
  exact⟨c,(he _ _ h1).1,(hfam _ _).2 (.inl h1),(hfam _ _).2 (.inl h2)⟩
 have hbit:∀ a b,zeH ds a b->a<ms.length/\a≠b:=λa b h=>by
  have ha:a<ms.length:=by
   refine qaT λhc=>?_
   unfold zeH at h;rw[qae,qaI (by rw[hd.len]; omega)]at h;simp at h
  exact⟨ha,((hd.bit a b ha).1 h).1⟩
 constructor
 .intro h;induction h with
  | refl=>exact .base
  | step e _ ih=>
   obtain⟨h1,h2⟩:=zlI.1 e;obtain⟨h3,h4⟩:=hbit _ _ h2
   exact(Mr.step .base (by rw[h1]; decide) ((hadj _ _ h3 h4).1 h2)).trans (ih (by
    rcases(hadj _ _ h3 h4).1 h2 with h | h | ⟨c,_,h⟩
    .exact(he _ _ h).2
    .exact(he _ _ h).1
    exact(he _ _ h).2))
 intro h;induction h with
 | base=>exact .refl _
 | @step a b h hk e ih=>
  by_cases hab:a=b
  .exact hab ▸ ih
  have ha:a<ms.length:=by
   rcases e with h | h | ⟨c,h,_⟩
   .exact(he _ _ h).1
   .exact(he _ _ h).2
   exact(he _ _ h).2
  exact ih.tr (.step (zlI.2 ⟨by cases hz:z.testBit a with | false=>rfl | true=>exact absurd hz hk,(hadj a b ha hab).2 e⟩) (.refl _))
abbrev ze3(K i:Nat):Prop:=K.testBit i=true
structure ChOk (ms cs:List Nat):Prop where
 n:ms.length<=60
 len:cs.length=ms.length
 lt:∀ m∈ms,m<18446744073709551616
 clt:∀ m∈cs,m<18446744073709551616
 e:EOk ms
 turn:∀ p c,(cs.getD p 0).testBit c=true↔(ms.getD c 0).testBit p=true
structure FlOk (ms:List Nat) (K A u D U:Nat):Prop where
 dl:D<18446744073709551616
 ul:U<18446744073709551616
 st:D.testBit u=true
 d:∀ i,D.testBit i=true->Tr (zeH ms) (ze3 K) (ze3 A) u false i
 up:∀ i,U.testBit i=true->Tr (zeH ms) (ze3 K) (ze3 A) u true i
theorem zCc{ms:List Nat}(he:EOk ms){kn ab:Nat->Prop}{u:Nat}(hu:u<ms.length){d:Bool}{x:Nat}(h:Tr (zeH ms) kn ab u d x):x<ms.length:=by
 cases h with
 | start=>exact hu
 | dn _ _ e=>exact(he _ _ e).1
 | tu _ _ e=>exact(he _ _ e).2
 | uu _ _ e=>exact(he _ _ e).2
theorem zuk(h:Sub a b)(hne:b≠a):∃ x,a.testBit x=false/\b.testBit x=true:=by
 refine qaT λhno=>hne ?_
 refine Sub.zDZ (λi hi=>?_) h;cases ha:a.testBit i with
 | true=>rfl
 | false=>exact absurd ⟨i,ha,hi⟩ hno
theorem zx4(a b:Nat):Sub a (a ||| b):=λi hi=>by rw[qbj,hi,Bool.true_or]
def zzu(ms cs:List Nat)(K A D U w:Nat):Prop:=
 ((D.testBit w=true\/U.testBit w=true)->K.testBit w=false->Sub (cs.getD w 0) D)/\(((D.testBit w=true/\A.testBit w=true)\/(U.testBit w=true/\K.testBit w=false))->Sub (ms.getD w 0) U)
theorem zny(h:a ||| b=a):Sub b a:=λi hi=>by
 rw[<- h,qbj,hi,qdx]
theorem zmC{ms cs:List Nat}(hc:ChOk ms cs){K A u D U:Nat}(hK:K<18446744073709551616)(hA:A<18446744073709551616)(hu:u<ms.length)(hf:FlOk ms K A u D U):∀(n v:Nat),v<=ms.length->ms.length - v<n->(∀ w,w<v->zzu ms cs K A D U w)->
  (zaM (iL ms) (D:Int) (U:Int) (K:Int) (iL cs) (A:Int) n (v:Int)=some (.go ())/\∀ w,w<ms.length->zzu ms cs K A D U w)\/
  ∃ D' U':Nat,zaM (iL ms) (D:Int) (U:Int) (K:Int) (iL cs) (A:Int) n (v:Int)=some (.brk ((D':Int),(U':Int)))/\FlOk ms K A u D' U'/\cnt ms.length D+cnt ms.length U<cnt ms.length D'+cnt ms.length U'
 | 0,_,_,h,_=>absurd h (qak _)
 | n+1,v,hv,hn,hs=>by
  have hn60:=hc.n;unfold zaM;rw[zak,zam];by_cases hlt:v<ms.length
  .have hor:D ||| U<18446744073709551616:=qbc (n:=64) hf.dl hf.ul;have hda:D &&& A<18446744073709551616:=qb7 Nat.and_le_left hf.dl;have hB:(D &&& A)||| diff U K<18446744073709551616:=qbc (n:=64) hda (zjg _ _);have hcv:=zcy hc.clt v;have hmv:=zcy hc.lt v;have hcl:v<cs.length:=by rw[hc.len]; exact hlt
   obtain⟨q4,a1,a2⟩:=zzM (a:=diff (D ||| U) K) (v:=v) (zjg _ _) (by omega);obtain⟨q9,b1,b2⟩:=zzM (a:=(D &&& A)||| diff U K) (v:=v) hB (by omega);have t1:(diff (D ||| U) K).testBit v=((D.testBit v || U.testBit v) && !K.testBit v):=by rw[zgN hor hK,qbj]
   have t2:((D &&& A)||| diff U K).testBit v=((D.testBit v && A.testBit v)|| (U.testBit v && !K.testBit v)):=by rw[qbj,Nat.testBit_and,zgN hf.ul hK]
   obtain⟨D',hD'⟩:∃ D',D'=(bif (D.testBit v || U.testBit v) && !K.testBit v then D ||| cs.getD v 0 else D):=⟨_,rfl⟩;obtain⟨U',hU'⟩:∃ U',U'=(bif (D.testBit v && A.testBit v)|| (U.testBit v && !K.testBit v)then U ||| ms.getD v 0 else U):=⟨_,rfl⟩;have e1:((bif ((zkd .u64 q4 1)== 1)then((zaz (iL cs) (v:Int)).bind λx7=>some (orI .u64 (D:Int) x7))else some (D:Int):Option Int))=some (D':Int):=by
    rw[a2,t1,hD'];cases(D.testBit v || U.testBit v) && !K.testBit v with
    | true=>rw[show((((true:Bool).toNat:Nat):Int)== 1)=true from rfl,qdz,qdz,zet hcl,qaa,orU hf.dl hcv]
    | false=>rfl
   have e2:((bif ((zkd .u64 q9 1)== 1)then((zaz (iL ms) (v:Int)).bind λx12=>some (orI .u64 (U:Int) x12))else some (U:Int):Option Int))=some (U':Int):=by
    rw[b2,t2,hU'];cases(D.testBit v && A.testBit v)|| (U.testBit v && !K.testBit v)with
    | true=>rw[show((((true:Bool).toNat:Nat):Int)== 1)=true from rfl,qdz,qdz,zet hlt,qaa,orU hf.ul hmv]
    | false=>rfl
   have hsD:Sub D D':=by
    rw[hD'];cases(D.testBit v || U.testBit v) && !K.testBit v with
    | true=>exact zx4 _ _
    | false=>exact Sub.zCG
   have hsU:Sub U U':=by
    rw[hU'];cases(D.testBit v && A.testBit v)|| (U.testBit v && !K.testBit v)with
    | true=>exact zx4 _ _
    | false=>exact Sub.zCG
   have hFl:FlOk ms K A u D' U':=by
    refine⟨?_,?_,hsD _ hf.st,λi hi=>?_,λi hi=>?_⟩
    .rw[hD'];cases(D.testBit v || U.testBit v) && !K.testBit v with
     | true=>exact qbc (n:=64) hf.dl hcv
     | false=>exact hf.dl
    .rw[hU'];cases(D.testBit v && A.testBit v)|| (U.testBit v && !K.testBit v)with
     | true=>exact qbc (n:=64) hf.ul hmv
     | false=>exact hf.ul
    .rw[hD']at hi;cases hb:(D.testBit v || U.testBit v) && !K.testBit v with
     | false=>rw[hb,qdA]at hi; exact hf.d i hi
     | true=>
      rw[hb,qdz,qbj,qaZ]at hi;rcases hi with hi | hi
      .exact hf.d i hi
      obtain⟨k1,k2⟩:=qbI.1 hb;have k2':¬ ze3 K v:=by
       intro hk;rw[show K.testBit v=true from hk]at k2;cases k2
      rcases qce.1 k1 with k1 | k1
      .exact .dn (hf.d v k1) k2' ((hc.turn v i).1 hi)
      exact .dn (hf.up v k1) k2' ((hc.turn v i).1 hi)
    rw[hU']at hi;cases hb:(D.testBit v && A.testBit v)|| (U.testBit v && !K.testBit v)with
    | false=>rw[hb,qdA]at hi; exact hf.up i hi
    | true=>
     rw[hb,qdz,qbj,qaZ]at hi;rcases hi with hi | hi
     .exact hf.up i hi
     rcases qce.1 hb with k | k
     .obtain⟨k1,k2⟩:=qbI.1 k;exact .tu (hf.d v k1) k2 hi
     obtain⟨k1,k2⟩:=qbI.1 k;exact .uu (hf.up v k1) (λhk=>by rw[show K.testBit v=true from hk]at k2; cases k2) hi
   have hin:∀ {D U:Nat},FlOk ms K A u D U->(∀ x,D.testBit x=true->x<ms.length)/\(∀ x,U.testBit x=true->x<ms.length):=λh=>⟨λx hx=>zCc hc.e hu (h.d x hx),λx hx=>zCc hc.e hu (h.up x hx)⟩
   rw[qdB hlt,qdz,orU hf.dl hf.ul,zCD,a1,qaa,e1,qaa,zEb hf.dl hA,zCD,orU hda (zjg _ _),b1,qaa,e2,qaa];by_cases c1:D'=D
   .by_cases c2:U'=U
    .rw[c1,c2,qdD,qdz,qdD,qba,qaa,qdA,zah (by omega)];refine zmC hc hK hA hu hf n (v+1) hlt (by omega) λw hw=>?_
     by_cases ew:w=v
     .subst ew;refine⟨λk1 k2=>?_,λk1=>?_⟩
      .have:((D.testBit w || U.testBit w) && !K.testBit w)=true:=by rw[k2,qce.2 k1]; rfl
       rw[this,qdz]at hD';exact zny (hD'.symm.trans c1)
      have:((D.testBit w && A.testBit w)|| (U.testBit w && !K.testBit w))=true:=by
       rcases k1 with⟨k1,k2⟩| ⟨k1,k2⟩
       .rw[k1,k2]; rfl
       rw[k1,k2]; simp
      rw[this,qdz]at hU';exact zny (hU'.symm.trans c2)
     exact hs w (by omega)
    rw[c1,qdD,qdz,show(((U':Nat):Int)==(U:Int))=false from by rw[qdE]; omega,qbK,qaa,qdz];refine .inr ⟨D,U',rfl,c1 ▸ hFl,?_⟩;obtain⟨x,x1,x2⟩:=zuk hsU c2;have:=zq0 hsU ⟨x,(hin hFl).2 x x2,x1,x2⟩;omega
   rw[show(((D':Nat):Int)==(D:Int))=false from by rw[qdE]; omega,qdA,qaa,qdz];refine .inr ⟨D',U',rfl,hFl,?_⟩;obtain⟨x,x1,x2⟩:=zuk hsD c1;have h1:=zq0 hsD ⟨x,(hin hFl).1 x x2,x1,x2⟩;by_cases c2:U'=U
   .rw[c2]; omega
   obtain⟨y,y1,y2⟩:=zuk hsU c2;have:=zq0 hsU ⟨y,(hin hFl).2 y y2,y1,y2⟩;omega
  rw[qdC hlt,qdA];exact .inl ⟨rfl,λw hw=>hs w (by omega)⟩
variable{A:Nat}
theorem zsv{ms cs:List Nat}(hc:ChOk ms cs){K u D U:Nat}(hf:FlOk ms K A u D U)(hs:∀ w,w<ms.length->zzu ms cs K A D U w){d:Bool}{x:Nat}(h:Tr (zeH ms) (ze3 K) (ze3 A) u d x):(bif d then U else D).testBit x=true:=by
 have hk:∀ {i},¬ ze3 K i->K.testBit i=false:=λ{i} h=>by
  cases hb:K.testBit i with
  | false=>rfl
  | true=>exact absurd hb h
 induction h with
 | start=>exact hf.st
 | @dn d v c _ h2 e ih=>
  refine(hs v (hc.e _ _ e).2).1 ?_ (hk h2) c ((hc.turn v c).2 e);cases d with
  | true=>exact .inr ih
  | false=>exact .inl ih
 | @tu v p _ h2 e ih=>exact(hs v (hc.e _ _ e).1).2 (.inl ⟨ih,h2⟩) p e
 | @uu v p _ h2 e ih=>exact(hs v (hc.e _ _ e).1).2 (.inr ⟨ih,hk h2⟩) p e
theorem zmE{ms cs:List Nat}(hc:ChOk ms cs){K A u:Nat}(hK:K<18446744073709551616)(hA:A<18446744073709551616)(hu:u<ms.length):∀(n D U:Nat),FlOk ms K A u D U->2 * ms.length - (cnt ms.length D+cnt ms.length U)<n ->
  ∃ F:Nat,za5 (iL ms) (K:Int) (iL cs) (A:Int) n (D:Int) (U:Int)=some (.ret (F:Int))/\F<18446744073709551616/\∀ i,F.testBit i=true↔(∃ d,Tr (zeH ms) (ze3 K) (ze3 A) u d i)/\¬ ze3 K i
 | 0,_,_,_,h=>absurd h (qak _)
 | n+1,D,U,hf,hn=>by
  unfold za5;have hor:D ||| U<18446744073709551616:=qbc (n:=64) hf.dl hf.ul;rcases zmC hc hK hA hu hf (ms.length+2) 0 (qau _) (by omega) (λw h=>absurd h (qak _))with⟨h1,h2⟩| ⟨D',U',h1,h2,h3⟩
  .rw[zak,zaq,show zaM (iL ms) (D:Int) (U:Int) (K:Int) (iL cs) (A:Int) (ms.length+2) 0=_ from h1,qaa,orU hf.dl hf.ul,zCD];refine⟨diff (D ||| U) K,rfl,zjg _ _,λi=>?_⟩;rw[zgN hor hK,qbj,qag,qaZ,qbC];constructor
   .rintro⟨h,hk⟩;refine⟨?_,λhb=>by rw[show K.testBit i=true from hb]at hk; cases hk⟩;rcases h with h | h
    .exact⟨false,hf.d i h⟩
    exact⟨true,hf.up i h⟩
   rintro⟨⟨d,h⟩,hk⟩;have:=zsv hc hf h2 h;refine⟨?_,by cases hb:K.testBit i with | false=>rfl | true=>exact absurd hb hk⟩;cases d with
   | true=>exact .inr this
   | false=>exact .inl this
  rw[zak,zaq,show zaM (iL ms) (D:Int) (U:Int) (K:Int) (iL cs) (A:Int) (ms.length+2) 0=_ from h1,qaa];have c1:=zuV ms.length D';have c2:=zuV ms.length U';exact zmE hc hK hA hu n D' U' h2 (by omega)
variable{N:Nat}
theorem zw9{ms cs:List Nat}(hc:ChOk ms cs){K u:Nat}(hK:K<18446744073709551616)(hA:A<18446744073709551616)(hu:u<ms.length)(hN:200<=N):
  ∃ F:Nat,zbI N (u:Int) (iL ms) (iL cs) (K:Int) (A:Int)=some (F:Int)/\F<18446744073709551616/\∀ i,F.testBit i=true↔(∃ d,Tr (zeH ms) (ze3 K) (ze3 A) u d i)/\¬ ze3 K i:=by
 have hn60:=hc.n;have hp:2 ^ u<18446744073709551616:=(qa0 (by decide) (show u<64 by omega):2 ^ u<2 ^ 64)
 obtain⟨F,f1,f2,f3⟩:=zmE hc hK hA hu N (2 ^ u) 0 ⟨hp,by decide,by rw[qbf]; exact qdB rfl,λi hi=>by
  rw[qbf]at hi
  exact qdG hi ▸ .start,λi hi=>by simp at hi⟩ (by omega)
 refine⟨F,?_,f2,f3⟩;unfold zbI;rw[zoy (by omega),qaa,show za5 (iL ms) (K:Int) (iL cs) (A:Int) N ((2 ^ u:Nat):Int) 0=_ from f1,qaa]
structure PcOk (ns:List NN) (i:Nat) (ts:List Nat) (P Q:List Nat):Prop where
 pl:P.length=ns.length
 ql:Q.length=ns.length
 plt:∀ m∈P,m<18446744073709551616
 qlt:∀ m∈Q,m<18446744073709551616
 p:∀ c q,(P.getD c 0).testBit q=true↔(c<i/\q∈(ns.getD c zhA).ps)\/(c=i/\q∈ts)
 q:∀ q c,(Q.getD q 0).testBit c=true↔(c<i/\q∈(ns.getD c zhA).ps)\/(c=i/\q∈ts)
theorem zuH{xs:List Nat}{i y:Nat}(h:∀ m∈xs,m<18446744073709551616)(hy:y<18446744073709551616):∀ m∈xs.set i y,m<18446744073709551616:=λm hm=>by
 rcases qbF hm with hm | rfl
 .exact h m hm
 exact hy
theorem zA5{g:Nat}{ns:List NN}(h:RightN g ns){i:Nat}(hi:i<ns.length){q:S_eliminate_query}:∀(n k:Nat) (P Q:List Nat),PcOk ns i ((ns.getD i zhA).ps.take k) P Q->k<=(ns.getD i zhA).ps.length->(ns.getD i zhA).ps.length - k<n ->
  ∃ P' Q',zaD (nd (ns.getD i zhA)) (i:Int) q n (k:Int) (iL P) (iL Q)=some (iL P',iL Q')/\PcOk ns i (ns.getD i zhA).ps P' Q'
 | 0,_,_,_,_,_,h=>absurd h (qak _)
 | n+1,k,P,Q,hp,hk,hf=>by
  have hn8:=h.n2;unfold zaD;rw[show(nd (ns.getD i zhA)).parents=iL (ns.getD i zhA).ps from rfl,zak,zam];by_cases hlt:k<(ns.getD i zhA).ps.length
  .obtain⟨x,hx⟩:∃ x,(ns.getD i zhA).ps[k]=x:=⟨_,rfl⟩;have hxm:x∈(ns.getD i zhA).ps:=hx ▸ qao hlt;have hxn:x<ns.length:=by
    have:=(h.stc hi).var x (zi2.2 (.inr hxm))
    rwa [qay]at this
   have htk:(ns.getD i zhA).ps.take (k+1)=(ns.getD i zhA).ps.take k ++ [x]:=by rw[List.take_add_one,qac hlt,hx]; rfl
   have hx64:2 ^ x<18446744073709551616:=(qa0 (by decide) (show x<64 by omega):2 ^ x<2 ^ 64);have hi64:2 ^ i<18446744073709551616:=(qa0 (by decide) (show i<64 by omega):2 ^ i<2 ^ 64);have hPi:i<P.length:=by rw[hp.pl]; exact hi
   have hQx:x<Q.length:=by rw[hp.ql]; exact hxn
   have hp1:=zcy hp.plt i;have hq1:=zcy hp.qlt x;have l8:(ns.getD i zhA).ps.length<=8:=by
    have hm:ns.getD i zhA∈ns:=zuL hi;exact h.zB9 hm
   rw[qdB hlt,qdz,zbf hlt,hx,qaa,zet hPi,qaa,zoy (by omega),qaa,orU hp1 hx64,zhV hPi,qaa,zet hQx,qaa,zoy (by omega),qaa,orU hq1 hi64,zhV hQx,qaa,zah (by omega)];refine zA5 h hi n (k+1) _ _ ⟨by rw[qat]; exact hp.pl,by rw[qat]; exact hp.ql,zuH hp.plt (qbc (n:=64) hp1 hx64),zuH hp.qlt (qbc (n:=64) hq1 hi64),λc y=>?_,λy c=>?_⟩ hlt (by omega)
   .rw[ziw hPi,htk,qa8,qaL];by_cases e:i=c
    .subst e;rw[if_pos rfl,qbj,qbf,qaZ,hp.p,qdF];constructor
     .rintro((a | a)| a)
      .exact .inl a
      .exact .inr ⟨rfl,.inl a.2⟩
      exact .inr ⟨rfl,.inr a.symm⟩
     rintro(a | ⟨_,a | a⟩)
     .exact .inl (.inl a)
     .exact .inl (.inr ⟨rfl,a⟩)
     exact .inr a.symm
    rw[if_neg e,hp.p];constructor
    .rintro(a | a)
     .exact .inl a
     exact absurd a.1.symm e
    rintro(a | a)
    .exact .inl a
    exact absurd a.1.symm e
   rw[ziw hQx,htk,qa8,qaL];by_cases e:x=y
   .subst e;rw[if_pos rfl,qbj,qbf,qaZ,hp.q,qdF];constructor
    .rintro((a | a)| a)
     .exact .inl a
     .exact .inr ⟨a.1,.inl a.2⟩
     exact .inr ⟨a.symm,.inr rfl⟩
    rintro(a | ⟨a,b | _⟩)
    .exact .inl (.inl a)
    .exact .inl (.inr ⟨a,b⟩)
    exact .inr a.symm
   rw[if_neg e,hp.q];constructor
   .rintro(a | a)
    .exact .inl a
    exact .inr ⟨a.1,.inl a.2⟩
   rintro(a | ⟨a,b | b⟩)
   .exact .inl a
   .exact .inr ⟨a,b⟩
   exact absurd b.symm e
  have hk':k=(ns.getD i zhA).ps.length:=by omega
  rw[qdC hlt,qdA];refine⟨P,Q,rfl,?_⟩;rw[hk',qcl]at hp;exact hp
theorem zyV{g:Nat}{ns:List NN}(h:RightN g ns){e:List Int}(he:EvOk (ns.map (·.c)) e){q:S_eliminate_query}(hq:q.net=zbF g ns)(hk:q.known=e):∀(n i M:Nat) (P Q:List Nat),PcOk ns i [] P Q->i<=ns.length->ns.length - i<n->M<18446744073709551616->(∀ j,M.testBit j=(decide (j<i) && knE e j))->
  ∃(K:Nat) (P' Q':List Nat),zav q n (M:Int) (i:Int) (iL P) (iL Q)=some ((K:Int),iL P',iL Q')/\PcOk ns ns.length [] P' Q'/\K<18446744073709551616/\∀ j,K.testBit j=(decide (j<ns.length) && knE e j)
 | 0,_,_,_,_,_,_,h,_,_=>absurd h (qak _)
 | n+1,i,M,P,Q,hp,hi,hf,hM,hb=>by
  have hn8:=h.n2;have hnl:(zbF g ns).nodes.length=ns.length:=by simp[zbF]
  unfold zav;rw[hq,hnl,zam];by_cases hlt:i<ns.length
  .have hx:ns.getD i zhA=ns[i]:=by rw[qae,qac hlt]; rfl
   have hel:i<e.length:=by rw[he.len,qay]; exact hlt
   have hxe:e[i]=e.getD i (-1):=by rw[qae,qac hel]; rfl
   have l8:(ns.getD i zhA).ps.length<=8:=h.zB9 (zuL hlt);obtain⟨P',Q',g1,g2⟩:=zA5 h hlt (q:=q) ((ns.getD i zhA).ps.length+2) 0 P Q (by rw[qbt]; exact hp) (qau _) (by omega);have hp':PcOk ns (i+1) [] P' Q':=by
    refine⟨g2.pl,g2.ql,g2.plt,g2.qlt,λc y=>?_,λy c=>?_⟩
    .rw[g2.p];constructor
     .rintro(a | ⟨rfl,a⟩)
      .exact .inl ⟨by omega,a.2⟩
      exact .inl ⟨by omega,a⟩
     rintro(⟨a,b⟩| ⟨_,a⟩)
     .by_cases ec:c=i
      .exact .inr ⟨ec,ec ▸ b⟩
      exact .inl ⟨by omega,b⟩
     cases a
    rw[g2.q];constructor
    .rintro(a | ⟨rfl,a⟩)
     .exact .inl ⟨by omega,a.2⟩
     exact .inl ⟨by omega,a⟩
    rintro(⟨a,b⟩| ⟨_,a⟩)
    .by_cases ec:c=i
     .exact .inr ⟨ec,ec ▸ b⟩
     exact .inl ⟨by omega,b⟩
    cases a
   rw[qdB hlt,qdz,show zaz (zbF g ns).nodes (i:Int)=some (nd ns[i])from zcX hlt,qaa,<- hx,show(nd (ns.getD i zhA)).parents=iL (ns.getD i zhA).ps from rfl,zak,zaq,
    show zaD (nd (ns.getD i zhA)) (i:Int) q ((ns.getD i zhA).ps.length+2) 0 (iL P) (iL Q)=_ from g1,qaa]
   simp only[];rw[hk,zay hel,qaa,hxe];cases hkn:knE e i with
   | false=>
    rw[show decide (0<=e.getD i (-1))=false from hkn,qdA,qaa,zah (by omega)];refine zyV h he hq hk n (i+1) M P' Q' hp' hlt (by omega) hM λj=>?_
    rw[hb];by_cases ej:j=i
    .subst ej; rw[hkn,qcy,qcy]
    .congr 1
     rw[qb8,qdF,qdF];omega
   | true=>
    have hi64:2 ^ i<18446744073709551616:=(qa0 (by decide) (show i<64 by omega):2 ^ i<2 ^ 64);rw[show decide (0<=e.getD i (-1))=true from hkn,qdz,zoy (by omega),qaa,orU hM hi64,qaa,zah (by omega)];refine zyV h he hq hk n (i+1) (M ||| 2 ^ i) P' Q' hp' hlt (by omega) (zv4 hM (by omega)) λj=>?_
    rw[zkF,hb];by_cases ej:j=i
    .subst ej;rw[hkn,qdB (rfl:j=j),qdx,qdB (qbQ j)];rfl
    rw[show decide (i=j)=false from qdC (λh=>ej h.symm),Bool.or_false];congr 1
    rw[qb8,qdF,qdF];omega
  have hie:i=ns.length:=by omega
  subst hie;rw[qdC hlt,qdA];exact⟨M,P,Q,rfl,hp,hM,hb⟩
variable{ns:List NN}
theorem zmA{q:Nat}:((zai ns).getD c 0).testBit q=true↔c<ns.length/\q∈(ns.getD c zhA).ps:=by
 unfold zai;rw[qae,qae,qaW];by_cases hc:c<ns.length
 .rw[qac hc];show(zbi (ns[c]).ps).testBit q=true↔_;rw[zcp,qdF];exact⟨λh=>⟨hc,h⟩,λh=>h.2⟩
 rw[qaI (by omega)];constructor
 .intro h; simp at h
 exact λh=>absurd h.1 hc
variable{g:Nat}
theorem zw8(h:RightN g ns){P Q:List Nat}(hp:PcOk ns ns.length [] P Q):P=zai ns/\ChOk (zai ns) Q:=by
 have hml:(zai ns).length=ns.length:=by simp[zai]
 have hn8:=h.n2;have hP:P=zai ns:=by
  refine qcd (by rw[hp.pl,hml]) λi a b=>?_
  refine qbX λj=>?_
  have h1:=hp.p i j;have h2:=zmA (ns:=ns) (c:=i) (q:=j);rw[qae,qac a,qbg]at h1;rw[qae,qac b,qbg]at h2;rw[qb8,h1,h2];exact⟨λh=>h.elim id (λh=>nomatch h.2),.inl⟩
 refine⟨hP,by rw[hml]; omega,by rw[hp.ql,hml],h.zdX,hp.qlt,h.eok,λp c=>?_⟩;rw[hp.q,zmA];exact⟨λh=>h.elim id (λh=>nomatch h.2),.inl⟩
theorem zBw{q:S_eliminate_query}{ms:List Nat}(hql:q.net.nodes.length=ms.length)(hn:ms.length<=60)(hm:∀ m∈ms,m<18446744073709551616):∀(k n v s:Nat),v+k=ms.length->s<18446744073709551616->k<n ->
  zaF q (iL ms) n (s:Int) (v:Int)=some (((List.range' v k).foldl (upS ms) s:Nat):Int)/\(List.range' v k).foldl (upS ms) s<18446744073709551616
 | k,0,_,_,_,_,h=>absurd h (qak _)
 | 0,n+1,v,s,h1,hs,_=>by
  refine⟨?_,hs⟩;unfold zaF;rw[hql,qaG,zam,qdC (by omega),qdA];rfl
 | k+1,n+1,v,s,h1,hs,h3=>by
  have hv:v<ms.length:=by omega
  obtain⟨g1,g2⟩:=zBw hql hn hm k n (v+1) (upS ms s v) (by omega) (zuz hm hs) (by omega);refine⟨?_,g2⟩;obtain⟨q30,a1,a2⟩:=zzM (a:=s) (v:=v) hs (by omega);unfold zaF;rw[hql,qaG,zam,qdB hv,qdz,zet hv,qaa,a1,qaa,a2,zah (by omega),qcj,qb4];cases hb:s.testBit v with
  | true=>
   rw[show((((true:Bool).toNat:Nat):Int)== 1)=true from rfl,qdz,orU hs (zcy hm v),qaa,<- g1];unfold upS;rw[if_pos hb]
  | false=>
   rw[show((((false:Bool).toNat:Nat):Int)== 1)=false from rfl,qdA,qaa,<- g1];unfold upS;rw[if_neg (by rw[hb]; decide)]
theorem zBo{q:S_eliminate_query}{ms:List Nat}(hql:q.net.nodes.length=ms.length)(hn:ms.length<=60)(hm:∀ m∈ms,m<18446744073709551616):∀(k n v s:Nat),v+k=ms.length->s<18446744073709551616->k<n ->
  zat q (iL ms) n (s:Int) (v:Int)=some ((iter (upR ms) s k:Nat):Int)/\iter (upR ms) s k<18446744073709551616
 | k,0,_,_,_,_,h=>absurd h (qak _)
 | 0,n+1,v,s,h1,hs,_=>by
  refine⟨?_,hs⟩;unfold zat;rw[hql,zam,qdC (by omega),qdA];rfl
 | k+1,n+1,v,s,h1,hs,h3=>by
  have hv:v<ms.length:=by omega
  obtain⟨e1,e2⟩:=zBw hql hn hm ms.length (ms.length+2) 0 s (by omega) hs (by omega);rw[<- qcB]at e1 e2;obtain⟨g1,g2⟩:=zBo hql hn hm k n (v+1) (upR ms s) (by omega) e2 (by omega);rw[zhH];refine⟨?_,g2⟩;unfold zat;rw[show((0:Nat):Int)=0 from rfl]at e1;rw[hql,zam,qdB hv,qdz,qaG,zaq,e1,qaa,zah (by omega)];exact g1
theorem zy5{q:S_eliminate_query}{ms cs:List Nat}(hc:ChOk ms cs)(hql:q.net.nodes.length=ms.length){v:Nat}(hqv:q.node=(v:Int))(hv:v<ms.length){K A N:Nat}(hK:K<18446744073709551616)(hA:A<18446744073709551616)(hN:200<=N)(hkv:¬ ze3 K v):∀(n i M:Nat),i<=ms.length->ms.length - i<n->M<18446744073709551616 ->
  (∀ j,M.testBit j=true↔j<i/\∃ d,Tr (zeH ms) (ze3 K) (ze3 A) j d v)->
  ∃ R:Nat,zaE N q (iL ms) (iL cs) (K:Int) (A:Int) n (M:Int) (i:Int)=some (R:Int)/\R<18446744073709551616/\∀ j,R.testBit j=true↔j<ms.length/\∃ d,Tr (zeH ms) (ze3 K) (ze3 A) j d v
 | 0,_,_,_,h,_,_=>absurd h (qak _)
 | n+1,i,M,hi,hf,hM,hb=>by
  have hn60:=hc.n;unfold zaE;rw[hql,zam];by_cases hlt:i<ms.length
  .obtain⟨F,f1,f2,f3⟩:=zw9 hc hK hA hlt hN;obtain⟨q39,a1,a2⟩:=zzM (a:=F) (v:=v) f2 (by omega);rw[qdB hlt,qdz,f1,qaa,hqv,a1,qaa,a2];have hfv:=f3 v;cases hFv:F.testBit v with
   | true=>
    have hi64:2 ^ i<18446744073709551616:=(qa0 (by decide) (show i<64 by omega):2 ^ i<2 ^ 64);rw[show((((true:Bool).toNat:Nat):Int)== 1)=true from rfl,qdz,zoy (by omega),qaa,orU hM hi64,qaa,zah (by omega)];refine zy5 hc hql hqv hv hK hA hN hkv n (i+1) (M ||| 2 ^ i) hlt (by omega) (zv4 hM (by omega)) λj=>?_
    rw[zkF,qaZ,hb,qdF];constructor
    .rintro(a | rfl)
     .exact⟨by omega,a.2⟩
     exact⟨by omega,(hfv.1 hFv).1⟩
    .rintro⟨a,b⟩;by_cases ej:j=i
     .exact .inr ej.symm
     .exact .inl ⟨by omega,b⟩
   | false=>
    rw[show((((false:Bool).toNat:Nat):Int)== 1)=false from rfl,qdA,qaa,zah (by omega)];refine zy5 hc hql hqv hv hK hA hN hkv n (i+1) M hlt (by omega) hM λj=>?_
    rw[hb];constructor
    .exact λa=>⟨by omega,a.2⟩
    rintro⟨a,b⟩;by_cases ej:j=i
    .subst ej;have:=hfv.2 ⟨b,hkv⟩;rw[hFv]at this;cases this
    exact⟨by omega,b⟩
  have hie:i=ms.length:=by omega
  subst hie;rw[qdC hlt,qdA];exact⟨M,rfl,hM,hb⟩
structure KaOk (ns:List NN) (e:List Int) (K A:Nat):Prop where
 kl:K<18446744073709551616
 al:A<18446744073709551616
 k:∀ j,K.testBit j=(decide (j<ns.length) && knE e j)
 a:∀ i,ze3 A i↔∃ x,ze3 K x/\Anc (zeH (zai ns)) x i
variable{e:List Int}
theorem zwe(h:RightN g ns)(he:EvOk (ns.map (·.c)) e)(hv:v<ns.length)(hN:200<=N):
  ∃ K A R:Nat,KaOk ns e K A/\zaH N ⟨zbF g ns,e,(v:Int)⟩=some (R:Int)/\R<18446744073709551616/\∀ j,R.testBit j=true↔knE e v=false/\j<ns.length/\∃ d,Tr (zeH (zai ns)) (ze3 K) (ze3 A) j d v:=by
 have hn8:=h.n2;have hnl:(zbF g ns).nodes.length=ns.length:=by simp[zbF]
 have hml:(zai ns).length=ns.length:=by simp[zai]
 have hz:∀ c q,((List.replicate ns.length 0).getD c 0).testBit q=true->False:=λc q hh=>by
  rw[qae,qbT]at hh;split at hh<;>simp at hh
 have hp0:PcOk ns 0 [] (List.replicate ns.length 0) (List.replicate ns.length 0):=by
  refine⟨by simp,by simp,λm hm=>by rw[(qci.1 hm).2]; decide,λm hm=>by rw[(qci.1 hm).2]; decide,λc q=>⟨λhh=>(hz c q hh).elim,λhh=>?_⟩,λc q=>⟨λhh=>(hz c q hh).elim,λhh=>?_⟩⟩
  .rcases hh with⟨hh,_⟩| ⟨_,hh⟩
   .exact absurd hh (qak _)
   cases hh
  rcases hh with⟨hh,_⟩| ⟨_,hh⟩
  .exact absurd hh (qak _)
  cases hh
 obtain⟨K,P,Q,g1,g2,g3,g4⟩:=zyV h he (q:=⟨zbF g ns,e,(v:Int)⟩) rfl rfl (ns.length+2) 0 0 _ _ hp0 (qau _) (by omega) (by decide) (λj=>by simp);obtain⟨rfl,hc⟩:=zw8 h g2;have hKin:∀ x,K.testBit x=true->x<(zai ns).length:=λx hx=>by
  rw[g4,qag,qdF]at hx;rw[hml]; exact hx.1
 obtain⟨b1,b2⟩:=zBo (q:=⟨zbF g ns,e,(v:Int)⟩) (ms:=zai ns) (by rw[hml]; exact hnl) hc.n h.zdX (zai ns).length ((zai ns).length+2) 0 K (by omega) g3 (by omega);obtain⟨A,hAd⟩:∃ A,A=iter (upR (zai ns)) K (zai ns).length:=⟨_,rfl⟩;rw[<- hAd]at b1 b2;rw[hml]at b1;have hA:∀ i,ze3 A i↔∃ x,ze3 K x/\Anc (zeH (zai ns)) x i:=λi=>by
  rw[hAd];refine(zqJ h.eok hKin i).trans ?_;constructor
  .rintro⟨x,h1,h2⟩; exact⟨x,h1,zgY.2 h2⟩
  rintro⟨x,h1,h2⟩; exact⟨x,h1,zgY.1 h2⟩
 obtain⟨q33,s1,s2⟩:=zzM (a:=K) (v:=v) g3 (by omega);have e0:zem 8 ((ns.length:Nat):Int) (0:Int)=some (iL (List.replicate ns.length 0)):=by
  rw[zdh (by omega)];simp[iL]
 refine⟨K,A,?_⟩;cases hkv:knE e v with
 | true=>
  refine⟨0,⟨g3,b2,g4,hA⟩,?_,by decide,λj=>⟨λhh=>by simp at hh,λhh=>nomatch hh.1⟩⟩;unfold zaH;simp only[hnl];rw[e0,qaa,zaq,show zav ⟨zbF g ns,e,(v:Int)⟩ (ns.length+2) 0 0 (iL (List.replicate ns.length 0)) (iL (List.replicate ns.length 0))=_ from g1,qaa];simp only[];rw[show zat ⟨zbF g ns,e,(v:Int)⟩ (iL (zai ns)) (ns.length+2) (K:Int) 0=_ from b1,qaa,s1,qaa,s2,g4,hkv,qdB hv];rfl
 | false=>
  have hKv:K.testBit v=false:=by rw[g4,hkv,qcy]
  obtain⟨R,r1,r2,r3⟩:=zy5 (q:=⟨zbF g ns,e,(v:Int)⟩) hc (by rw[hml]; exact hnl) rfl (by rw[hml]; exact hv) g3 b2 hN (λhh=>by rw[show K.testBit v=true from hh]at hKv; cases hKv) (ns.length+2) 0 0 (qau _) (by omega) (by decide) (λj=>⟨λhh=>by simp at hh,λhh=>absurd hh.1 (qak _)⟩);refine⟨R,⟨g3,b2,g4,hA⟩,?_,r2,λj=>by rw[r3,hml]; exact⟨λhh=>⟨rfl,hh⟩,λhh=>hh.2⟩⟩;unfold zaH;simp only[hnl];rw[e0,qaa,zaq,show zav ⟨zbF g ns,e,(v:Int)⟩ (ns.length+2) 0 0 (iL (List.replicate ns.length 0)) (iL (List.replicate ns.length 0))=_ from g1,qaa];simp only[];rw[show zat ⟨zbF g ns,e,(v:Int)⟩ (iL (zai ns)) (ns.length+2) (K:Int) 0=_ from b1,qaa,s1,qaa,s2,hKv];rw[show((((false:Bool).toNat:Nat):Int)== 1)=false from rfl,qdA,show zaE N ⟨zbF g ns,e,(v:Int)⟩ (iL (zai ns)) (iL Q) (K:Int) (A:Int) (ns.length+2) 0 0=_ from r1,qaa]
theorem zyB{cs:List Nat}{e:List Int}(he:EvOk cs e)(hc:cs.length<=8):∀(n i M:Nat),i<=cs.length->cs.length - i<n->M<18446744073709551616->(∀ j,M.testBit j=(decide (j<i) && knE e j))->
  ∃ K:Nat,zca e n (M:Int) (i:Int)=some (K:Int)/\K<18446744073709551616/\∀ j,K.testBit j=(decide (j<cs.length) && knE e j)
 | 0,_,_,_,h,_,_=>absurd h (qak _)
 | n+1,i,M,hi,hn,hM,hb=>by
  unfold zca;rw[he.len,zam];by_cases hlt:i<cs.length
  .have hil:i<e.length:=by rw[he.len]; exact hlt
   have hx:e[i]=e.getD i (-1):=by rw[qae,qac hil]; rfl
   rw[qdB hlt,qdz,zay hil,qaa,hx];cases hk:knE e i with
   | false=>
    rw[show decide (0<=e.getD i (-1))=false from hk,qdA,qaa,zah (by omega)];refine zyB he hc n (i+1) M hlt (by omega) hM λj=>?_
    rw[hb];by_cases ej:j=i
    .subst ej; rw[hk,qcy,qcy]
    .congr 1
     rw[qb8,qdF,qdF];omega
   | true=>
    rw[show decide (0<=e.getD i (-1))=true from hk,qdz,zcZ (by omega),zoy (by omega),qaa,orU hM ((qa0 (by decide) (show i<64 by omega):2 ^ i<2 ^ 64)),qaa,zah (by omega)];refine zyB he hc n (i+1) (M ||| 2 ^ i) hlt (by omega) (zv4 hM (by omega)) λj=>?_
    rw[zkF,hb];by_cases ej:j=i
    .subst ej;rw[hk,qdB (rfl:j=j),qdx,qdB (qbQ j)];rfl
    rw[show decide (i=j)=false from qdC (λh=>ej h.symm),Bool.or_false];congr 1
    rw[qb8,qdF,qdF];omega
  have hie:i=cs.length:=by omega
  rw[qdC hlt,qdA];exact⟨M,rfl,hM,λj=>by rw[hb,hie]⟩
theorem Anc.mono{par par':Nat->Nat->Prop}(hp:∀ c q,par c q->par' c q)(h:Anc par a b):Anc par' a b:=by
 induction h with
 | refl=>exact .refl _
 | up _ e ih=>exact .up ih (hp _ _ e)
theorem zuK{ms:List Nat}{old:Nat}(hn:ms.length<=60)(ho:old<18446744073709551616):∀(n i:Nat),i<=ms.length->ms.length - i<n->zcA (iL ms) (old:Int) n (i:Int) (iL ((zeV ms old).take i))=some (iL (zeV ms old))
 | 0,_,_,h=>absurd h (qak _)
 | n+1,i,hi,hf=>by
  have hkl:(zeV ms old).length=ms.length:=by simp[zeV]
  unfold zcA;rw[zak,zam];by_cases hlt:i<ms.length
  .have hki:i<(zeV ms old).length:=by rw[hkl]; exact hlt
   have e1:((bif old.testBit i then((zaz (iL ms) (i:Int)).bind λx11=>some x11)else some 0:Option Int))=some ((((zeV ms old)[i]'hki:Nat)):Int):=by
    have:(zeV ms old)[i]'hki=bif old.testBit i then ms.getD i 0 else 0:=by simp[zeV]
    rw[this];cases old.testBit i with
    | true=>rw[qdz,qdz,zet hlt,qaa]
    | false=>rfl
   rw[qdB hlt,qdz,zjR ho (by omega),qaa,e1,qaa,zdt (by rw[zak,qbD]; simp; omega),qaa,zah (by omega)];have ih:=zuK hn ho n (i+1) hlt (by omega);have e2:iL ((zeV ms old).take (i+1))=iL ((zeV ms old).take i)++ [(((zeV ms old)[i]'hki:Nat):Int)]:=by
    rw[List.take_add_one,qac hki];exact qbw
   rw[e2]at ih;exact ih
  have hie:i=ms.length:=by omega
  subst hie;rw[qdC hlt,qdA,<- hkl,qcl]
theorem zxq{ms ds:List Nat}{z:Nat}(hl:ms.length=ds.length)(hn:ds.length<=60)(hz:z<18446744073709551616)(hd:∀ m∈ds,m<18446744073709551616):∀(k n v s:Nat),v+k=ds.length->s<18446744073709551616->k<n ->
  zcI (iL ms) (z:Int) (iL ds) n (s:Int) (v:Int)=some (((List.range' v k).foldl (upS (ziA ds z)) s:Nat):Int)/\(List.range' v k).foldl (upS (ziA ds z)) s<18446744073709551616
 | k,0,_,_,_,_,h=>absurd h (qak _)
 | 0,n+1,v,s,h1,hs,_=>by
  refine⟨?_,hs⟩;unfold zcI;rw[zak,zam,qdC (by omega),qdA];rfl
 | k+1,n+1,v,s,h1,hs,h3=>by
  have hv:v<ds.length:=by omega
  have hw:∀ m∈ziA ds z,m<18446744073709551616:=λm hm=>by
   obtain⟨i,_,rfl⟩:=qaz.1 hm;cases z.testBit i with
   | true=>exact(by decide:(0:Nat)<18446744073709551616)
   | false=>exact zcy hd i
  obtain⟨g1,g2⟩:=zxq hl hn hz hd k n (v+1) (upS (ziA ds z) s v) (by omega) (zuz hw hs) (by omega);refine⟨?_,g2⟩;have hg:(ziA ds z).getD v 0=bif z.testBit v then 0 else ds.getD v 0:=zgS λh=>absurd hv (by omega)
  unfold zcI;rw[zak,zam,qdB (by omega),qdz,zjR hs (by omega),qaa,zah (by omega),qcj,qb4];cases hb:s.testBit v with
  | true=>
   rw[qdz,zjR hz (by omega),qaa,qaa];cases hzv:z.testBit v with
   | true=>
    rw[qba,qdA,qaa,<- g1];unfold upS;rw[if_pos hb,hg,hzv,qdz,Nat.or_zero]
   | false=>
    rw[qbK,qdz,zet hv,qaa,orU hs (zcy hd v),qaa,<- g1];unfold upS;rw[if_pos hb,hg,hzv,qdA]
  | false=>
   rw[qdA,qaa,qdA,qaa,<- g1];unfold upS;rw[if_neg (by rw[hb]; decide)]
theorem zya{ms ds:List Nat}{z:Nat}(hl:ms.length=ds.length)(hn:ds.length<=60)(hz:z<18446744073709551616)(hd:∀ m∈ds,m<18446744073709551616):∀(k n v s:Nat),v+k=ds.length->s<18446744073709551616->k<n ->
  zb3 (iL ms) (z:Int) (iL ds) n (s:Int) (v:Int)=some ((iter (upR (ziA ds z)) s k:Nat):Int)/\iter (upR (ziA ds z)) s k<18446744073709551616
 | k,0,_,_,_,_,h=>absurd h (qak _)
 | 0,n+1,v,s,h1,hs,_=>by
  refine⟨?_,hs⟩;unfold zb3;rw[zak,zam,qdC (by omega),qdA];rfl
 | k+1,n+1,v,s,h1,hs,h3=>by
  have hv:v<ds.length:=by omega
  obtain⟨e1,e2⟩:=zxq hl hn hz hd ds.length (ds.length+2) 0 s (by omega) hs (by omega);have hwl:(ziA ds z).length=ds.length:=by simp[ziA]
  rw[<- qcB,show(List.range ds.length).foldl (upS (ziA ds z)) s=upR (ziA ds z) s from by unfold upR; rw[hwl]]at e1 e2;obtain⟨g1,g2⟩:=zya hl hn hz hd k n (v+1) (upR (ziA ds z) s) (by omega) e2 (by omega);rw[zhH];refine⟨?_,g2⟩;unfold zb3;rw[show((0:Nat):Int)=0 from rfl]at e1;rw[zak,zam,qdB (by omega),qdz,zaq,hl,e1,qaa,zah (by omega)];exact g1
theorem zyu{ms:List Nat}(he:EOk ms)(hd:MoralOk ms ds):EOk (ziA ds z):=λa b h=>by
 have hwl:(ziA ds z).length=ms.length:=by rw[<- hd.len]; simp[ziA]
 obtain⟨_,h2⟩:=zlI.1 (show zeH (ziA ds z) a b from h);have ha:a<ms.length:=by
  refine qaT λhc=>?_
  unfold zeH at h2;rw[qae,qaI (by rw[hd.len]; omega)]at h2;simp at h2
 obtain⟨_,u,hu,_,h3⟩:=(hd.bit a b ha).1 h2;rw[hwl];refine⟨ha,?_⟩;unfold zsd at h3;rw[zAw,qaZ,qdF]at h3;rcases h3 with h3 | rfl
 .exact(he u b h3).2
 exact hu
theorem zzG{ms:List Nat}(hn:ms.length<=8)(hm:∀ m∈ms,m<18446744073709551616)(he:EOk ms){u K:Nat}(hu:u<ms.length)(hv:v<ms.length)(hK:K<18446744073709551616)(hKin:∀ x,K.testBit x=true->x<ms.length)(hkv:¬ ze3 K v)(hab:∀ i,ze3 A i↔∃ x,ze3 K x/\Anc (zeH ms) x i):∃ b:Bool,zed (iL (msX ms u)) ((ms.length:Nat):Int) (v:Int) (K:Int)=some (!b)/\(b=true↔∃ d,Tr (zeH ms) (ze3 K) (ze3 A) u d v):=by
 have hp:∀ {i},i<64->2 ^ i<18446744073709551616:=λ{i} h=>(qa0 (by decide) h:2 ^ i<2 ^ 64)
 have hXl:=zvq ms u
 have hXlt:∀ m∈msX ms u,m<18446744073709551616:=zuH (λm h=>by
  rcases qa8.1 h with h | h
  .exact hm m h
  rw[qaL.1 h]; decide) (qbc (n:=64) (zcy hm u) (hp (by omega)))
 have hXe:EOk (msX ms u):=λc q h=>by
  rw[hXl];rcases(zlB hu).1 (show zeH (msX ms u) c q from h)with h | ⟨rfl,rfl⟩
  .obtain⟨h1,h2⟩:=he c q h;exact⟨by omega,by omega⟩
  exact⟨by omega,by omega⟩
 obtain⟨S,hS⟩:∃ S,S=2 ^ ms.length ||| 2 ^ v ||| K:=⟨_,rfl⟩;have hS1:2 ^ ms.length ||| 2 ^ v<18446744073709551616:=qbc (n:=64) (hp (by omega)) (hp (by omega));have hSl:S<18446744073709551616:=by rw[hS]; exact qbc (n:=64) hS1 hK
 have hSb:∀ x,S.testBit x=true↔(x=ms.length\/x=v\/ze3 K x):=λx=>by
  rw[hS,qbj,qbj,qbf,qbf,qaZ,qaZ,qdF,qdF];constructor
  .rintro((h | h)| h)
   .exact .inl h.symm
   .exact .inr (.inl h.symm)
   exact .inr (.inr h)
  rintro(h | h | h)
  .exact .inl (.inl h.symm)
  .exact .inl (.inr h.symm)
  exact .inr h
 have hSin:∀ x,S.testBit x=true->x<(msX ms u).length:=λx hx=>by
  rw[hXl];rcases(hSb x).1 hx with h | h | h
  .omega
  .omega
  have:=hKin x h; omega
 obtain⟨o1,o2⟩:=zAV (s:=S) (by rw[hXl]; omega) hXlt hSl;obtain⟨old,hold⟩:∃ old,old=iter (upR (msX ms u)) S (msX ms u).length:=⟨_,rfl⟩;rw[<- hold]at o1 o2;have hob:∀ i,old.testBit i=true↔zsc (zeH ms) (ze3 K) ms.length u v i:=λi=>by
  rw[hold,zqJ hXe hSin];constructor
  .rintro⟨a,h1,h2⟩;exact⟨a,(hSb a).1 h1,(zgY.2 h2).mono λc q h=>(zlB hu).1 h⟩
  rintro⟨a,h1,h2⟩;exact⟨a,(hSb a).2 h1,zgY.1 (h2.mono λc q h=>(zlB hu).2 h)⟩
 have hkl:(zeV (msX ms u) old).length=ms.length+1:=by simp[zeV,zvq]
 have hklt:∀ m∈zeV (msX ms u) old,m<18446744073709551616:=λm hm=>by
  obtain⟨i,_,rfl⟩:=qaz.1 hm;cases old.testBit i with
  | true=>exact zcy hXlt i
  | false=>exact(by decide:(0:Nat)<18446744073709551616)
 have hke:EOk (zeV (msX ms u) old):=λc q h=>by
  have:=hXe c q (zms.1 (show zeH (zeV (msX ms u) old) c q from h)).2;rw[hXl]at this;rw[hkl]; exact this
 obtain⟨ds,hd⟩:=zwV (by rw[hkl]; omega) hke;have hdl:ds.length=ms.length+1:=by rw[hd.len,hkl]
 have h2n:(2 ^ ms.length:Nat)<18446744073709551616:=hp (by omega);obtain⟨w1,w2⟩:=zya (ms:=msX ms u) (ds:=ds) (z:=K) (by rw[hXl,hdl]) (by omega) hK hd.lt ds.length (ds.length+2) 0 (2 ^ ms.length) (by omega) h2n (by omega);obtain⟨W,hW⟩:∃ W,W=iter (upR (ziA ds K)) (2 ^ ms.length) ds.length:=⟨_,rfl⟩;rw[<- hW]at w1 w2;have hwl:(ziA ds K).length=ds.length:=by simp[ziA]
 have hWb:W.testBit v=true↔∃ d,Tr (zeH ms) (ze3 K) (ze3 A) u d v:=by
  rw[hW,<- hwl,zqJ (zyu hke hd) (λx hx=>by
   rw[qbf]at hx;have:=qdG hx
   rw[hwl]; omega)]
  have e1:(∃ x,(2 ^ ms.length).testBit x=true/\Reach (ziA ds K) x v)↔Reach (ziA ds K) ms.length v:=by
   constructor
   .rintro⟨x,h1,h2⟩;rw[qbf]at h1;rw[qdG h1]; exact h2
   exact λh=>⟨_,by rw[qbf]; exact qdB rfl,h⟩
  rw[e1,zAF hke hd (by rw[hkl]; omega),zAN hab (n:=ms.length) (λq h=>qcw _ (he _ _ h).1) (λc h=>qcw _ (he _ _ h).2) (by omega) (λh=>qcw _ (hKin _ h)) (by omega) hkv];have e2:∀ c q,zeH (zeV (msX ms u) old) c q↔kept (zeH ms) (ze3 K) ms.length u v c q:=λc q=>by
   rw[zms,hob,zlB hu];rfl
  exact⟨λh=>h.mono λc q=>(e2 c q).1,λh=>h.mono λc q=>(e2 c q).2⟩
 refine⟨W.testBit v,?_,hWb⟩;unfold zed
 rw[zcZ (by omega),zoy (by omega),qaa,zcZ (by omega),zoy (by omega),qaa,orU (hp (by omega)) (hp (by omega)),orU hS1 hK,<- hS,o1,qaa,zak,hXl,zaq,
  show zcA (iL (msX ms u)) (old:Int) (ms.length+1+2) 0 []=some (iL (zeV (msX ms u) old))from zuK (by rw[hXl]; omega) o2 (ms.length+1+2) 0 (qau _) (by rw[hXl]; omega),qaa,
  zvs (by rw[hkl]; omega) hklt hke hd,qaa,qaa,<- hdl,show zb3 (iL (msX ms u)) (K:Int) (iL ds) (ds.length+2) ((2 ^ ms.length:Nat):Int) 0=_ from w1,qaa,zjR w2 (by omega),qaa]
theorem zzN{g:Nat}{ns:List NN}(h:RightN g ns){e:List Int}(he:EvOk (ns.map (·.c)) e){v K A:Nat}(hv:v<ns.length)(ka:KaOk ns e K A)(hkv:knE e v=false):∀(n i M:Nat),i<=ns.length->ns.length - i<n->M<18446744073709551616 ->
  (∀ j,M.testBit j=true↔j<i/\∃ d,Tr (zeH (zai ns)) (ze3 K) (ze3 A) j d v)->
  ∃ R:Nat,zbJ (zbF g ns) e (v:Int) (K:Int) n (M:Int) (i:Int)=some (R:Int)/\∀ j,R.testBit j=true↔j<ns.length/\∃ d,Tr (zeH (zai ns)) (ze3 K) (ze3 A) j d v
 | 0,_,_,_,h,_,_=>absurd h (qak _)
 | n+1,i,M,hi,hf,hM,hb=>by
  have hn8:=h.n2;have hnl:(zbF g ns).nodes.length=ns.length:=by simp[zbF]
  have hml:(zai ns).length=ns.length:=by simp[zai]
  unfold zbJ;rw[hnl,zam];by_cases hlt:i<ns.length
  .have hel:v<e.length:=by rw[he.len,qay]; exact hv
   have hxe:e[v]=e.getD v (-1):=by rw[qae,qac hel]; rfl
   have hev:e.getD v (-1)= -1:=by
    have h1:=he.lo v (by rw[qay]; exact hv);have h2:=of_decide_eq_false hkv;omega
   have hi64:2 ^ i<18446744073709551616:=(qa0 (by decide) (show i<64 by omega):2 ^ i<2 ^ 64);have hn64:2 ^ ns.length<18446744073709551616:=(qa0 (by decide) (show ns.length<64 by omega):2 ^ ns.length<2 ^ 64);have hkv':¬ ze3 K v:=λhh=>by
    have:K.testBit v=true:=hh;rw[ka.k,hkv,qcy]at this;cases this
   obtain⟨b,a1,a2⟩:=zzG (ms:=zai ns) (u:=i) (v:=v) (by rw[hml]; exact hn8) h.zdX h.eok (by rw[hml]; exact hlt) (by rw[hml]; exact hv) ka.kl (λx hx=>by
    rw[ka.k,qag,qdF]at hx
    rw[hml]; exact hx.1) hkv' ka.a
   have happ:(zai ns ++ [0]).getD i 0=(zai ns).getD i 0:=zm4 _ _
   rw[qdB hlt,qdz,zay hel,qaa,hxe,hev,qaa,show((-1:Int)== -1)=true from rfl,qdz,h.zD1,qaa,
    zdt (by rw[zak,hml]; simp; omega),qaa,show iL (zai ns)++ [(0:Int)]=iL (zai ns ++ [0])from by simp[iL],zet (by simp[hml]; omega),qaa,zcZ (by omega),zoy (by omega),qaa,happ,orU (zcy h.zdX i) hn64,zhV (by simp[hml]; omega),qaa]
   rw[show List.set (zai ns ++ [0]) i ((zai ns).getD i 0 ||| 2 ^ ns.length)=msX (zai ns) i from by unfold msX; rw[hml]];rw[hml]at a1;rw[a1,qaa];cases b with
   | true=>
    rw[qba,qdA,zcZ (by omega),zoy (by omega),qaa,orU hM hi64,qaa,zah (by omega)];refine zzN h he hv ka hkv n (i+1) (M ||| 2 ^ i) hlt (by omega) (zv4 hM (by omega)) λj=>?_
    rw[zkF,qaZ,hb,qdF];constructor
    .rintro(a | rfl)
     .exact⟨by omega,a.2⟩
     exact⟨by omega,a2.1 rfl⟩
    .rintro⟨a,b⟩;by_cases ej:j=i
     .exact .inr ej.symm
     .exact .inl ⟨by omega,b⟩
   | false=>
    rw[qbK,qdz,qaa,zah (by omega)];refine zzN h he hv ka hkv n (i+1) M hlt (by omega) hM λj=>?_
    rw[hb];constructor
    .exact λa=>⟨by omega,a.2⟩
    rintro⟨a,b⟩;by_cases ej:j=i
    .subst ej; exact nomatch a2.2 b
    exact⟨by omega,b⟩
  have hie:i=ns.length:=by omega
  subst hie;rw[qdC hlt,qdA,qaa,qdA];exact⟨M,rfl,hb⟩
theorem zom(h:RightN g ns)(he:EvOk (ns.map (·.c)) e)(hv:v<ns.length)(hN:200<=N):
  ∃ R:Int,zaH N ⟨zbF g ns,e,(v:Int)⟩=some R/\zdR N (zbF g ns) e (v:Int)=some R:=by
 have hn8:=h.n2;have hel:e.length=ns.length:=by rw[he.len,qay]
 obtain⟨K,A,R,ka,r1,r2,r3⟩:=zwe h he hv hN;refine⟨R,r1,?_⟩;obtain⟨K',k1,k2,k3⟩:=zyB he (by simpa using hn8) (ns.length+2) 0 0 (qau _) (by rw[qay]; omega) (by decide) (λj=>by simp);have hKK:K'=K:=qbX λj=>by rw[k3,ka.k,qay]
 subst hKK;unfold zdR;rw[hel,zaq,show zca e (ns.length+2) 0 0=some (K':Int)from k1,qaa];cases hkv:knE e v with
 | false=>
  obtain⟨R',s1,s2⟩:=zzN h he hv ka hkv N 0 0 (qau _) (by omega) (by decide) (λj=>⟨λhh=>by simp at hh,λhh=>absurd hh.1 (qak _)⟩);have:R'=R:=qbX λj=>by
   rw[qb8,s2,r3];exact⟨λhh=>⟨hkv,hh⟩,λhh=>hh.2⟩
  subst this;rw[show zbJ (zbF g ns) e (v:Int) (K':Int) N 0 0=_ from s1,qaa]
 | true=>
  have:R=0:=qbX λj=>by
   rw[Nat.zero_testBit];cases hj:R.testBit j with
   | false=>rfl
   | true=>have:=((r3 j).1 hj).1; rw[hkv]at this; cases this
  subst this;obtain⟨m,rfl⟩:∃ m,N=m+1:=⟨N - 1,by omega⟩;have hnl:(zbF g ns).nodes.length=ns.length:=by simp[zbF]
  have hvl:v<e.length:=by omega
  have hxe:e[v]=e.getD v (-1):=by rw[qae,qac hvl]; rfl
  have h0:=qdG hkv;unfold zbJ;rw[hnl,show decide ((0:Int)<((ns.length:Nat):Int))=true from qdB (by omega),qdz,zay hvl,qaa,hxe,show(e.getD v (-1)== -1)=false from by rw[qdE]; omega,qaa,qdA,qaa];rfl
theorem zvh{d:S_api_Net}(hb:Bnd d)(e:List Int)(v:Int):
  (∃ err:Int,err≠0/\zbz d e v=some (noQ,err)/\∃ k,zc1 d e=some k/\((k≠0/\k=err)\/(k=0/\err=2/\(v<0\/(d.nodes.length:Int)<=v))))\/
  (∃ g ns,∃ v':Nat,d=zbF g ns/\RightN g ns/\v=(v':Int)/\v'<ns.length/\EvOk (ns.map (·.c)) e/\zbz d e v=some (⟨d,e,v⟩,0)/\zc1 d e=some 0):=by
 have hchk:zc2 d=some (zuM,50)/\zcx d=some false\/∃ g ns,d=zbF g ns/\RightN g ns/\zcx d=some true:=by
  rcases zuu hb with⟨⟨g,ns,rfl,hr⟩,h2⟩| ⟨h1,h2⟩
  .exact .inr ⟨g,ns,rfl,hr,h2⟩
  rcases zzv hb with h | ⟨g,ns,rfl,hr⟩
  .exact .inl ⟨h,h2⟩
  exact absurd ⟨g,ns,rfl,hr⟩ h1
 rcases hchk with⟨h,h2⟩| ⟨g,ns,rfl,hr,h2⟩
 .refine .inl ⟨50,by decide,?_,50,?_,.inl ⟨by decide,rfl⟩⟩
  .have k1:za4 d e=some 50:=by unfold za4; rw[h,qaa]; simp only[]; rw[show((50:Int)== 0)=false from rfl,qdA]
   unfold zbz;rw[k1,qaa,show((50:Int)== 0)=false from rfl,qdA]
  unfold zc1;rw[h2,qaa,qdA]
 obtain⟨b0,e1,e2⟩:=zy6 hr e;have hnl:(zbF g ns).nodes.length=ns.length:=by simp[zbF]
 have hn8:=hr.n2;unfold zbz zc1;rw[e2,h2,qaa,qaa,qdz,e1,qaa,hnl];cases b0 with
 | false=>exact .inl ⟨2,by decide,rfl,2,rfl,.inl ⟨by decide,rfl⟩⟩
 | true=>
  have he:=zBN hr e1;simp only[qdz,show((0:Int)== 0)=true from rfl];by_cases c1:v<0
  .rw[qdB c1];exact .inl ⟨2,by decide,rfl,0,rfl,by simp[c1]⟩
  by_cases c2:(ns.length:Int)<=v
  .rw[qdC c1,qdB c2];exact .inl ⟨2,by decide,rfl,0,rfl,by simp[c2]⟩
  obtain⟨v',rfl⟩:∃ v':Nat,v=(v':Int):=⟨v.toNat,by omega⟩;rw[qdC c1,qdC c2];exact .inr ⟨g,ns,v',rfl,hr,rfl,by omega,he,by first | rfl | trivial,by first | rfl | trivial⟩
theorem zpO{N:Nat}(hN:200<=N){r11:A4_S_haruspexlaw09_Ask}{d:S_api_Net}(hb:Bnd d):∀(n i:Nat),i<=4->4 - i<n->zaW N r11 d n (i:Int)=some (.go ())
 | 0,_,_,h=>absurd h (qak _)
 | n+1,i,h1,h2=>by
  have t00:((0:Int)== 0)=true:=rfl;have t20:((2:Int)== 0)=false:=rfl;unfold zaW;by_cases hi:i<4
  .obtain⟨x,hx,_⟩:=zo3 (xs:=[r11.a0,r11.a1,r11.a2,r11.a3]) (i:=i) (P:=λ_=>True) (by simpa using hi) λ_ _=>trivial
   have ih:=zpO hN (r11:=r11) hb n (i+1) hi (by omega);rw[show decide ((i:Int)<4)=true from qdB (by omega),qdz,hx,qaa,zah (by omega),ih];unfold zcn;rcases zvh hb x.e x.v with⟨err,k0,k1,k,k2,k3⟩| ⟨g,ns,v',rfl,hr,hv',hv,he,k1,k2⟩
   .rcases k3 with⟨k3,rfl⟩| ⟨rfl,rfl,k3⟩
    .simp only[k1,k2,qaa,qdI k0,qdA,qdD,qdz]
    have hk:((bif decide (x.v<0)then some true else some (decide ((d.nodes.length:Int)<=x.v)):Option Bool))=some true:=by
     by_cases c1:x.v<0
     .rw[qdB c1,qdz]
     rw[qdC c1,qdA,qdB (k3.resolve_left c1)]
    simp only[k1,k2,qaa,t20,t00,hk,qdA,qdD,qdz]
   obtain⟨R,r1,r2⟩:=zom hr he hv hN;have hnl:(zbF g ns).nodes.length=ns.length:=by simp[zbF]
   have hk:((bif decide (((v':Nat):Int)<0)then some true else some (decide (((ns.length:Nat):Int)<=((v':Nat):Int))):Option Bool))=some false:=by
    rw[qdC (by omega),qdA,qdC (by omega)]
   rw[hv']at k1 ⊢;simp only[k1,k2,qaa,t00,hk,r1,r2,hnl,qdA,qdD,qdz,qba]
  rw[show decide ((i:Int)<4)=false from qdC (by omega),qdA]
theorem zo1{dr:DraftN}{b:S_haruspexref05_Bend}{a:S_haruspexlaw09_Ask}(hd:DraftOk dr)(hb:BendOk b)(ha:AskOk a):zbT 1100 (zco dr) b a=some true:=by
 obtain⟨g,ns,r,hr,e1,e2,b0,b1⟩:=zzK (N:=1100) (by decide) hd hb;obtain⟨v,e,xs,r11,a1,_⟩:=zzn ha hr;unfold zbT;rw[zyq,qaa,qdz,e2,qaa];have hl:∀(n i:Nat),i<=2->2 - i<n->zaU 1100 r (zco dr) a n (i:Int)=some (.go ()):=by
  intro n;induction n with
  | zero=>exact λi _ h=>absurd h (qak _)
  | succ n ih=>
   intro i h1 h2;unfold zaU;by_cases hi:i<2
   .obtain⟨x,hx,hxb⟩:=zo3 (xs:=[r.a0,r.a1]) (i:=i) (P:=Bnd) (by simpa using hi) (λx hx=>by
     simp only[qax,qbR,or_false]at hx;rcases hx with rfl | rfl
     .exact b0
     exact b1)
    rw[show decide ((i:Int)<2)=true from qdB (by omega),qdz,hx,qaa,e1,qaa,a1,qaa,zah (by omega),
     show zaW 1100 r11 x (4 - 0+2:Int).toNat 0=some (.go ())from zpO (by decide) hxb 6 0 (by omega) (by omega),qaa]
    exact ih (i+1) hi (by omega)
   rw[show decide ((i:Int)<2)=false from qdC (by omega),qdA]
 rw[show zaU 1100 r (zco dr) a (2 - 0+2:Int).toNat 0=some (.go ())from hl 4 0 (by omega) (by omega),qaa]
end Go.Dc
namespace Go.Proofs.YtbjogdohfhdaiaaGreat.S
open Go Go.Mx Go.Lx Go.Dc Go.ChangeShapes Go.WideShapes Go.ChangeAt Go.RowKit
theorem zBq:∀ t∈[25,27,33],(zef Tryz.prog 8 t).isSome=true:=by
 intro t ht;simp only[qax,qbR,or_false]at ht;rcases ht with rfl | rfl | rfl
 .rw[zxZ]; rfl
 .rw[zxC]; rfl
 rw[zt7]; rfl
theorem zBv:∀ t∈[25,27,33],Tryz.prog.readableRec t=true/\t<Tryz.prog.types.size:=by
 intro t ht;simp only[qax,qbR,or_false]at ht;rcases ht with rfl | rfl | rfl
 .exact⟨zA3,qb7 (m:=252) (by decide) ztN⟩
 .exact⟨zBC,qb7 (m:=252) (by decide) ztN⟩
 exact⟨zyC,qb7 (m:=252) (by decide) ztN⟩
theorem zo4{H:Type}{enc:TypeId×Value->H}{w:World}{b0:Nat}{args:Array Value}{ds:List (DataW H)}{ps:List MemPlace}
  (hv:∀(j:Nat) t v,[25,27,33][j]? = some t->args[j]? = some v->Value.okWide Tryz.prog w .any b0 t v) (hd:DataW.TrodAll enc Tryz.prog w 0 (λ_=>true) true [25,27,33] args.toList ds ps):
  Calls Tryz.prog 5 args w λe w'=>e=.returned (.bool true)/\Below w.heap.size w w':=by
 refine zFb (g:=8) hv hd zBq λes hes=>?_
 obtain⟨x0,r,rfl,h0,hes⟩:=Dc.ShAs.inv hes;obtain⟨x1,r,rfl,h1,hes⟩:=Dc.ShAs.inv hes;obtain⟨x2,r,rfl,h2,hes⟩:=Dc.ShAs.inv hes;obtain rfl:=Dc.ShAs.none hes;obtain⟨a0,k0,rfl⟩:=zxc h0;obtain⟨a1,⟨b11,b12,b13⟩,rfl⟩:=zzj h1;obtain⟨a2,k2,rfl⟩:=zAE h2;exact zfO (zo1 k0 ⟨b11,b12,b13⟩ k2)
theorem zmn(os:Os)(started:os.Started)(H:Type)(enc:TypeId×Value->H):
  ReturnsInHanded {} Tryz.checked os 5 .any (Rows.eliminateNeedsSpec.pre6 enc Tryz.prog Tryz.f5 Rows.eliminateNeedsRow.domain false) (Rows.eliminateNeedsSpec.post enc Tryz.prog Tryz.f5 false true false false):=by
 refine returnsInHanded_of_change (C:=Tryz.checked) own started (by kernel_rfl) Tryz.func5
  (ChangeSpec.witness6 (enc:=enc) (C:=Tryz.checked) false ⟨#[],#[.agg #[.int .u8 0,.slice none 0 0,.slice none 0 0],.agg #[.int .u8 0,.int .u8 0,.int .u8 0,.int .i64 0],.agg #[.int .u8 0,.int .u8 0,.int .u8 0,.int .u8 0,.int .u8 0,.int .u8 0,.int .u8 0,.int .u8 0,.int .u8 0,.int .i64 0,.int .u8 0,.int .u8 0,.int .u8 0,.int .u8 0,.int .u8 0,.int .u8 0,.int .u8 0,.int .u8 0,.slice none 0 0,.slice none 0 0]],[]⟩ 8 (by kernel_rfl) (by kernel_rfl) (by kernel_rfl) (by kernel_rfl)) ?_
 intro W base args ds gs before hval0 hW hcnd _;have hval:∀(j:Nat) t v,Tryz.f5.params[j]? = some t->args[j]? = some v->Value.okWide Tryz.prog W .any base t v:=hval0;have hlt:∀ x∈before,x.block<W.heap.size:=λx hx=>hW.lt x hx
 have hW':=hW;obtain⟨p,q,hA0,hV,rfl,hfz,hnd⟩:=hW;have hA:DataW.TrodAll enc Tryz.prog W 0 (λ_=>true) true Tryz.f5.params.toList args.toList ds p:=hA0;rw[Tryz.params5]at hA hval;have hcalls:=zo4 (λj t v h1 h2=>hval j t v (by simpa using h1) h2) hA;obtain⟨rfl,rfl⟩:=trodVars_none hV;have hA1:DataW.TrodAll enc Tryz.prog W 0 (λ_=>true) true [25,27,33] args.toList ds p:=hA;have hds:∃ d0 d1 d2:DataW H,ds=[d0,d1,d2]:=by
  obtain⟨_,_,d0,ds0,_,_,_,e0,_,_,r0⟩:=trodAll_cons hA1;obtain⟨_,_,d1,ds1,_,_,_,e1,_,_,r1⟩:=trodAll_cons r0;obtain⟨_,_,d2,ds2,_,_,_,e2,_,_,r2⟩:=trodAll_cons r1;obtain⟨_,e3,_⟩:=trodAll_nil r2;exact⟨d0,d1,d2,by rw[e0,e1,e2,e3]⟩
 obtain⟨d0,d1,d2,rfl⟩:=hds;clear hA0 hval0;simp only[qaQ]at hW' hlt;refine hcalls.mono λe W' ⟨he,hb⟩=>?_
 subst he
 exact⟨_,rfl,_,_,_,[],_,[],hW',trodAll_mk1 (shut_bool Tryz.underlying4 true),
  (by rw[Tryz.params5]; exact zhg hb hA1 zBv hlt),
  rfl,hb.frame _,λh=>by cases h⟩
theorem needs_said:Rows.EliminateNeedsSaid:=
 OpenClaim.holds_of_wide 5 Tryz.f5 rfl rfl rfl rfl rfl rfl rfl ⟨rfl,rfl,rfl,rfl,rfl⟩ rfl rfl rfl rfl rfl zC4 Tryz.func5 zyE
  zDI (by unfold Func.isWrapper; first | (rw[if_pos (by decide +kernel)]; kernel_rfl)| (rw[if_neg (by decide +kernel)]; exact⟨rfl,rfl⟩))
  (λos started H enc _=>zmn os started H enc)
end Go.Proofs.YtbjogdohfhdaiaaGreat.S
namespace Go.Proofs.YtbjogdohfhdaiaaGreat
theorem needs_said:Rows.EliminateNeedsSaid:=S.needs_said
end Go.Proofs.YtbjogdohfhdaiaaGreat
