/-
 Facts of what EliminateSets reaches. Conditions: none.
-/
import Derived.Test.YtbjogdohfhdaiaaGreatESDm
import Derived.Test.YtbjogdohfhdaiaaGreatESJ13
import Derived.Test.YtbjogdohfhdaiaaGreatESSa
import Derived.Test.YtbjogdohfhdaiaaGreatESFct
set_option linter.unusedSimpArgs false
set_option linter.unusedVariables false
set_option maxRecDepth 100000
namespace Go.Proofs.YtbjogdohfhdaiaaGreat
open Go.ChangeShapes Go.WideShapes Go.ChangeAt Go.RowKit
theorem zpT:(Rows.eliminateSetsRow.inPlace == Tryz.pinned.checked.prog.inPlace 8)=true:=by kernel_rfl
theorem zzk:(Rows.eliminateSetsRow.unfollowed == Tryz.pinned.checked.prog.unfollowed 8)=true:=by kernel_rfl
theorem zzM:(Rows.eliminateSetsRow.recurses == Tryz.pinned.checked.prog.recurses 8)=true:=by kernel_rfl
theorem ztW:(Rows.eliminateSetsRow.named == Tryz.pinned.checked.prog.varsNamed 8)=true:=by kernel_rfl
theorem zxz:joinedFacts Tryz.pinned.checked.prog 8 Tryz.f8 Rows.eliminateSetsSpec Rows.eliminateSetsRow=true:=by
 unfold joinedFacts;rw[zvS,zyB,zwb,zxg,zzQ,zpT,zzk,zzM,ztW,zwy,zwK,show(Rows.eliminateSetsRow.lifted == Tryz.pinned.checked.prog.liftsFinal)=true from zy8,show(Tryz.pinned.checked.prog.make == some Rows.eliminateSetsRow.make)=true from zzj]
 kernel_rfl
theorem zAe:Tryz.pinned.checked.prog.funcNamed Rows.eliminateSetsRow.func=some 8:=by kernel_rfl
theorem zAj:Tryz.f8.isInstance Tryz.pinned.checked.prog Rows.eliminateSetsRow.origin Rows.eliminateSetsRow.targs:=of_decide_eq_true (by kernel_rfl)
end Go.Proofs.YtbjogdohfhdaiaaGreat
set_option maxRecDepth 100000
namespace Go.Proofs.YtbjogdohfhdaiaaGreat.S
open Go Go.Mx Go.Lx Go.Dc Go.ChangeShapes Go.WideShapes Go.ChangeAt Go.RowKit
theorem zrO{xs:List Int}(h:okL (okI .u8) xs):∃ ns:List Nat,(∀ x∈ns,x≤255)∧xs=iL ns:=by
 obtain⟨ns,h1,h2⟩:=Dc.zoe (l:=xs) (f:=fun n:Nat=>(n:Int)) (T:=fun n=>n≤255) fun y hy=>by
  have:=zjh (h.2 y hy);exact⟨y.toNat,by omega,by omega⟩
 exact⟨ns,h1,h2⟩
theorem zqV:Dec zah [.int .u8,.int .u8,.sl [.int .u8]] (fun x=>okI .u8 x.zaD∧okI .u8 x.parents∧okL (okI .u8) x.w):=
 Dec.iso (Dec.pair (Dec.int .u8) (Dec.pair (Dec.int .u8) (Dec.list (Dec.int .u8)))) (fun x:S_haruspexref05_Piece=>(x.zaD,x.parents,x.w)) (fun a=>⟨a.1,a.2.1,a.2.2⟩) (fun _=>rfl)
theorem zr3:Dec zcU [.int .u8,.sl [.int .u8,.int .u8,.sl [.int .u8]],.sl [.int .u8]]
  (fun x=>okI .u8 x.grain∧okL (fun x=>okI .u8 x.zaD∧okI .u8 x.parents∧okL (okI .u8) x.w) x.nodes∧okL (okI .u8) x.order):=
 Dec.iso (Dec.pair (Dec.int .u8) (Dec.pair (Dec.list zqV) (Dec.list (Dec.int .u8)))) (fun x:S_haruspexref05_Draft=>(x.grain,x.nodes,x.order)) (fun a=>⟨a.1,a.2.1,a.2.2⟩) (fun _=>rfl)
theorem zuD{x:S_haruspexref05_Draft}(h:okI .u8 x.grain∧okL (fun x=>okI .u8 x.zaD∧okI .u8 x.parents∧okL (okI .u8) x.w) x.nodes∧okL (okI .u8) x.order):∃ d:DraftN,DraftOk d∧x=zcB d:=by
 obtain⟨grain,nodes,order⟩:=x;obtain⟨h1,h2,h3⟩:=h;have hg:=zjh h1;obtain⟨os,o1,o2⟩:=zrO h3;obtain⟨ps,p1,p2⟩:=Dc.zoe (l:=nodes) (f:=zoU) (T:=fun n=>n.zaD≤255) fun y hy=>by
  obtain⟨g1,g2,g3⟩:=h2.2 y hy;have k1:=zjh g1;have k2:=zjh g2;obtain⟨ws,w1,w2⟩:=zrO g3;refine⟨⟨y.zaD.toNat,y.parents.toNat,ws⟩,by simp only; omega,?_⟩;obtain⟨a,b,c⟩:=y;simp only at k1 k2 w2;subst w2;simp only[zoU,qcr k1.1,qcr k2.1]
 refine⟨⟨grain.toNat,ps,os⟩,⟨by simp only at hg ⊢; omega,p1,o1⟩,?_⟩;simp only at o2 p2 hg;subst o2 p2;simp only[zcB,qcr hg.1]
theorem zvn:zdL Tryz.prog 8 25=some [.int .u8,.sl [.int .u8,.int .u8,.sl [.int .u8]],.sl [.int .u8]]:=by kernel_rfl
theorem zAX:ztD Tryz.prog 25=true:=by kernel_rfl
theorem zyt:Tryz.prog.readableRec 25=true:=by kernel_rfl
theorem zur{d:D}(h:ShA Tryz.prog 8 25 d):∃ dr:DraftN,DraftOk dr∧d=.agg (zcU.c false (zcB dr)):=by
 obtain⟨x,h1,h2⟩:=zr3.agg zAX zvn h;obtain⟨dr,h3,rfl⟩:=zuD h1;exact⟨dr,h3,h2⟩
theorem zgq{H:Type}{enc:TypeId×Value→H}{W W':World}(hb:Below W.heap.size W W'):∀ {ts:List TypeId} {vs:List Value} {ds:List (DataW H)} {ps:List MemPlace},
  DataW.TrodAll enc Tryz.prog W 0 (fun _=>true) true ts vs ds ps→(∀ t∈ts,Tryz.prog.readableRec t=true∧t<Tryz.prog.types.size)→(∀ x∈ps,x.block<W.heap.size)→
  DataW.TrodAll enc Tryz.prog W' 0 (fun b=>decide (b<W.heap.size)) true ts vs ds ps
 | [],vs,ds,ps,h,_,_=>by
  obtain⟨rfl,rfl,rfl⟩:=trodAll_nil h;exact trodAll_mk0
 | t :: ts,vs,ds,ps,h,ht,hlt=>by
  obtain⟨v,vs',d,ds',p,q,rfl,rfl,rfl,h1,h2⟩:=trodAll_cons h;obtain⟨r1,r2⟩:=ht t qao;exact⟨p,q,Below.trod laidOut r1 r2 h1 hb (fun x hx=>hlt x (qcN _ hx)),zgq hb h2 (fun t h=>ht t (qaj _ h)) (fun x hx=>hlt x (List.mem_append_right _ hx)),rfl⟩
theorem zvo:(252:Nat)<Tryz.prog.types.size:=of_decide_eq_true (by kernel_rfl)
end Go.Proofs.YtbjogdohfhdaiaaGreat.S
namespace Go.Dc
open Go Go.Mx Go.Lx
theorem Stc.zaD{cs:List Nat}{f:Fc}{M:Nat}(h:Stc cs f M){v k:Nat}(hv:pos f.vs v=some k)(hk:k<f.cs.length):f.cs[k]=cs.getD v 0:=by
 obtain⟨h1,e⟩:=zcQ hv;rw[← zj3 h.ok hv hk,h.at (e ▸ qat h1)]
theorem Stc.mono{cs:List Nat}{f:Fc}{M N:Nat}(h:Stc cs f M)(hl:M≤N):Stc cs f N:=⟨h.ok,h.cs_,h.var,fun i=>qam (h.le i) hl⟩
theorem Stc.klt{cs:List Nat}{f:Fc}{M:Nat}(h:Stc cs f M){v k:Nat}(hv:pos f.vs v=some k):k<f.cs.length:=by
 obtain⟨h1,_⟩:=zcQ hv;rw[← h.ok.len]; exact h1
theorem Stc.zw3{cs:List Nat}{f:Fc}{M:Nat}(hf:Stc cs f M){v k p:Nat}(hv:pos f.vs v=some k)(hp:p<cs.getD v 0):zdO f.D (v:Int) (p:Int)=some ((fixF f v k p).D,0):=by
 have hk:=hf.klt hv;exact Go.Dc.zw3 hf.ok hv hk (by rw[hf.zaD hv hk]; exact hp)
theorem Stc.zhR{cs:List Nat}{f:Fc}{M:Nat}(hf:Stc cs f M){v k p:Nat}(hv:pos f.vs v=some k)(hp:p<cs.getD v 0){s:Nat→Nat}(hs:zq0 cs s):(fixF f v k p).val s=f.val (upd s v p):=by
 have hk:=hf.klt hv;exact Go.Dc.zhR hf.ok hv hk (by rw[hf.zaD hv hk]; exact hp) fun u hu=>hf.fit hs u (qaJ.1 hu).1
theorem zuF{cs:List Nat}{s:Nat→Nat}(hs:zq0 cs s){v p:Nat}(hp:p<cs.getD v 0):zq0 cs (upd s v p):=by
 intro u hu;by_cases e:u=v
 ·subst e; rw[zfk]; exact hp
 rw[ziE e]; exact hs u hu
def zqz(f:Fc)(v:Nat):Fc:=gF f (rest f v) ((gat false f (rest f v)).getD [])
theorem Stc.sum{cs:List Nat}{f:Fc}{M:Nat}(hf:Stc cs f M)(hB:zac f.cs * M≤zdl){v k:Nat}(hv:pos f.vs v=some k):
  zcI f.D (v:Int)=some ((zqz f v).D,0)∧Stc cs (zqz f v) (cs.getD v 0 * M)∧∀ s,zq0 cs s→(zqz f v).val s=zqy (cs.getD v 0) fun p=>f.val (upd s v p):=by
 have hk:=hf.klt hv;have hg:=zkr false hf.ok (zfX hf.ok v) hf.le hB;have e:zqz f v=gF f (rest f v) ((List.range' 0 (zac (cof f (rest f v)))).map fun j=>big false (fib f (rest f v) (zac f.cs) 0 j)):=by unfold zqz; rw[hg]; rfl
 refine⟨?_,?_,fun s hs=>?_⟩
 ·rw[zAZ hf.ok hv,hg,e]; rfl
 ·rw[e];refine⟨zyr hf.ok (zfX hf.ok v) hg,?_,fun u hu=>hf.var u (qaJ.1 hu).1,zd5 fun x hx=>?_⟩
  ·exact qbj fun u hu=>hf.at (qaJ.1 hu).1
  obtain⟨j,hj,rfl⟩:=qaB.1 hx;have hj':=(qcJ.1 hj).2;rw[zf7 hf.ok hv,qaP]at hj';rw[zo5 hf.ok hv hk hj'];refine qam (zro (M:=M) fun y hy=>?_) (qar M ?_)
  ·obtain⟨i,_,rfl⟩:=qaB.1 hy;exact hf.le _
  rw[qaA,List.length_range',hf.zaD hv hk];exact qan _
 have h:=Go.Dc.zn3 false hf.ok hv hk hf.le hB hg (s:=s) fun u hu=>hf.fit hs u (qaJ.1 hu).1
 rw[e,h,zxq,hf.zaD hv hk,zli]
theorem zuu{f:Fc}{v u:Nat}:u∈(zqz f v).vs↔u∈f.vs∧u≠v:=by
 show u∈rest f v↔_;unfold rest;rw[qaJ];constructor
 ·exact fun h=>⟨h.1,fun e=>by rw[e,beq_self_eq_true]at h; exact absurd h.2 (by decide)⟩
 exact fun h=>⟨h.1,by rw[beq_false_of_ne h.2]; rfl⟩
structure Lok (cs:List Nat) (ps:List (Fc×Nat)):Prop where
 st:∀ p∈ps,Stc cs p.1 p.2
 one:∀ p∈ps,1≤p.2
abbrev bnd(ps:List (Fc×Nat)):Nat:=zac (ps.map (·.2))
theorem Lok.zzA{cs:List Nat}{ps:List (Fc×Nat)}(h:Lok cs ps):1≤bnd ps:=zdj fun x hx=>by
 obtain⟨p,hp,rfl⟩:=qaB.1 hx;exact h.one p hp
theorem Lok.tail{cs:List Nat}{p:Fc×Nat}{ps:List (Fc×Nat)}(h:Lok cs (p :: ps)):Lok cs ps:=⟨fun q hq=>h.st q (qaj _ hq),fun q hq=>h.one q (qaj _ hq)⟩
theorem Lok.sub{cs:List Nat}{ps qs:List (Fc×Nat)}(h:Lok cs ps)(hs:∀ q∈qs,q∈ps):Lok cs qs:=⟨fun q hq=>h.st q (hs q hq),fun q hq=>h.one q (hs q hq)⟩
theorem Lok.app{cs:List Nat}{ps qs:List (Fc×Nat)}(h:Lok cs ps)(h':Lok cs qs):Lok cs (ps ++ qs):=
 ⟨fun q hq=>(qa9.1 hq).elim (h.st q) (h'.st q),fun q hq=>(qa9.1 hq).elim (h.one q) (h'.one q)⟩
def zvB:Fc→List (Fc×Nat)→Fc
 | a,[]=>a
 | a,p :: ps=>zvB (zqu a p.1) ps
def gL(ps:List (Fc×Nat))(s:Nat→Nat):Nat:=zac (ps.map fun p=>p.1.val s)
theorem zwA(p:Fc×Nat)(ps:List (Fc×Nat))(s:Nat→Nat):gL (p :: ps) s=p.1.val s * gL ps s:=rfl
theorem zyR(ps qs:List (Fc×Nat))(s:Nat→Nat):gL (ps ++ qs) s=gL ps s * gL qs s:=by
 unfold gL;rw[qb2,zel]
theorem zjR(p:Fc×Nat)(ps:List (Fc×Nat)):bnd (p :: ps)=p.2 * bnd ps:=rfl
theorem zoE{cs:List Nat}(hc:NCs cs):∀ {ps:List (Fc×Nat)} {a:Fc} {A:Nat},Stc cs a A→Lok cs ps→A * bnd ps≤zdl→Stc cs (zvB a ps) (A * bnd ps)
 | [],a,A,ha,_,_=>by
  show Stc cs a (A * 1);rw[qc8]; exact ha
 | p :: ps,a,A,ha,h,hB=>by
  have h1:=h.tail.zzA;rw[zjR,← qa4]at hB ⊢;have hB1:A * p.2≤zdl:=qam (qaZ _ h1) hB;exact zoE hc (ha.mul hc (h.st p qao) hB1) h.tail hB
theorem zpk{cs:List Nat}(hc:NCs cs):∀ {ps:List (Fc×Nat)} {a:Fc} {A:Nat},Stc cs a A→Lok cs ps→A * bnd ps≤zdl→∀ s,zq0 cs s→(zvB a ps).val s=a.val s * gL ps s
 | [],a,A,_,_,_,s,_=>(qc8 _).symm
 | p :: ps,a,A,ha,h,hB,s,hs=>by
  have h1:=h.tail.zzA;rw[zjR,← qa4]at hB;have hB1:A * p.2≤zdl:=qam (qaZ _ h1) hB;have hp:=h.st p qao;show(zvB (zqu a p.1) ps).val s=_;rw[zpk hc (ha.mul hc hp hB1) h.tail hB s hs,ha.ziu hc hp hB1 hs,zwA,qa4]
theorem zpe{cs:List Nat}(hc:NCs cs){u:Nat}:∀ {ps:List (Fc×Nat)} {a:Fc} {A:Nat},Stc cs a A→Lok cs ps→A * bnd ps≤zdl→(u∈(zvB a ps).vs↔u∈a.vs∨∃ p∈ps,u∈p.1.vs)
 | [],a,A,_,_,_=>by simp[zvB]
 | p :: ps,a,A,ha,h,hB=>by
  have h1:=h.tail.zzA;rw[zjR,← qa4]at hB;have hB1:A * p.2≤zdl:=qam (qaZ _ h1) hB;have hp:=h.st p qao;show u∈(zvB (zqu a p.1) ps).vs↔_;rw[zpe hc (ha.mul hc hp hB1) h.tail hB,show(u∈(zqu a p.1).vs↔u∈a.vs∨u∈p.1.vs)from zfO ha.ok hp.ok];simp only[qaz,exists_eq_or_imp,or_assoc]
def zeJ(ps:List (Fc×Nat)):Fc:=zvB ztE ps
theorem zlT{cs:List Nat}(hc:NCs cs){ps:List (Fc×Nat)}(h:Lok cs ps)(hB:bnd ps≤zdl):Stc cs (zeJ ps) (bnd ps):=by
 have:=zoE hc (znY cs) h (by rw[qba]; exact hB)
 rwa [qba]at this
theorem zr7{cs:List Nat}(hc:NCs cs){ps:List (Fc×Nat)}(h:Lok cs ps)(hB:bnd ps≤zdl){s:Nat→Nat}(hs:zq0 cs s):(zeJ ps).val s=gL ps s:=by
 have:=zpk hc (znY cs) h (by rw[qba]; exact hB) s hs
 rwa [zwB,qba]at this
theorem zii{cs:List Nat}(hc:NCs cs){ps:List (Fc×Nat)}(h:Lok cs ps)(hB:bnd ps≤zdl){u:Nat}:u∈(zeJ ps).vs↔∃ p∈ps,u∈p.1.vs:=by
 have:=zpe hc (u:=u) (znY cs) h (by rw[qba]; exact hB);rw[show ztE.vs=[]from rfl]at this;simpa [zeJ]using this
def occ(ps:List (Fc×Nat))(x:Nat):Bool:=ps.any fun p=>decide (x∈p.1.vs)
theorem zng{ps:List (Fc×Nat)}{x:Nat}:occ ps x=true↔∃ p∈ps,x∈p.1.vs:=by
 unfold occ;rw[List.any_eq_true];exact⟨fun⟨p,h1,h2⟩=>⟨p,h1,of_decide_eq_true h2⟩,fun⟨p,h1,h2⟩=>⟨p,h1,decide_eq_true h2⟩⟩
def zew(x:Nat)(ps:List (Fc×Nat)):List (Fc×Nat):=ps.filter fun p=>decide (x∈p.1.vs)
def zhn(x:Nat)(ps:List (Fc×Nat)):List (Fc×Nat):=ps.filter fun p=>!decide (x∈p.1.vs)
theorem zg6{α:Type}(g:α→Nat)(q:α→Bool):∀ xs:List α,zac ((xs.filter q).map g)* zac ((xs.filter fun x=>!q x).map g)=zac (xs.map g)
 | []=>rfl
 | x :: xs=>by
  have ih:=zg6 g q xs;cases hq:q x with
  | true=>
   rw[qcw hq,qcv (by rw[hq]; decide)];show g x * zac ((xs.filter q).map g)* _=g x * zac (xs.map g);rw[qa4,ih]
  | false=>
   rw[qcv (by rw[hq]; decide),qcw (by rw[hq]; rfl)];show _ * (g x * zac ((xs.filter fun x=>!q x).map g))=g x * zac (xs.map g);rw[qcK,ih]
def zsZ(k:Nat→Nat)(x:Nat)(ps:List (Fc×Nat)):List (Fc×Nat):=zhn x ps ++ [(zqz (zeJ (zew x ps)) x,k x * bnd (zew x ps))]
theorem zgk{x:Nat}{ps:List (Fc×Nat)}:∀ q∈zew x ps,q∈ps:=fun q hq=>(qaJ.1 hq).1
theorem zgr{x:Nat}{ps:List (Fc×Nat)}:∀ q∈zhn x ps,q∈ps:=fun q hq=>(qaJ.1 hq).1
theorem zok{x:Nat}{ps:List (Fc×Nat)}:∀ q∈zhn x ps,x ∉ q.1.vs:=fun q hq=>by
 have:=(qaJ.1 hq).2;rw[qbn]at this;exact of_decide_eq_false this
theorem zmK(x:Nat)(ps:List (Fc×Nat)):bnd (zew x ps)* bnd (zhn x ps)=bnd ps:=zg6 (·.2) _ ps
theorem zuy(x:Nat)(ps:List (Fc×Nat))(s:Nat→Nat):gL (zew x ps) s * gL (zhn x ps) s=gL ps s:=zg6 (α:=Fc×Nat) (fun p=>p.1.val s) (fun p=>decide (x∈p.1.vs)) ps
theorem zt0{ps:List (Fc×Nat)}{s t:Nat→Nat}(h:∀ p∈ps,∀ v∈p.1.vs,s v=t v):gL ps s=gL ps t:=by
 unfold gL;rw[qbj fun p hp=>val_congr (f:=p.1) fun v hv=>h p hp v hv]
structure Est (cs:List Nat) (C:Nat) (E:List Nat) (ps:List (Fc×Nat)):Prop where
 lok:Lok cs ps
 nod:E.Nodup
 lt:∀ x∈E,x<cs.length
 out:∀ p∈ps,∀ v∈p.1.vs,v ∉ E
 b:bnd ps≤C * zac (cd cs E)
theorem zjc{cs:List Nat}(hc:NCs cs){E:List Nat}(hn:E.Nodup)(hl:∀ x∈E,x<cs.length):zac (cd cs E)≤1024:=by
 have hp:E.Perm ((List.range cs.length).filter fun x=>decide (x∈E)):=by
  refine(List.perm_ext_iff_of_nodup hn (qbl _ qcP)).2 fun x=>?_
  rw[qaJ,qbI];exact⟨fun h=>⟨hl x h,decide_eq_true h⟩,fun h=>of_decide_eq_true h.2⟩
 have e:zac (cd cs E)=zac (cd cs ((List.range cs.length).filter fun x=>decide (x∈E))):=zqe (hp.map _);rw[e];exact qam (zj6 (fun c hc'=>(hc.zaD c hc').1) (qbl _ qc5) fun u hu=>qbI.1 (qaJ.1 hu).1) hc.prod
theorem Est.tot{cs:List Nat}(hc:NCs cs){C:Nat}(hC:C * 1024≤zdl){E:List Nat}{ps:List (Fc×Nat)}(h:Est cs C E ps):bnd ps≤zdl:=
 qam h.b (qam (qcd C (zjc hc h.nod h.lt)) hC)
theorem zxj{cs:List Nat}{x:Nat}{ps:List (Fc×Nat)}(h:Lok cs ps):bnd (zew x ps)≤bnd ps:=by
 rw[← zmK x ps];exact qaZ _ (h.sub zgr).zzA
theorem Est.size{cs:List Nat}(hc:NCs cs){C:Nat}(hC:C * 1024≤zdl){E:List Nat}{ps qs:List (Fc×Nat)}(h:Est cs C E ps)(hq:∀ q∈qs,q∈ps)(hb:bnd qs≤bnd ps):zac (zeJ qs).cs * bnd qs≤zdl:=by
 have hl:=h.lok.sub hq;have hB:bnd qs≤zdl:=qam hb (h.tot hc hC);have hs:=zlT hc hl hB;rw[hs.cs_];have hd:∀ u∈(zeJ qs).vs,u ∉ E:=fun u hu=>by
  obtain⟨p,hp,hup⟩:=(zii hc hl hB).1 hu;exact h.out p (hq p hp) u hup
 have hn:((zeJ qs).vs ++ E).Nodup:=List.nodup_append.2 ⟨za7 hs.ok.inc,h.nod,fun a ha b hb e=>hd a ha (e ▸ hb)⟩;have hp:=zjc hc hn fun u hu=>(qa9.1 hu).elim (hs.var u) (h.lt u)
 rw[zo9,zel]at hp;calc zac (cd cs (zeJ qs).vs)* bnd qs≤zac (cd cs (zeJ qs).vs)* (C * zac (cd cs E)):=qcd _ (qam hb h.b)
  _=C * (zac (cd cs (zeJ qs).vs)* zac (cd cs E)):=qcK _ _ _
  _≤C * 1024:=qcd C hp
  _≤zdl:=hC
theorem Est.step{cs:List Nat}(hc:NCs cs){C:Nat}(hC:C * 1024≤zdl){E:List Nat}{ps:List (Fc×Nat)}(h:Est cs C E ps){x:Nat}(hx:occ ps x=true)(hxE:x ∉ E):
  zcI (zeJ (zew x ps)).D (x:Int)=some ((zqz (zeJ (zew x ps)) x).D,0)∧Est cs C (x :: E) (zsZ (fun v=>cs.getD v 0) x ps)∧
   (∀ s,zq0 cs s→gL (zsZ (fun v=>cs.getD v 0) x ps) s=zqy (cs.getD x 0) fun p=>gL ps (upd s x p))∧∀ y,y≠x→occ (zsZ (fun v=>cs.getD v 0) x ps) y=occ ps y:=by
 obtain⟨p0,hp0,hxp⟩:=zng.1 hx;have hxl:x<cs.length:=(h.lok.st p0 hp0).var x hxp;have hlw:=h.lok.sub (zgk (x:=x));have hlr:=h.lok.sub (zgr (x:=x));have hbw:=zxj (x:=x) h.lok;have hB:bnd (zew x ps)≤zdl:=qam hbw (h.tot hc hC);have hs:=zlT hc hlw hB;have hsz:=h.size hc hC zgk hbw;have hxv:x∈(zeJ (zew x ps)).vs:=(zii hc hlw hB).2 ⟨p0,qaJ.2 ⟨hp0,decide_eq_true hxp⟩,hxp⟩;obtain⟨k,hk⟩:=zjS hxv;obtain⟨g1,g2,g3⟩:=hs.sum hsz hk;have hcx:1≤cs.getD x 0:=by
  rw[qah,qac hxl];exact(hc.zaD _ (qat hxl)).1
 have hmem:∀ u,u∈(zqz (zeJ (zew x ps)) x).vs↔(∃ p∈zew x ps,u∈p.1.vs)∧u≠x:=fun u=>by rw[zuu,zii hc hlw hB]
 refine⟨g1,⟨hlr.app ⟨fun q hq=>?_,fun q hq=>?_⟩,qbh.2 ⟨hxE,h.nod⟩,fun y hy=>?_,fun q hq u hu=>?_,?_⟩,fun s hs'=>?_,fun y hy=>?_⟩
 ·rw[qaQ.1 hq]; exact g2
 ·rw[qaQ.1 hq]; exact qcS hcx hlw.zzA
 ·rcases qaz.1 hy with rfl | hy
  ·exact hxl
  exact h.lt y hy
 ·intro hm;rcases qa9.1 hq with hq | hq
  ·rcases qaz.1 hm with rfl | hm
   ·exact zok q hq hu
   exact h.out q (zgr q hq) u hu hm
  rw[qaQ.1 hq]at hu;obtain⟨⟨p,hp,hup⟩,hne⟩:=(hmem u).1 hu;rcases qaz.1 hm with rfl | hm
  ·exact hne rfl
  exact h.out p (zgk p hp) u hup hm
 ·show zac ((zhn x ps ++ [(zqz (zeJ (zew x ps)) x,cs.getD x 0 * bnd (zew x ps))]).map (·.2))≤C * (cs.getD x 0 * zac (cd cs E));rw[qb2,zel];show bnd (zhn x ps)* (cs.getD x 0 * bnd (zew x ps)* 1)≤_;have e:bnd (zhn x ps)* (cs.getD x 0 * bnd (zew x ps)* 1)=cs.getD x 0 * bnd ps:=by rw[← zmK x ps,qc8,qcK,qaR (bnd (zhn x ps))]
  rw[e,qcK];exact qcd _ h.b
 ·show gL (zhn x ps ++ [(zqz (zeJ (zew x ps)) x,cs.getD x 0 * bnd (zew x ps))]) s=_;rw[zyR];show gL (zhn x ps) s * ((zqz (zeJ (zew x ps)) x).val s * 1)=_;rw[qc8,g3 s hs',← zoz];refine zi2 fun p hp=>?_
  rw[zr7 hc hlw hB (zuF hs' hp),← zuy x ps (upd s x p),qaR,zt0 (ps:=zhn x ps) (s:=s) (t:=upd s x p) fun q hq u hu=>(ziE (by rintro rfl; exact zok q hq hu)).symm]
 have h1:occ (zsZ (fun v=>cs.getD v 0) x ps) y=true↔occ ps y=true:=by
  rw[zng,zng];constructor
  ·rintro⟨q,hq,hyq⟩;rcases qa9.1 hq with hq | hq
   ·exact⟨q,zgr q hq,hyq⟩
   rw[qaQ.1 hq]at hyq;obtain⟨⟨p,hp,hup⟩,_⟩:=(hmem y).1 hyq;exact⟨p,zgk p hp,hup⟩
  rintro⟨q,hq,hyq⟩;by_cases hxq:x∈q.1.vs
  ·exact⟨_,List.mem_append_right _ (qaQ.2 rfl),(hmem y).2 ⟨⟨q,qaJ.2 ⟨hq,decide_eq_true hxq⟩,hyq⟩,hy⟩⟩
  exact⟨q,qcN _ (qaJ.2 ⟨hq,by rw[decide_eq_false hxq]; rfl⟩),hyq⟩
 cases h2:occ ps y with
 | true=>exact h1.2 h2
 | false=>
  cases h3:occ (zsZ (fun v=>cs.getD v 0) x ps) y with
  | false=>rfl
  | true=>rw[h1.1 h3]at h2; cases h2
def knE(e:List Int)(v:Nat):Bool:=decide (0≤e.getD v (-1))
structure EvOk (cs:List Nat) (e:List Int):Prop where
 len:e.length=cs.length
 lo:∀ v,v<cs.length → -1≤e.getD v (-1)
 hi:∀ v,v<cs.length→e.getD v (-1)<(cs.getD v 0:Nat)
theorem zoa{a x j:Nat}:(a ||| 2 ^ x).testBit j=(a.testBit j || decide (x=j)):=by rw[qbs,qbB]
theorem zwg{a x:Nat}(ha:a<18446744073709551616)(hx:x<64):a ||| 2 ^ x<18446744073709551616:=qbo (n:=64) ha (qa7 (by decide) hx)
structure OrdOk (n v:Nat) (xs:List Nat):Prop where
 nod:xs.Nodup
 lt:∀ x∈xs,x<n
 ne:∀ x∈xs,x≠v
structure KnOk (k:S_haruspexref05_Known):Prop where
 v:∀ x∈[k.v.a0,k.v.a1,k.v.a2,k.v.a3,k.v.a4,k.v.a5,k.v.a6,k.v.a7],0≤x∧x≤255
theorem zr5{ns:List NN}{g:Nat}{k:S_haruspexref05_Known}(hk:KnOk k)(hn:ns.length≤8)(hc:∀ x∈ns,1≤x.c):∀(n i:Nat) (acc:List Int),i≤ns.length→acc.length=i→(∀ v,v<i → -1≤acc.getD v (-1)∧acc.getD v (-1)<((ns.map (·.c)).getD v 0:Nat))→ns.length - i<n →
  ∃ out,zbC (zbQ g ns) k n (i:Int) acc=some out∧EvOk (ns.map (·.c)) out
 | 0,_,_,_,_,_,h=>absurd h (qap _)
 | n+1,i,acc,h1,h2,h4,h3=>by
  unfold zbC;have hnl:(zbQ g ns).nodes.length=ns.length:=by simp[zbQ]
  rw[hnl,zaz];by_cases hi:i<ns.length
  ·obtain⟨q,hq⟩:=zBr (a:=k.which) (v:=i);rw[decide_eq_true hi,cond_true,zAE (by omega),hq,qaa];have key:∃ y:Int,((bif ((zfz .u8 q 1)== 1)then((za3 [k.v.a0,k.v.a1,k.v.a2,k.v.a3,k.v.a4,k.v.a5,k.v.a6,k.v.a7] (i:Int)).bind fun x5=>(za3 (zbQ g ns).nodes (i:Int)).bind fun x7=>(zpW (w64 x5) x7.zaD).bind fun q9=>some q9)else some (-1)):Option Int)=some y∧-1≤y∧y<((ns.map (·.c)).getD i 0:Nat):=by
    have hcx:=hc _ (qat hi);have hci:(ns.map (·.c)).getD i 0=ns[i].c:=by rw[qah,qaT,qac hi]; rfl
    rw[hci];cases(zfz .u8 q 1)== 1 with
    | false=>exact⟨-1,rfl,by omega,by omega⟩
    | true=>
     obtain⟨x5,h5,h6⟩:∃ x,za3 [k.v.a0,k.v.a1,k.v.a2,k.v.a3,k.v.a4,k.v.a5,k.v.a6,k.v.a7] (i:Int)=some x∧0≤x∧x≤255:=⟨_,zbd (by simp; omega),hk.v _ (qat _)⟩;refine⟨(w64 x5).tmod ((ns[i].c:Nat):Int),?_,?_,?_⟩
     ·rw[cond_true,h5,qaa,show za3 (zbQ g ns).nodes (i:Int)=some (nd ns[i])from zch hi,qaa,show(nd ns[i]).zaD=((ns[i].c:Nat):Int)from rfl];unfold zpW;rw[show((((ns[i].c:Nat):Int))== 0)=false by rw[beq_eq_false_iff_ne]; omega,cond_false,qaa]
     ·rw[zgv (by omega) (by omega)];have:=Int.tmod_nonneg ((ns[i].c:Nat):Int) h6.1;omega
     rw[zgv (by omega) (by omega)];exact Int.tmod_lt_of_pos _ (by omega)
   obtain⟨y,hy,y1,y2⟩:=key
   obtain⟨out,ho,ho2⟩:=zr5 (g:=g) (k:=k) hk hn hc n (i+1) (acc ++ [y]) hi (by simp; omega) (fun v hv=>by
    rw[qah];by_cases hvi:v<i
    ·rw[qal (by omega),← qah]; exact h4 v hvi
    have:v=i:=by omega
    subst this;rw[qax (by omega),h2,qdm]
    exact⟨y1,y2⟩) (by omega)
   refine⟨out,?_,ho2⟩;rw[hy,qaa,zd1 (by simp; omega),qaa,zal (by omega),ho]
  have:i=ns.length:=by omega
  subst this;exact⟨acc,by rw[decide_eq_false hi,cond_false],⟨by rw[h2,qaA],fun v hv=>(h4 v (by rwa [qaA]at hv)).1,fun v hv=>(h4 v (by rwa [qaA]at hv)).2⟩⟩
theorem zt9{ns:List NN}{g:Nat}{k:S_haruspexref05_Known}(hk:KnOk k)(hn:ns.length≤8)(hc:∀ x∈ns,1≤x.c):∃ out,zbw k (zbQ g ns)=some out∧EvOk (ns.map (·.c)) out:=by
 obtain⟨out,e,e2⟩:=zr5 (g:=g) (k:=k) hk hn hc (ns.length+2) 0 [] (qaC _) rfl (fun v hv=>absurd hv (qap _)) (by omega);refine⟨out,?_,e2⟩;rw[show((0:Nat):Int)=0 from rfl]at e;unfold zbw;rw[show(zbQ g ns).nodes.length=ns.length by simp[zbQ],zaN,e,qaa]
structure AskOk (a:S_haruspexlaw09_Ask):Prop where
 k:KnOk a.known
 l:∀ x∈[a.l.a0,a.l.a1,a.l.a2,a.l.a3,a.l.a4,a.l.a5,a.l.a6,a.l.a7],0≤x∧x≤255
theorem zwU{α:Type}{xs:List α}{i:Nat}{P:α→Prop}(h:i<xs.length)(hp:∀ x∈xs,P x):∃ x,za3 xs (i:Int)=some x∧P x:=⟨xs[i],zbd h,hp _ (qat h)⟩
theorem zk2{m v:Nat}{l:A8_Intu8}(hl:∀ x∈[l.a0,l.a1,l.a2,l.a3,l.a4,l.a5,l.a6,l.a7],0≤x∧x≤255)(hm:m≤8):∀(n i:Nat) (xs:List Nat),OrdOk i v xs→(xs.length+if v<i then 1 else 0)=i→i≤m→m - i<n →
  ∃ zs:List Nat,zcL (m:Int) (v:Int) l n (iL xs) (i:Int)=some (iL zs)∧OrdOk m v zs∧(zs.length+if v<m then 1 else 0)=m
 | 0,_,_,_,_,_,h=>absurd h (qap _)
 | n+1,i,xs,ho,hx,hi,hf=>by
  unfold zcL;rw[zaz];by_cases hlt:i<m
  ·rw[decide_eq_true hlt,cond_true];by_cases hv:i=v
   ·subst hv;rw[beq_self_eq_true,cond_true,qaa,zal (by omega)]
    exact zk2 hl hm n (i+1) xs ⟨ho.nod,fun x h=>qcI (ho.lt x h),ho.ne⟩ (by
     rw[if_neg (qcY _)]at hx;rw[if_pos (qbH _)]
     omega) hlt (by omega)
   have hxl:xs.length≤i:=by omega
   obtain⟨x3,e3,b3⟩:=zwU (xs:=[l.a0,l.a1,l.a2,l.a3,l.a4,l.a5,l.a6,l.a7]) (i:=i) (P:=fun x=>0≤x∧x≤255) (by simp; omega) hl;obtain⟨y,rfl⟩:∃ y:Nat,x3=(y:Int):=⟨x3.toNat,by omega⟩;obtain⟨q,hq⟩:∃ q,y % (xs.length+1)=q:=⟨_,rfl⟩;have hql:q≤xs.length:=by have:=qbc y (Nat.succ_pos xs.length); rw[show xs.length.succ=xs.length+1 from rfl,hq]at this; omega
   have hp:List.Perm (xs.take q ++ i :: xs.drop q) (i :: xs):=by
    refine List.perm_middle.trans ?_;rw[qbR]
   have hy255:y≤255:=by omega
   obtain⟨zs,g1,g2,g3⟩:=zk2 hl hm n (i+1) (xs.take q ++ i :: xs.drop q) ⟨hp.nodup_iff.2 (qbh.2 ⟨fun h=>qcY _ (ho.lt _ h),ho.nod⟩),
    fun x h=>by
     rcases qaz.1 (hp.mem_iff.1 h)with rfl | h
     ·exact qbH _
     exact qcI (ho.lt _ h),
    fun x h=>by
     rcases qaz.1 (hp.mem_iff.1 h)with rfl | h
     ·exact hv
     exact ho.ne _ h⟩ (by
    rw[hp.length_eq,qaS];by_cases hvi:v<i
    ·rw[if_pos hvi]at hx; rw[if_pos (by omega)]; omega
    rw[if_neg hvi]at hx; rw[if_neg (by omega)]; omega) hlt (by omega)
   refine⟨zs,?_,g2,g3⟩
   rw[show((i:Int)==(v:Int))=false from by rw[beq_eq_false_iff_ne]; omega,cond_false,show((i:Int)).tmod 8=(i:Int)from by
     rw[show(8:Int)=((8:Nat):Int)from rfl,zun,qa6 (by omega)],e3,qaa,zao,zaH (by omega),zal (by omega),zkG (by omega),qaa,hq,
    show(0:Int)=((0:Nat):Int)from rfl,zgf (qaC _) (by rw[zao]; omega),qaa,zhG (by simp[zao]; omega),qaa,
    zd1 (by simp[zao]; omega),qaa,zgf hql (by rw[zao]; exact qan _),qaa,zd1 (by simp[zao]; omega),qaa,qaa,zal (by omega),← g1]
   congr 1
   simp[iL,qaW]
  have hie:i=m:=by omega
  subst hie;rw[decide_eq_false hlt,cond_false];exact⟨xs,rfl,ho,hx⟩
theorem zuR{m v:Nat}{l:A8_Intu8}(hl:∀ x∈[l.a0,l.a1,l.a2,l.a3,l.a4,l.a5,l.a6,l.a7],0≤x∧x≤255)(hm:m≤8)(hv:v<m):
  ∃ zs:List Nat,zdV (m:Int) (v:Int) l=some (iL zs)∧OrdOk m v zs∧zs.length=m - 1:=by
 obtain⟨zs,g1,g2,g3⟩:=zk2 (v:=v) hl hm (m+2) 0 [] ⟨.nil,(fun _ h=>nomatch h),(fun _ h=>nomatch h)⟩ rfl (qaC _) (by omega);rw[if_pos hv]at g3;refine⟨zs,?_,g2,by omega⟩;unfold zdV;rw[zaN,show zcL (m:Int) (v:Int) l (m+2) [] 0=some (iL zs)from g1,qaa]
theorem zq4(x:Int):∃ n:Nat,IntKind.u64.wrap x=(n:Int):=by
 have h:0≤IntKind.u64.wrap x:=by
  simp only[IntKind.wrap,IntKind.bits,IntKind.signed];simp;omega
 exact⟨(IntKind.u64.wrap x).toNat,by omega⟩
theorem zzt{a:S_haruspexlaw09_Ask}{m:Nat}(h1:1≤m)(hm:m≤8):∃ v:Nat,v<m∧zbt a (m:Int)=some (v:Int):=by
 obtain⟨n,hn⟩:=zq4 a.v;have hlt:=qbc n (show 0<m by omega);refine⟨n % m,hlt,?_⟩;unfold zbt;rw[hn,show zcC (m:Int) 1=(m:Int)from by unfold zcC; split<;>omega,zet (by omega),zkG (by omega),qaa,zaH (by omega)]
theorem zwL{a:S_haruspexlaw09_Ask}(ha:AskOk a){g:Nat}{ns:List NN}(h:RightN g ns):
  ∃(v:Nat) (e:List Int) (xs:List Nat) (r:A4_S_haruspexlaw09_Ask),ze2 a (zbQ g ns)=some r∧v<ns.length∧EvOk (ns.map (·.c)) e∧OrdOk ns.length v xs∧xs.length=ns.length - 1 ∧
   zbt a (ns.length:Int)=some (v:Int)∧zbw a.known (zbQ g ns)=some e∧zdV (ns.length:Int) (v:Int) a.l=some (iL xs)∧
   ∀ x∈[r.a0,r.a1,r.a2,r.a3],x.order.length≤10:=by
 have hn8:=h.n2;have hn1:=h.n1;have hnl:(zbQ g ns).nodes.length=ns.length:=by simp[zbQ]
 obtain⟨v,v1,v2⟩:=zzt (a:=a) hn1 hn8;obtain⟨e,e1,e2⟩:=zt9 (g:=g) ha.k hn8 fun x hx=>(h.zaD x hx).1
 obtain⟨xs,x1,x2,x3⟩:=zuR (l:=a.l) ha.l hn8 v1;obtain⟨y5,y51,y52,_⟩:=zmR (xs:=a.e) (k:=10);obtain⟨y7,y71,y72,_⟩:=zmR (xs:=a.order) (k:=10);rw[show((10:Nat):Int)=10 from rfl]at y51 y71;have hxl:(iL xs).length≤10:=by rw[zao]; omega
 refine⟨v,e,xs,_,by unfold ze2; rw[e1,qaa,hnl,v2,qaa,y51,qaa,y71,qaa,x1,qaa],v1,e2,x2,x3,v2,e1,x1,fun x hx=>?_⟩;simp only[qaz,qbQ,or_false]at hx;rcases hx with rfl | rfl | rfl | rfl
 ·exact hxl
 ·exact hxl
 ·exact hxl
 exact y72
end Go.Dc
namespace Go.Proofs.YtbjogdohfhdaiaaGreat.S
open Go Go.Mx Go.Lx Go.Dc Go.ChangeShapes Go.WideShapes Go.ChangeAt Go.RowKit
theorem zv2:Dec zh5 [.int .u8,.int .u8,.int .u8,.int .u8,.int .u8,.int .u8,.int .u8,.int .u8] (fun x=>okI .u8 x.a0∧okI .u8 x.a1∧okI .u8 x.a2∧okI .u8 x.a3∧okI .u8 x.a4∧okI .u8 x.a5∧okI .u8 x.a6∧okI .u8 x.a7):=
 Dec.iso (Dec.pair (Dec.int .u8) (Dec.pair (Dec.int .u8) (Dec.pair (Dec.int .u8) (Dec.pair (Dec.int .u8) (Dec.pair (Dec.int .u8) (Dec.pair (Dec.int .u8) (Dec.pair (Dec.int .u8) (Dec.int .u8))))))))
  (fun x:A8_Intu8=>(x.a0,x.a1,x.a2,x.a3,x.a4,x.a5,x.a6,x.a7)) (fun a=>⟨a.1,a.2.1,a.2.2.1,a.2.2.2.1,a.2.2.2.2.1,a.2.2.2.2.2.1,a.2.2.2.2.2.2.1,a.2.2.2.2.2.2.2⟩) (fun _=>rfl)
theorem zrt:Dec zcV [.int .u8,.int .u8,.int .u8,.int .u8,.int .u8,.int .u8,.int .u8,.int .u8,.int .u8]
  (fun x=>okI .u8 x.which∧okI .u8 x.v.a0∧okI .u8 x.v.a1∧okI .u8 x.v.a2∧okI .u8 x.v.a3∧okI .u8 x.v.a4∧okI .u8 x.v.a5∧okI .u8 x.v.a6∧okI .u8 x.v.a7):=
 Dec.iso (Dec.pair (Dec.int .u8) zv2) (fun x:S_haruspexref05_Known=>(x.which,x.v)) (fun a=>⟨a.1,a.2⟩) (fun _=>rfl)
theorem zwt:Dec zca [.int .u8,.int .u8,.int .u8,.int .u8,.int .u8,.int .u8,.int .u8,.int .u8,.int .u8,.int .i64,.int .u8,.int .u8,.int .u8,.int .u8,.int .u8,.int .u8,.int .u8,.int .u8,.sl [.int .i64],.sl [.int .i64]]
  (fun x=>(okI .u8 x.known.which∧okI .u8 x.known.v.a0∧okI .u8 x.known.v.a1∧okI .u8 x.known.v.a2∧okI .u8 x.known.v.a3∧okI .u8 x.known.v.a4∧okI .u8 x.known.v.a5∧okI .u8 x.known.v.a6∧okI .u8 x.known.v.a7)∧okI .i64 x.v ∧
   (okI .u8 x.l.a0∧okI .u8 x.l.a1∧okI .u8 x.l.a2∧okI .u8 x.l.a3∧okI .u8 x.l.a4∧okI .u8 x.l.a5∧okI .u8 x.l.a6∧okI .u8 x.l.a7)∧okL (okI .i64) x.e∧okL (okI .i64) x.order):=
 Dec.iso (Dec.pair zrt (Dec.pair (Dec.int .i64) (Dec.pair zv2 (Dec.pair (Dec.list (Dec.int .i64)) (Dec.list (Dec.int .i64))))))
  (fun x:S_haruspexlaw09_Ask=>(x.known,x.v,x.l,x.e,x.order)) (fun a=>⟨a.1,a.2.1,a.2.2.1,a.2.2.2.1,a.2.2.2.2⟩) (fun _=>rfl)
theorem zqR:zdL Tryz.prog 8 33=some [.int .u8,.int .u8,.int .u8,.int .u8,.int .u8,.int .u8,.int .u8,.int .u8,.int .u8,.int .i64,.int .u8,.int .u8,.int .u8,.int .u8,.int .u8,.int .u8,.int .u8,.int .u8,.sl [.int .i64],.sl [.int .i64]]:=by kernel_rfl
theorem zyU:ztD Tryz.prog 33=true:=by kernel_rfl
theorem zxy:Tryz.prog.readableRec 33=true:=by kernel_rfl
theorem zyE{d:D}(h:ShA Tryz.prog 8 33 d):∃ x:S_haruspexlaw09_Ask,AskOk x∧d=.agg (zca.c false x):=by
 obtain⟨x,⟨⟨_,k0,k1,k2,k3,k4,k5,k6,k7⟩,_,⟨l0,l1,l2,l3,l4,l5,l6,l7⟩,_⟩,h2⟩:=zwt.agg zyU zqR h;refine⟨x,⟨⟨fun y hy=>?_⟩,fun y hy=>?_⟩,h2⟩
 ·simp only[qaz,qbQ,or_false]at hy;rcases hy with rfl | rfl | rfl | rfl | rfl | rfl | rfl | rfl<;>exact zjh (by assumption)
 simp only[qaz,qbQ,or_false]at hy;rcases hy with rfl | rfl | rfl | rfl | rfl | rfl | rfl | rfl<;>exact zjh (by assumption)
end Go.Proofs.YtbjogdohfhdaiaaGreat.S
namespace Go.Dc
open Go Go.Mx Go.Lx
inductive Anc (par:Nat→Nat→Prop):Nat→Nat→Prop
 | refl (a:Nat):Anc par a a
 | up {a b c:Nat}:Anc par a b→par b c→Anc par a c
inductive Tr (par:Nat→Nat→Prop) (kn ab:Nat→Prop) (u:Nat):Bool→Nat→Prop
 | start:Tr par kn ab u false u
 | dn {d:Bool} {v c:Nat}:Tr par kn ab u d v→¬ kn v→par c v→Tr par kn ab u false c
 | tu {v p:Nat}:Tr par kn ab u false v→ab v→par v p→Tr par kn ab u true p
 | uu {v p:Nat}:Tr par kn ab u true v→¬ kn v→par v p→Tr par kn ab u true p
inductive Mr (par:Nat→Nat→Prop) (kn:Nat→Prop) (n:Nat):Nat→Prop
 | base:Mr par kn n n
 | step {a b:Nat}:Mr par kn n a→¬ kn a→(par a b∨par b a∨∃ c,par c a∧par c b)→Mr par kn n b
def zAD(par:Nat→Nat→Prop)(n u c q:Nat):Prop:=par c q∨(c=u∧q=n)
def zBz(par:Nat→Nat→Prop)(kn:Nat→Prop)(n u t i:Nat):Prop:=∃ a,(a=n∨a=t∨kn a)∧Anc (zAD par n u) a i
def kept(par:Nat→Nat→Prop)(kn:Nat→Prop)(n u t c q:Nat):Prop:=zBz par kn n u t c∧zAD par n u c q
section
variable {par:Nat→Nat→Prop} {kn ab:Nat→Prop} {n u t:Nat}
theorem Anc.tr{a b c:Nat}(h1:Anc par a b)(h2:Anc par b c):Anc par a c:=by
 induction h2 with
 | refl=>exact h1
 | up _ e ih=>exact .up ih e
theorem Anc.x{a b:Nat}(h:Anc par a b):Anc (zAD par n u) a b:=by
 induction h with
 | refl=>exact .refl _
 | up _ e ih=>exact .up ih (.inl e)
theorem zwV(hab:∀ i,ab i↔∃ e,kn e∧Anc par e i){c:Nat}(h:Anc par t c):¬ ab c→(∃ d,Tr par kn ab u d c)→∃ d,Tr par kn ab u d t:=by
 induction h with
 | refl=>exact fun _ h=>h
 | @up b c h e ih=>
  rintro ha ⟨d,hd⟩;refine ih (fun hb=>ha ?_) ⟨false,.dn hd (fun hk=>ha ((hab _).2 ⟨c,hk,.refl c⟩)) e⟩;obtain⟨a,h1,h2⟩:=(hab _).1 hb;exact(hab _).2 ⟨a,h1,.up h2 e⟩
end
def zCf(par:Nat→Nat→Prop)(kn:Nat→Prop)(t i:Nat):Prop:=∃ a,(a=t∨kn a)∧Anc par a i
section
variable {par:Nat→Nat→Prop} {kn ab:Nat→Prop} {n u t:Nat}
theorem zvK(hab:∀ i,ab i↔∃ e,kn e∧Anc par e i){d:Bool}{x:Nat}(h:Tr par kn ab u d x):ab u∨(d=false∧Anc par x u):=by
 have hup:∀ {i j:Nat},ab i→Anc par i j→ab j:=fun h r=>by
  obtain⟨a,h1,h2⟩:=(hab _).1 h;exact(hab _).2 ⟨a,h1,h2.tr r⟩
 induction h with
 | start=>exact .inr ⟨rfl,.refl _⟩
 | dn _ _ e ih=>exact ih.elim .inl fun h=>.inr ⟨rfl,(Anc.up (.refl _) e).tr h.2⟩
 | tu _ ha _ ih=>exact .inl (ih.elim id fun h=>hup ha h.2)
 | uu _ _ _ ih=>exact ih.elim .inl fun h=>nomatch h.1
theorem zy2(hab:∀ i,ab i↔∃ e,kn e∧Anc par e i)(h:∃ d,Tr par kn ab u d t):zCf par kn t u:=by
 obtain⟨d,h⟩:=h;rcases zvK hab h with h | h
 ·obtain⟨e,h1,h2⟩:=(hab _).1 h;exact⟨e,.inr h1,h2⟩
 exact⟨t,.inl rfl,h.2⟩
theorem zw8(hab:∀ i,ab i↔∃ e,kn e∧Anc par e i)(hk:∀ i,¬ kn i):(∃ d,Tr par kn ab u d t)↔Anc par t u:=by
 have ha:∀ i,¬ ab i:=fun i h=>by
  obtain⟨e,h1,_⟩:=(hab _).1 h;exact hk e h1
 constructor
 ·rintro⟨d,h⟩;exact(zvK hab h).elim (fun h=>absurd h (ha _)) fun h=>h.2
 exact fun h=>zwV hab h (ha _) ⟨false,.start⟩
theorem Mr.trans{par:Nat→Nat→Prop}{a b c:Nat}(h1:Mr par kn a b)(h2:Mr par kn b c):Mr par kn a c:=by
 induction h2 with
 | base=>exact h1
 | step _ hk e ih=>exact .step ih hk e
theorem Mr.mono{par par':Nat→Nat→Prop}(hp:∀ c q,par c q→par' c q){a b:Nat}(h:Mr par kn a b):Mr par' kn a b:=by
 induction h with
 | base=>exact .base
 | step _ hk e ih=>
  refine .step ih hk ?_;rcases e with e | e | ⟨c,e1,e2⟩
  ·exact .inl (hp _ _ e)
  ·exact .inr (.inl (hp _ _ e))
  exact .inr (.inr ⟨c,hp _ _ e1,hp _ _ e2⟩)
end
def zqx(ms:List Nat)(c p:Nat):Prop:=(ms.getD c 0).testBit p=true
theorem zd8{ms:List Nat}{a b:Nat}:Anc (zqx ms) a b↔Reach ms a b:=by
 constructor
 ·intro h;induction h with
  | refl=>exact .refl _
  | up _ e ih=>exact ih.tr (.step e (.refl _))
 intro h;induction h with
 | refl=>exact .refl _
 | step e _ ih=>exact(Anc.up (.refl _) e).tr ih
abbrev zg8(K i:Nat):Prop:=K.testBit i=true
structure ChOk (ms cs:List Nat):Prop where
 n:ms.length≤60
 len:cs.length=ms.length
 lt:∀ m∈ms,m<18446744073709551616
 clt:∀ m∈cs,m<18446744073709551616
 e:EOk ms
 turn:∀ p c,(cs.getD p 0).testBit c=true↔(ms.getD c 0).testBit p=true
structure FlOk (ms:List Nat) (K A u D U:Nat):Prop where
 dl:D<18446744073709551616
 ul:U<18446744073709551616
 st:D.testBit u=true
 d:∀ i,D.testBit i=true→Tr (zqx ms) (zg8 K) (zg8 A) u false i
 up:∀ i,U.testBit i=true→Tr (zqx ms) (zg8 K) (zg8 A) u true i
theorem zyF{ms:List Nat}(he:EOk ms){kn ab:Nat→Prop}{u:Nat}(hu:u<ms.length){d:Bool}{x:Nat}(h:Tr (zqx ms) kn ab u d x):x<ms.length:=by
 cases h with
 | start=>exact hu
 | dn _ _ e=>exact(he _ _ e).1
 | tu _ _ e=>exact(he _ _ e).2
 | uu _ _ e=>exact(he _ _ e).2
theorem zs6{a b:Nat}(h:Sub a b)(hne:b≠a):∃ x,a.testBit x=false∧b.testBit x=true:=by
 refine qbY fun hno=>hne ?_
 refine Sub.zAP (fun i hi=>?_) h;cases ha:a.testBit i with
 | true=>rfl
 | false=>exact absurd ⟨i,ha,hi⟩ hno
theorem zvG(a b:Nat):Sub a (a ||| b):=fun i hi=>by rw[qbs,hi,Bool.true_or]
def zxL(ms cs:List Nat)(K A D U w:Nat):Prop:=
 ((D.testBit w=true∨U.testBit w=true)→K.testBit w=false→Sub (cs.getD w 0) D)∧(((D.testBit w=true∧A.testBit w=true)∨(U.testBit w=true∧K.testBit w=false))→Sub (ms.getD w 0) U)
theorem zmk{a b:Nat}(h:a ||| b=a):Sub b a:=fun i hi=>by
 rw[← h,qbs,hi,qdl]
theorem zlu{ms cs:List Nat}(hc:ChOk ms cs){K A u D U:Nat}(hK:K<18446744073709551616)(hA:A<18446744073709551616)(hu:u<ms.length)(hf:FlOk ms K A u D U):∀(n v:Nat),v≤ms.length→ms.length - v<n→(∀ w,w<v→zxL ms cs K A D U w)→
  (zaA (iL ms) (D:Int) (U:Int) (K:Int) (iL cs) (A:Int) n (v:Int)=some (.go ())∧∀ w,w<ms.length→zxL ms cs K A D U w)∨
  ∃ D' U':Nat,zaA (iL ms) (D:Int) (U:Int) (K:Int) (iL cs) (A:Int) n (v:Int)=some (.brk ((D':Int),(U':Int)))∧FlOk ms K A u D' U'∧cnt ms.length D+cnt ms.length U<cnt ms.length D'+cnt ms.length U'
 | 0,_,_,h,_=>absurd h (qap _)
 | n+1,v,hv,hn,hs=>by
  have hn60:=hc.n;unfold zaA;rw[zao,zaz];by_cases hlt:v<ms.length
  ·have hor:D ||| U<18446744073709551616:=qbo (n:=64) hf.dl hf.ul;have hda:D &&& A<18446744073709551616:=qb5 Nat.and_le_left hf.dl;have hB:(D &&& A)||| diff U K<18446744073709551616:=qbo (n:=64) hda (zg3 _ _);have hcv:=zg5 hc.clt v;have hmv:=zg5 hc.lt v;have hcl:v<cs.length:=by rw[hc.len]; exact hlt
   obtain⟨q4,a1,a2⟩:=ztN (a:=diff (D ||| U) K) (v:=v) (zg3 _ _) (by omega);obtain⟨q9,b1,b2⟩:=ztN (a:=(D &&& A)||| diff U K) (v:=v) hB (by omega);have t1:(diff (D ||| U) K).testBit v=((D.testBit v || U.testBit v) && !K.testBit v):=by rw[zfe hor hK,qbs]
   have t2:((D &&& A)||| diff U K).testBit v=((D.testBit v && A.testBit v)|| (U.testBit v && !K.testBit v)):=by rw[qbs,Nat.testBit_and,zfe hf.ul hK]
   obtain⟨D',hD'⟩:∃ D',D'=(bif (D.testBit v || U.testBit v) && !K.testBit v then D ||| cs.getD v 0 else D):=⟨_,rfl⟩;obtain⟨U',hU'⟩:∃ U',U'=(bif (D.testBit v && A.testBit v)|| (U.testBit v && !K.testBit v)then U ||| ms.getD v 0 else U):=⟨_,rfl⟩;have e1:((bif ((zfz .u64 q4 1)== 1)then((za3 (iL cs) (v:Int)).bind fun x7=>some (orI .u64 (D:Int) x7))else some (D:Int):Option Int))=some (D':Int):=by
    rw[a2,t1,hD'];cases(D.testBit v || U.testBit v) && !K.testBit v with
    | true=>rw[show((((true:Bool).toNat:Nat):Int)== 1)=true from rfl,cond_true,cond_true,zlk hcl,qaa,orU hf.dl hcv]
    | false=>rfl
   have e2:((bif ((zfz .u64 q9 1)== 1)then((za3 (iL ms) (v:Int)).bind fun x12=>some (orI .u64 (U:Int) x12))else some (U:Int):Option Int))=some (U':Int):=by
    rw[b2,t2,hU'];cases(D.testBit v && A.testBit v)|| (U.testBit v && !K.testBit v)with
    | true=>rw[show((((true:Bool).toNat:Nat):Int)== 1)=true from rfl,cond_true,cond_true,zlk hlt,qaa,orU hf.ul hmv]
    | false=>rfl
   have hsD:Sub D D':=by
    rw[hD'];cases(D.testBit v || U.testBit v) && !K.testBit v with
    | true=>exact zvG _ _
    | false=>exact Sub.zzV
   have hsU:Sub U U':=by
    rw[hU'];cases(D.testBit v && A.testBit v)|| (U.testBit v && !K.testBit v)with
    | true=>exact zvG _ _
    | false=>exact Sub.zzV
   have hFl:FlOk ms K A u D' U':=by
    refine⟨?_,?_,hsD _ hf.st,fun i hi=>?_,fun i hi=>?_⟩
    ·rw[hD'];cases(D.testBit v || U.testBit v) && !K.testBit v with
     | true=>exact qbo (n:=64) hf.dl hcv
     | false=>exact hf.dl
    ·rw[hU'];cases(D.testBit v && A.testBit v)|| (U.testBit v && !K.testBit v)with
     | true=>exact qbo (n:=64) hf.ul hmv
     | false=>exact hf.ul
    ·rw[hD']at hi;cases hb:(D.testBit v || U.testBit v) && !K.testBit v with
     | false=>rw[hb,cond_false]at hi; exact hf.d i hi
     | true=>
      rw[hb,cond_true,qbs,qa5]at hi;rcases hi with hi | hi
      ·exact hf.d i hi
      obtain⟨k1,k2⟩:=qbJ.1 hb;have k2':¬ zg8 K v:=by
       intro hk;rw[show K.testBit v=true from hk]at k2;cases k2
      rcases qce.1 k1 with k1 | k1
      ·exact .dn (hf.d v k1) k2' ((hc.turn v i).1 hi)
      exact .dn (hf.up v k1) k2' ((hc.turn v i).1 hi)
    rw[hU']at hi;cases hb:(D.testBit v && A.testBit v)|| (U.testBit v && !K.testBit v)with
    | false=>rw[hb,cond_false]at hi; exact hf.up i hi
    | true=>
     rw[hb,cond_true,qbs,qa5]at hi;rcases hi with hi | hi
     ·exact hf.up i hi
     rcases qce.1 hb with k | k
     ·obtain⟨k1,k2⟩:=qbJ.1 k;exact .tu (hf.d v k1) k2 hi
     obtain⟨k1,k2⟩:=qbJ.1 k;exact .uu (hf.up v k1) (fun hk=>by rw[show K.testBit v=true from hk]at k2; cases k2) hi
   have hin:∀ {D U:Nat},FlOk ms K A u D U→(∀ x,D.testBit x=true→x<ms.length)∧(∀ x,U.testBit x=true→x<ms.length):=fun h=>⟨fun x hx=>zyF hc.e hu (h.d x hx),fun x hx=>zyF hc.e hu (h.up x hx)⟩
   rw[decide_eq_true hlt,cond_true,orU hf.dl hf.ul,zxU,a1,qaa,e1,qaa,zA5 hf.dl hA,zxU,orU hda (zg3 _ _),b1,qaa,e2,qaa];by_cases c1:D'=D
   ·by_cases c2:U'=U
    ·rw[c1,c2,beq_self_eq_true,cond_true,beq_self_eq_true,qa8,qaa,cond_false,zal (by omega)];refine zlu hc hK hA hu hf n (v+1) hlt (by omega) fun w hw=>?_
     by_cases ew:w=v
     ·subst ew;refine⟨fun k1 k2=>?_,fun k1=>?_⟩
      ·have:((D.testBit w || U.testBit w) && !K.testBit w)=true:=by rw[k2,qce.2 k1]; rfl
       rw[this,cond_true]at hD';exact zmk (hD'.symm.trans c1)
      have:((D.testBit w && A.testBit w)|| (U.testBit w && !K.testBit w))=true:=by
       rcases k1 with⟨k1,k2⟩| ⟨k1,k2⟩
       ·rw[k1,k2]; rfl
       rw[k1,k2]; simp
      rw[this,cond_true]at hU';exact zmk (hU'.symm.trans c2)
     exact hs w (by omega)
    rw[c1,beq_self_eq_true,cond_true,show(((U':Nat):Int)==(U:Int))=false from by rw[beq_eq_false_iff_ne]; omega,qbO,qaa,cond_true];refine .inr ⟨D,U',rfl,c1 ▸ hFl,?_⟩;obtain⟨x,x1,x2⟩:=zs6 hsU c2;have:=zpc hsU ⟨x,(hin hFl).2 x x2,x1,x2⟩;omega
   rw[show(((D':Nat):Int)==(D:Int))=false from by rw[beq_eq_false_iff_ne]; omega,cond_false,qaa,cond_true];refine .inr ⟨D',U',rfl,hFl,?_⟩;obtain⟨x,x1,x2⟩:=zs6 hsD c1;have h1:=zpc hsD ⟨x,(hin hFl).1 x x2,x1,x2⟩;by_cases c2:U'=U
   ·rw[c2]; omega
   obtain⟨y,y1,y2⟩:=zs6 hsU c2;have:=zpc hsU ⟨y,(hin hFl).2 y y2,y1,y2⟩;omega
  rw[decide_eq_false hlt,cond_false];exact .inl ⟨rfl,fun w hw=>hs w (by omega)⟩
theorem zq3{ms cs:List Nat}(hc:ChOk ms cs){K A u D U:Nat}(hf:FlOk ms K A u D U)(hs:∀ w,w<ms.length→zxL ms cs K A D U w){d:Bool}{x:Nat}(h:Tr (zqx ms) (zg8 K) (zg8 A) u d x):(bif d then U else D).testBit x=true:=by
 have hk:∀ {i},¬ zg8 K i→K.testBit i=false:=fun {i} h=>by
  cases hb:K.testBit i with
  | false=>rfl
  | true=>exact absurd hb h
 induction h with
 | start=>exact hf.st
 | @dn d v c _ h2 e ih=>
  refine(hs v (hc.e _ _ e).2).1 ?_ (hk h2) c ((hc.turn v c).2 e);cases d with
  | true=>exact .inr ih
  | false=>exact .inl ih
 | @tu v p _ h2 e ih=>exact(hs v (hc.e _ _ e).1).2 (.inl ⟨ih,h2⟩) p e
 | @uu v p _ h2 e ih=>exact(hs v (hc.e _ _ e).1).2 (.inr ⟨ih,hk h2⟩) p e
theorem zlD{ms cs:List Nat}(hc:ChOk ms cs){K A u:Nat}(hK:K<18446744073709551616)(hA:A<18446744073709551616)(hu:u<ms.length):∀(n D U:Nat),FlOk ms K A u D U→2 * ms.length - (cnt ms.length D+cnt ms.length U)<n →
  ∃ F:Nat,zaY (iL ms) (K:Int) (iL cs) (A:Int) n (D:Int) (U:Int)=some (.ret (F:Int))∧F<18446744073709551616∧∀ i,F.testBit i=true↔(∃ d,Tr (zqx ms) (zg8 K) (zg8 A) u d i)∧¬ zg8 K i
 | 0,_,_,_,h=>absurd h (qap _)
 | n+1,D,U,hf,hn=>by
  unfold zaY;have hor:D ||| U<18446744073709551616:=qbo (n:=64) hf.dl hf.ul;rcases zlu hc hK hA hu hf (ms.length+2) 0 (qaC _) (by omega) (fun w h=>absurd h (qap _))with⟨h1,h2⟩| ⟨D',U',h1,h2,h3⟩
  ·rw[zao,zaN,show zaA (iL ms) (D:Int) (U:Int) (K:Int) (iL cs) (A:Int) (ms.length+2) 0=_ from h1,qaa,orU hf.dl hf.ul,zxU];refine⟨diff (D ||| U) K,rfl,zg3 _ _,fun i=>?_⟩;rw[zfe hor hK,qbs,qaf,qa5,qbn];constructor
   ·rintro⟨h,hk⟩;refine⟨?_,fun hb=>by rw[show K.testBit i=true from hb]at hk; cases hk⟩;rcases h with h | h
    ·exact⟨false,hf.d i h⟩
    exact⟨true,hf.up i h⟩
   rintro⟨⟨d,h⟩,hk⟩;have:=zq3 hc hf h2 h;refine⟨?_,by cases hb:K.testBit i with | false=>rfl | true=>exact absurd hb hk⟩;cases d with
   | true=>exact .inr this
   | false=>exact .inl this
  rw[zao,zaN,show zaA (iL ms) (D:Int) (U:Int) (K:Int) (iL cs) (A:Int) (ms.length+2) 0=_ from h1,qaa];have c1:=zsv ms.length D';have c2:=zsv ms.length U';exact zlD hc hK hA hu n D' U' h2 (by omega)
theorem ztR{ms cs:List Nat}(hc:ChOk ms cs){K A u N:Nat}(hK:K<18446744073709551616)(hA:A<18446744073709551616)(hu:u<ms.length)(hN:200≤N):
  ∃ F:Nat,zbs N (u:Int) (iL ms) (iL cs) (K:Int) (A:Int)=some (F:Int)∧F<18446744073709551616∧∀ i,F.testBit i=true↔(∃ d,Tr (zqx ms) (zg8 K) (zg8 A) u d i)∧¬ zg8 K i:=by
 have hn60:=hc.n;have hp:2 ^ u<18446744073709551616:=(qa7 (by decide) (show u<64 by omega):2 ^ u<2 ^ 64)
 obtain⟨F,f1,f2,f3⟩:=zlD hc hK hA hu N (2 ^ u) 0 ⟨hp,by decide,by rw[qbB]; exact decide_eq_true rfl,fun i hi=>by
  rw[qbB]at hi
  exact of_decide_eq_true hi ▸ .start,fun i hi=>by simp at hi⟩ (by omega)
 refine⟨F,?_,f2,f3⟩;unfold zbs;rw[ztC (by omega),qaa,show zaY (iL ms) (K:Int) (iL cs) (A:Int) N ((2 ^ u:Nat):Int) 0=_ from f1,qaa]
structure PcOk (ns:List NN) (i:Nat) (ts:List Nat) (P Q:List Nat):Prop where
 pl:P.length=ns.length
 ql:Q.length=ns.length
 plt:∀ m∈P,m<18446744073709551616
 qlt:∀ m∈Q,m<18446744073709551616
 p:∀ c q,(P.getD c 0).testBit q=true↔(c<i∧q∈(ns.getD c zgM).ps)∨(c=i∧q∈ts)
 q:∀ q c,(Q.getD q 0).testBit c=true↔(c<i∧q∈(ns.getD c zgM).ps)∨(c=i∧q∈ts)
theorem zv7{xs:List Nat}{i y:Nat}(h:∀ m∈xs,m<18446744073709551616)(hy:y<18446744073709551616):∀ m∈xs.set i y,m<18446744073709551616:=fun m hm=>by
 rcases qbX hm with hm | rfl
 ·exact h m hm
 exact hy
theorem zyV{g:Nat}{ns:List NN}(h:RightN g ns){i:Nat}(hi:i<ns.length){q:S_eliminate_query}:∀(n k:Nat) (P Q:List Nat),PcOk ns i ((ns.getD i zgM).ps.take k) P Q→k≤(ns.getD i zgM).ps.length→(ns.getD i zgM).ps.length - k<n →
  ∃ P' Q',zat (nd (ns.getD i zgM)) (i:Int) q n (k:Int) (iL P) (iL Q)=some (iL P',iL Q')∧PcOk ns i (ns.getD i zgM).ps P' Q'
 | 0,_,_,_,_,_,h=>absurd h (qap _)
 | n+1,k,P,Q,hp,hk,hf=>by
  have hn8:=h.n2;unfold zat;rw[show(nd (ns.getD i zgM)).parents=iL (ns.getD i zgM).ps from rfl,zao,zaz];by_cases hlt:k<(ns.getD i zgM).ps.length
  ·obtain⟨x,hx⟩:∃ x,(ns.getD i zgM).ps[k]=x:=⟨_,rfl⟩;have hxm:x∈(ns.getD i zgM).ps:=hx ▸ qat hlt;have hxn:x<ns.length:=by
    have:=(h.stc hi).var x (zhQ.2 (.inr hxm))
    rwa [qaA]at this
   have htk:(ns.getD i zgM).ps.take (k+1)=(ns.getD i zgM).ps.take k ++ [x]:=by rw[List.take_add_one,qac hlt,hx]; rfl
   have hx64:2 ^ x<18446744073709551616:=(qa7 (by decide) (show x<64 by omega):2 ^ x<2 ^ 64);have hi64:2 ^ i<18446744073709551616:=(qa7 (by decide) (show i<64 by omega):2 ^ i<2 ^ 64);have hPi:i<P.length:=by rw[hp.pl]; exact hi
   have hQx:x<Q.length:=by rw[hp.ql]; exact hxn
   have hp1:=zg5 hp.plt i;have hq1:=zg5 hp.qlt x;have l8:(ns.getD i zgM).ps.length≤8:=by
    have hm:ns.getD i zgM∈ns:=zqP hi;exact h.zAa hm
   rw[decide_eq_true hlt,cond_true,zbf hlt,hx,qaa,zlk hPi,qaa,ztC (by omega),qaa,orU hp1 hx64,zkX hPi,qaa,zlk hQx,qaa,ztC (by omega),qaa,orU hq1 hi64,zkX hQx,qaa,zal (by omega)];refine zyV h hi n (k+1) _ _ ⟨by rw[qaH]; exact hp.pl,by rw[qaH]; exact hp.ql,zv7 hp.plt (qbo (n:=64) hp1 hx64),zv7 hp.qlt (qbo (n:=64) hq1 hi64),fun c y=>?_,fun y c=>?_⟩ hlt (by omega)
   ·rw[zn9 hPi,htk,qa9,qaQ];by_cases e:i=c
    ·subst e;rw[if_pos rfl,qbs,qbB,qa5,hp.p,decide_eq_true_iff];constructor
     ·rintro((a | a)| a)
      ·exact .inl a
      ·exact .inr ⟨rfl,.inl a.2⟩
      exact .inr ⟨rfl,.inr a.symm⟩
     rintro(a | ⟨_,a | a⟩)
     ·exact .inl (.inl a)
     ·exact .inl (.inr ⟨rfl,a⟩)
     exact .inr a.symm
    rw[if_neg e,hp.p];constructor
    ·rintro(a | a)
     ·exact .inl a
     exact absurd a.1.symm e
    rintro(a | a)
    ·exact .inl a
    exact absurd a.1.symm e
   rw[zn9 hQx,htk,qa9,qaQ];by_cases e:x=y
   ·subst e;rw[if_pos rfl,qbs,qbB,qa5,hp.q,decide_eq_true_iff];constructor
    ·rintro((a | a)| a)
     ·exact .inl a
     ·exact .inr ⟨a.1,.inl a.2⟩
     exact .inr ⟨a.symm,.inr rfl⟩
    rintro(a | ⟨a,b | _⟩)
    ·exact .inl (.inl a)
    ·exact .inl (.inr ⟨a,b⟩)
    exact .inr a.symm
   rw[if_neg e,hp.q];constructor
   ·rintro(a | a)
    ·exact .inl a
    exact .inr ⟨a.1,.inl a.2⟩
   rintro(a | ⟨a,b | b⟩)
   ·exact .inl a
   ·exact .inr ⟨a,b⟩
   exact absurd b.symm e
  have hk':k=(ns.getD i zgM).ps.length:=by omega
  rw[decide_eq_false hlt,cond_false];refine⟨P,Q,rfl,?_⟩;rw[hk',qcg]at hp;exact hp
theorem zwp{g:Nat}{ns:List NN}(h:RightN g ns){e:List Int}(he:EvOk (ns.map (·.c)) e){q:S_eliminate_query}(hq:q.net=zbQ g ns)(hk:q.known=e):∀(n i M:Nat) (P Q:List Nat),PcOk ns i [] P Q→i≤ns.length→ns.length - i<n→M<18446744073709551616→(∀ j,M.testBit j=(decide (j<i) && knE e j))→
  ∃(K:Nat) (P' Q':List Nat),zap q n (M:Int) (i:Int) (iL P) (iL Q)=some ((K:Int),iL P',iL Q')∧PcOk ns ns.length [] P' Q'∧K<18446744073709551616∧∀ j,K.testBit j=(decide (j<ns.length) && knE e j)
 | 0,_,_,_,_,_,_,h,_,_=>absurd h (qap _)
 | n+1,i,M,P,Q,hp,hi,hf,hM,hb=>by
  have hn8:=h.n2;have hnl:(zbQ g ns).nodes.length=ns.length:=by simp[zbQ]
  unfold zap;rw[hq,hnl,zaz];by_cases hlt:i<ns.length
  ·have hx:ns.getD i zgM=ns[i]:=by rw[qah,qac hlt]; rfl
   have hel:i<e.length:=by rw[he.len,qaA]; exact hlt
   have hxe:e[i]=e.getD i (-1):=by rw[qah,qac hel]; rfl
   have l8:(ns.getD i zgM).ps.length≤8:=h.zAa (zqP hlt);obtain⟨P',Q',g1,g2⟩:=zyV h hlt (q:=q) ((ns.getD i zgM).ps.length+2) 0 P Q (by rw[qbW]; exact hp) (qaC _) (by omega);have hp':PcOk ns (i+1) [] P' Q':=by
    refine⟨g2.pl,g2.ql,g2.plt,g2.qlt,fun c y=>?_,fun y c=>?_⟩
    ·rw[g2.p];constructor
     ·rintro(a | ⟨rfl,a⟩)
      ·exact .inl ⟨by omega,a.2⟩
      exact .inl ⟨by omega,a⟩
     rintro(⟨a,b⟩| ⟨_,a⟩)
     ·by_cases ec:c=i
      ·exact .inr ⟨ec,ec ▸ b⟩
      exact .inl ⟨by omega,b⟩
     cases a
    rw[g2.q];constructor
    ·rintro(a | ⟨rfl,a⟩)
     ·exact .inl ⟨by omega,a.2⟩
     exact .inl ⟨by omega,a⟩
    rintro(⟨a,b⟩| ⟨_,a⟩)
    ·by_cases ec:c=i
     ·exact .inr ⟨ec,ec ▸ b⟩
     exact .inl ⟨by omega,b⟩
    cases a
   rw[decide_eq_true hlt,cond_true,show za3 (zbQ g ns).nodes (i:Int)=some (nd ns[i])from zch hlt,qaa,← hx,show(nd (ns.getD i zgM)).parents=iL (ns.getD i zgM).ps from rfl,zao,zaN,
    show zat (nd (ns.getD i zgM)) (i:Int) q ((ns.getD i zgM).ps.length+2) 0 (iL P) (iL Q)=_ from g1,qaa]
   simp only[];rw[hk,zbd hel,qaa,hxe];cases hkn:knE e i with
   | false=>
    rw[show decide (0≤e.getD i (-1))=false from hkn,cond_false,qaa,zal (by omega)];refine zwp h he hq hk n (i+1) M P' Q' hp' hlt (by omega) hM fun j=>?_
    rw[hb];by_cases ej:j=i
    ·subst ej; rw[hkn,qcB,qcB]
    ·congr 1
     rw[qb4,decide_eq_true_iff,decide_eq_true_iff];omega
   | true=>
    have hi64:2 ^ i<18446744073709551616:=(qa7 (by decide) (show i<64 by omega):2 ^ i<2 ^ 64);rw[show decide (0≤e.getD i (-1))=true from hkn,cond_true,ztC (by omega),qaa,orU hM hi64,qaa,zal (by omega)];refine zwp h he hq hk n (i+1) (M ||| 2 ^ i) P' Q' hp' hlt (by omega) (zwg hM (by omega)) fun j=>?_
    rw[zoa,hb];by_cases ej:j=i
    ·subst ej;rw[hkn,decide_eq_true (rfl:j=j),qdl,decide_eq_true (qbH j)];rfl
    rw[show decide (i=j)=false from decide_eq_false (fun h=>ej h.symm),Bool.or_false];congr 1
    rw[qb4,decide_eq_true_iff,decide_eq_true_iff];omega
  have hie:i=ns.length:=by omega
  subst hie;rw[decide_eq_false hlt,cond_false];exact⟨M,P,Q,rfl,hp,hM,hb⟩
theorem zle{ns:List NN}{c q:Nat}:((zam ns).getD c 0).testBit q=true↔c<ns.length∧q∈(ns.getD c zgM).ps:=by
 unfold zam;rw[qah,qah,qaT];by_cases hc:c<ns.length
 ·rw[qac hc];show(zcJ (ns[c]).ps).testBit q=true↔_;rw[zeu,decide_eq_true_iff];exact⟨fun h=>⟨hc,h⟩,fun h=>h.2⟩
 rw[qaN (by omega)];constructor
 ·intro h; simp at h
 exact fun h=>absurd h.1 hc
theorem zt6{g:Nat}{ns:List NN}(h:RightN g ns){P Q:List Nat}(hp:PcOk ns ns.length [] P Q):P=zam ns∧ChOk (zam ns) Q:=by
 have hml:(zam ns).length=ns.length:=by simp[zam]
 have hn8:=h.n2;have hP:P=zam ns:=by
  refine qb8 (by rw[hp.pl,hml]) fun i a b=>?_
  refine qbU fun j=>?_
  have h1:=hp.p i j;have h2:=zle (ns:=ns) (c:=i) (q:=j);rw[qah,qac a,qbd]at h1;rw[qah,qac b,qbd]at h2;rw[qb4,h1,h2];exact⟨fun h=>h.elim id (fun h=>nomatch h.2),.inl⟩
 refine⟨hP,by rw[hml]; omega,by rw[hp.ql,hml],h.zfT,hp.qlt,h.eok,fun p c=>?_⟩;rw[hp.q,zle];exact⟨fun h=>h.elim id (fun h=>nomatch h.2),.inl⟩
theorem zyj{q:S_eliminate_query}{ms:List Nat}(hql:q.net.nodes.length=ms.length)(hn:ms.length≤60)(hm:∀ m∈ms,m<18446744073709551616):∀(k n v s:Nat),v+k=ms.length→s<18446744073709551616→k<n →
  zau q (iL ms) n (s:Int) (v:Int)=some (((List.range' v k).foldl (upS ms) s:Nat):Int)∧(List.range' v k).foldl (upS ms) s<18446744073709551616
 | k,0,_,_,_,_,h=>absurd h (qap _)
 | 0,n+1,v,s,h1,hs,_=>by
  refine⟨?_,hs⟩;unfold zau;rw[hql,qaK,zaz,decide_eq_false (by omega),cond_false];rfl
 | k+1,n+1,v,s,h1,hs,h3=>by
  have hv:v<ms.length:=by omega
  obtain⟨g1,g2⟩:=zyj hql hn hm k n (v+1) (upS ms s v) (by omega) (zzO hm hs) (by omega);refine⟨?_,g2⟩;obtain⟨q30,a1,a2⟩:=ztN (a:=s) (v:=v) hs (by omega);unfold zau;rw[hql,qaK,zaz,decide_eq_true hv,cond_true,zlk hv,qaa,a1,qaa,a2,zal (by omega),qcy,qcq];cases hb:s.testBit v with
  | true=>
   rw[show((((true:Bool).toNat:Nat):Int)== 1)=true from rfl,cond_true,orU hs (zg5 hm v),qaa,← g1];unfold upS;rw[if_pos hb]
  | false=>
   rw[show((((false:Bool).toNat:Nat):Int)== 1)=false from rfl,cond_false,qaa,← g1];unfold upS;rw[if_neg (by rw[hb]; decide)]
theorem zy5{q:S_eliminate_query}{ms:List Nat}(hql:q.net.nodes.length=ms.length)(hn:ms.length≤60)(hm:∀ m∈ms,m<18446744073709551616):∀(k n v s:Nat),v+k=ms.length→s<18446744073709551616→k<n →
  zan q (iL ms) n (s:Int) (v:Int)=some ((iter (upR ms) s k:Nat):Int)∧iter (upR ms) s k<18446744073709551616
 | k,0,_,_,_,_,h=>absurd h (qap _)
 | 0,n+1,v,s,h1,hs,_=>by
  refine⟨?_,hs⟩;unfold zan;rw[hql,zaz,decide_eq_false (by omega),cond_false];rfl
 | k+1,n+1,v,s,h1,hs,h3=>by
  have hv:v<ms.length:=by omega
  obtain⟨e1,e2⟩:=zyj hql hn hm ms.length (ms.length+2) 0 s (by omega) hs (by omega);rw[← qdg]at e1 e2;obtain⟨g1,g2⟩:=zy5 hql hn hm k n (v+1) (upR ms s) (by omega) e2 (by omega);rw[zqj];refine⟨?_,g2⟩;unfold zan;rw[show((0:Nat):Int)=0 from rfl]at e1;rw[hql,zaz,decide_eq_true hv,cond_true,qaK,zaN,e1,qaa,zal (by omega)];exact g1
theorem zwW{q:S_eliminate_query}{ms cs:List Nat}(hc:ChOk ms cs)(hql:q.net.nodes.length=ms.length){v:Nat}(hqv:q.node=(v:Int))(hv:v<ms.length){K A N:Nat}(hK:K<18446744073709551616)(hA:A<18446744073709551616)(hN:200≤N)(hkv:¬ zg8 K v):∀(n i M:Nat),i≤ms.length→ms.length - i<n→M<18446744073709551616 →
  (∀ j,M.testBit j=true↔j<i∧∃ d,Tr (zqx ms) (zg8 K) (zg8 A) j d v)→
  ∃ R:Nat,zav N q (iL ms) (iL cs) (K:Int) (A:Int) n (M:Int) (i:Int)=some (R:Int)∧R<18446744073709551616∧∀ j,R.testBit j=true↔j<ms.length∧∃ d,Tr (zqx ms) (zg8 K) (zg8 A) j d v
 | 0,_,_,_,h,_,_=>absurd h (qap _)
 | n+1,i,M,hi,hf,hM,hb=>by
  have hn60:=hc.n;unfold zav;rw[hql,zaz];by_cases hlt:i<ms.length
  ·obtain⟨F,f1,f2,f3⟩:=ztR hc hK hA hlt hN;obtain⟨q39,a1,a2⟩:=ztN (a:=F) (v:=v) f2 (by omega);rw[decide_eq_true hlt,cond_true,f1,qaa,hqv,a1,qaa,a2];have hfv:=f3 v;cases hFv:F.testBit v with
   | true=>
    have hi64:2 ^ i<18446744073709551616:=(qa7 (by decide) (show i<64 by omega):2 ^ i<2 ^ 64);rw[show((((true:Bool).toNat:Nat):Int)== 1)=true from rfl,cond_true,ztC (by omega),qaa,orU hM hi64,qaa,zal (by omega)];refine zwW hc hql hqv hv hK hA hN hkv n (i+1) (M ||| 2 ^ i) hlt (by omega) (zwg hM (by omega)) fun j=>?_
    rw[zoa,qa5,hb,decide_eq_true_iff];constructor
    ·rintro(a | rfl)
     ·exact⟨by omega,a.2⟩
     exact⟨by omega,(hfv.1 hFv).1⟩
    ·rintro⟨a,b⟩;by_cases ej:j=i
     ·exact .inr ej.symm
     ·exact .inl ⟨by omega,b⟩
   | false=>
    rw[show((((false:Bool).toNat:Nat):Int)== 1)=false from rfl,cond_false,qaa,zal (by omega)];refine zwW hc hql hqv hv hK hA hN hkv n (i+1) M hlt (by omega) hM fun j=>?_
    rw[hb];constructor
    ·exact fun a=>⟨by omega,a.2⟩
    rintro⟨a,b⟩;by_cases ej:j=i
    ·subst ej;have:=hfv.2 ⟨b,hkv⟩;rw[hFv]at this;cases this
    exact⟨by omega,b⟩
  have hie:i=ms.length:=by omega
  subst hie;rw[decide_eq_false hlt,cond_false];exact⟨M,rfl,hM,hb⟩
structure KaOk (ns:List NN) (e:List Int) (K A:Nat):Prop where
 kl:K<18446744073709551616
 al:A<18446744073709551616
 k:∀ j,K.testBit j=(decide (j<ns.length) && knE e j)
 a:∀ i,zg8 A i↔∃ x,zg8 K x∧Anc (zqx (zam ns)) x i
theorem zuc{g:Nat}{ns:List NN}(h:RightN g ns){e:List Int}(he:EvOk (ns.map (·.c)) e){v N:Nat}(hv:v<ns.length)(hN:200≤N):
  ∃ K A R:Nat,KaOk ns e K A∧zaK N ⟨zbQ g ns,e,(v:Int)⟩=some (R:Int)∧R<18446744073709551616∧∀ j,R.testBit j=true↔knE e v=false∧j<ns.length∧∃ d,Tr (zqx (zam ns)) (zg8 K) (zg8 A) j d v:=by
 have hn8:=h.n2;have hnl:(zbQ g ns).nodes.length=ns.length:=by simp[zbQ]
 have hml:(zam ns).length=ns.length:=by simp[zam]
 have hz:∀ c q,((List.replicate ns.length 0).getD c 0).testBit q=true→False:=fun c q hh=>by
  rw[qah,qcx]at hh;split at hh<;>simp at hh
 have hp0:PcOk ns 0 [] (List.replicate ns.length 0) (List.replicate ns.length 0):=by
  refine⟨by simp,by simp,fun m hm=>by rw[(qci.1 hm).2]; decide,fun m hm=>by rw[(qci.1 hm).2]; decide,fun c q=>⟨fun hh=>(hz c q hh).elim,fun hh=>?_⟩,fun c q=>⟨fun hh=>(hz c q hh).elim,fun hh=>?_⟩⟩
  ·rcases hh with⟨hh,_⟩| ⟨_,hh⟩
   ·exact absurd hh (qap _)
   cases hh
  rcases hh with⟨hh,_⟩| ⟨_,hh⟩
  ·exact absurd hh (qap _)
  cases hh
 obtain⟨K,P,Q,g1,g2,g3,g4⟩:=zwp h he (q:=⟨zbQ g ns,e,(v:Int)⟩) rfl rfl (ns.length+2) 0 0 _ _ hp0 (qaC _) (by omega) (by decide) (fun j=>by simp);obtain⟨rfl,hc⟩:=zt6 h g2;have hKin:∀ x,K.testBit x=true→x<(zam ns).length:=fun x hx=>by
  rw[g4,qaf,decide_eq_true_iff]at hx;rw[hml]; exact hx.1
 obtain⟨b1,b2⟩:=zy5 (q:=⟨zbQ g ns,e,(v:Int)⟩) (ms:=zam ns) (by rw[hml]; exact hnl) hc.n h.zfT (zam ns).length ((zam ns).length+2) 0 K (by omega) g3 (by omega);obtain⟨A,hAd⟩:∃ A,A=iter (upR (zam ns)) K (zam ns).length:=⟨_,rfl⟩;rw[← hAd]at b1 b2;rw[hml]at b1;have hA:∀ i,zg8 A i↔∃ x,zg8 K x∧Anc (zqx (zam ns)) x i:=fun i=>by
  rw[hAd];refine(zy6 h.eok hKin i).trans ?_;constructor
  ·rintro⟨x,h1,h2⟩; exact⟨x,h1,zd8.2 h2⟩
  rintro⟨x,h1,h2⟩; exact⟨x,h1,zd8.1 h2⟩
 obtain⟨q33,s1,s2⟩:=ztN (a:=K) (v:=v) g3 (by omega);have e0:zen 8 ((ns.length:Nat):Int) (0:Int)=some (iL (List.replicate ns.length 0)):=by
  rw[zdp (by omega)];simp[iL]
 refine⟨K,A,?_⟩;cases hkv:knE e v with
 | true=>
  refine⟨0,⟨g3,b2,g4,hA⟩,?_,by decide,fun j=>⟨fun hh=>by simp at hh,fun hh=>nomatch hh.1⟩⟩;unfold zaK;simp only[hnl];rw[e0,qaa,zaN,show zap ⟨zbQ g ns,e,(v:Int)⟩ (ns.length+2) 0 0 (iL (List.replicate ns.length 0)) (iL (List.replicate ns.length 0))=_ from g1,qaa];simp only[];rw[show zan ⟨zbQ g ns,e,(v:Int)⟩ (iL (zam ns)) (ns.length+2) (K:Int) 0=_ from b1,qaa,s1,qaa,s2,g4,hkv,decide_eq_true hv];rfl
 | false=>
  have hKv:K.testBit v=false:=by rw[g4,hkv,qcB]
  obtain⟨R,r1,r2,r3⟩:=zwW (q:=⟨zbQ g ns,e,(v:Int)⟩) hc (by rw[hml]; exact hnl) rfl (by rw[hml]; exact hv) g3 b2 hN (fun hh=>by rw[show K.testBit v=true from hh]at hKv; cases hKv) (ns.length+2) 0 0 (qaC _) (by omega) (by decide) (fun j=>⟨fun hh=>by simp at hh,fun hh=>absurd hh.1 (qap _)⟩);refine⟨R,⟨g3,b2,g4,hA⟩,?_,r2,fun j=>by rw[r3,hml]; exact⟨fun hh=>⟨rfl,hh⟩,fun hh=>hh.2⟩⟩;unfold zaK;simp only[hnl];rw[e0,qaa,zaN,show zap ⟨zbQ g ns,e,(v:Int)⟩ (ns.length+2) 0 0 (iL (List.replicate ns.length 0)) (iL (List.replicate ns.length 0))=_ from g1,qaa];simp only[];rw[show zan ⟨zbQ g ns,e,(v:Int)⟩ (iL (zam ns)) (ns.length+2) (K:Int) 0=_ from b1,qaa,s1,qaa,s2,hKv];rw[show((((false:Bool).toNat:Nat):Int)== 1)=false from rfl,cond_false,show zav N ⟨zbQ g ns,e,(v:Int)⟩ (iL (zam ns)) (iL Q) (K:Int) (A:Int) (ns.length+2) 0 0=_ from r1,qaa]
theorem zlH{g:Nat}{ns:List NN}{e:List Int}(he:EvOk (ns.map (·.c)) e)(hn:ns.length≤8):∀(n i:Nat),i≤ns.length→ns.length - i<n→zbe e (zbQ g ns) n (i:Int)=some (.go ())
 | 0,_,_,h=>absurd h (qap _)
 | n+1,i,hi,hf=>by
  have hel:e.length=ns.length:=by rw[he.len,qaA]
  unfold zbe;rw[zaz];by_cases hlt:i<ns.length
  ·have hie:i<e.length:=by omega
   have hx:e[i]=e.getD i (-1):=by rw[qah,qac hie]; rfl
   have hcc:(ns.map (·.c)).getD i 0=ns[i].c:=by rw[qah,qaT,qac hlt]; rfl
   have h1:=he.lo i (by rw[qaA]; exact hlt);have h2:=he.hi i (by rw[qaA]; exact hlt);rw[hcc]at h2
   rw[decide_eq_true hie,cond_true,zbd hie,qaa,hx,show decide (e.getD i (-1)< -1)=false from decide_eq_false (by omega),cond_false,show za3 (zbQ g ns).nodes (i:Int)=some (nd ns[i])from zch hlt,qaa,show(nd ns[i]).zaD=((ns[i].c:Nat):Int)from rfl,
    show decide (((ns[i].c:Nat):Int)≤e.getD i (-1))=false from decide_eq_false (by omega),qaa,cond_false,zal (by omega)]
   exact zlH he hn n (i+1) hlt (by omega)
  rw[decide_eq_false (by omega),cond_false]
theorem zxr{g:Nat}{ns:List NN}(h:RightN g ns){e:List Int}(he:EvOk (ns.map (·.c)) e):zba (zbQ g ns) e=some 0:=by
 have hel:e.length=ns.length:=by rw[he.len,qaA]
 have hnl:(zbQ g ns).nodes.length=ns.length:=by simp[zbQ]
 have hE:zc5 (zbQ g ns) e=some true:=by
  unfold zc5;rw[hnl,hel,beq_self_eq_true,cond_true,zaN,show zbe e (zbQ g ns) (ns.length+2) 0=some (.go ())from zlH he h.n2 (ns.length+2) 0 (qaC _) (by omega),qaa]
 obtain⟨b,e1,e2⟩:=zwr h e;rw[hE]at e1;cases e1;exact e2
theorem zzb{g:Nat}{ns:List NN}(h:RightN g ns){e:List Int}(he:EvOk (ns.map (·.c)) e){v:Nat}(hv:v<ns.length):zbW (zbQ g ns) e (v:Int)=some (⟨zbQ g ns,e,(v:Int)⟩,0):=by
 have hnl:(zbQ g ns).nodes.length=ns.length:=by simp[zbQ]
 unfold zbW;rw[zxr h he,qaa,show((0:Int)== 0)=true from rfl,cond_true,show decide (((v:Nat):Int)<0)=false from decide_eq_false (by omega),cond_false,hnl,show decide (((ns.length:Nat):Int)≤((v:Nat):Int))=false from decide_eq_false (by omega),qaa,cond_false]
theorem znx{cs:List Nat}{e:List Int}(he:EvOk cs e)(hc:cs.length≤8):∀(n i M:Nat),i≤cs.length→cs.length - i<n→M<18446744073709551616→(∀ j,M.testBit j=(decide (j<i) && knE e j))→
  ∃ K:Nat,zaR e n (M:Int) (i:Int)=some (K:Int)∧K<18446744073709551616∧∀ j,K.testBit j=(decide (j<cs.length) && knE e j)
 | 0,_,_,_,h,_,_=>absurd h (qap _)
 | n+1,i,M,hi,hn,hM,hb=>by
  unfold zaR;rw[he.len,zaz];by_cases hlt:i<cs.length
  ·have hil:i<e.length:=by rw[he.len]; exact hlt
   have hx:e[i]=e.getD i (-1):=by rw[qah,qac hil]; rfl
   rw[decide_eq_true hlt,cond_true,zbd hil,qaa,hx];cases hk:knE e i with
   | false=>
    rw[show decide (0≤e.getD i (-1))=false from hk,cond_false,qaa,zal (by omega)];refine znx he hc n (i+1) M hlt (by omega) hM fun j=>?_
    rw[hb];by_cases ej:j=i
    ·subst ej; rw[hk,qcB,qcB]
    ·congr 1
     rw[qb4,decide_eq_true_iff,decide_eq_true_iff];omega
   | true=>
    rw[show decide (0≤e.getD i (-1))=true from hk,cond_true,ztC (by omega),qaa,orU hM ((qa7 (by decide) (show i<64 by omega):2 ^ i<2 ^ 64)),qaa,zal (by omega)];refine znx he hc n (i+1) (M ||| 2 ^ i) hlt (by omega) (zwg hM (by omega)) fun j=>?_
    rw[zoa,hb];by_cases ej:j=i
    ·subst ej;rw[hk,decide_eq_true (rfl:j=j),qdl,decide_eq_true (qbH j)];rfl
    rw[show decide (i=j)=false from decide_eq_false (fun h=>ej h.symm),Bool.or_false];congr 1
    rw[qb4,decide_eq_true_iff,decide_eq_true_iff];omega
  have hie:i=cs.length:=by omega
  rw[decide_eq_false hlt,cond_false];exact⟨M,rfl,hM,fun j=>by rw[hb,hie]⟩
theorem zpu{dr:DraftN}{a:S_haruspexlaw09_Ask}(hd:DraftOk dr)(ha:AskOk a):zbM 1100 (zcB dr) a=some true:=by
 obtain⟨num,ns,hok,_,e2⟩:=ztT hd (N:=1100) (by decide);have h:=hok.right;obtain⟨v,e,xs,r11,_,hv,he,ho,hxl,a1,a2,a3,_⟩:=zwL ha h;have hn8:=h.n2;have hnl:(zbQ (1+dr.grain % 60) ns).nodes.length=ns.length:=by simp[zbQ]
 have hml:(zam ns).length=ns.length:=by simp[zam]
 have hel:e.length=ns.length:=by rw[he.len,qaA]
 rw[show(⟨((1+dr.grain % 60:Nat):Int),ns.map nd⟩:S_api_Net)=zbQ (1+dr.grain % 60) ns from rfl]at e2;obtain⟨K,A,R,ka,r1,r2,r3⟩:=zuc h he hv (N:=1100) (by decide);have hN:zbr 1100 (zbQ (1+dr.grain % 60) ns) e (v:Int)=some ((R:Int),0):=by
  unfold zbr;rw[zzb h he hv,qaa];simp only[show((0:Int)== 0)=true from rfl,cond_true];rw[r1,qaa]
 obtain⟨K',k1,k2,k3⟩:=znx he (by simpa using hn8) (ns.length+2) 0 0 (qaC _) (by rw[qaA]; omega) (by decide) (fun j=>by simp);have hKK:K'=K:=qbU fun j=>by rw[k3,ka.k,qaA]
 subst hKK;have hKin:∀ x,K'.testBit x=true→x<ns.length:=fun x hx=>by
  rw[ka.k,qaf,decide_eq_true_iff]at hx;exact hx.1
 have hp:2 ^ v<18446744073709551616:=(qa7 (by decide) (show v<64 by omega):2 ^ v<2 ^ 64);have hlt2:∀ {t:Nat},(∀ s,t.testBit s=true→s<ns.length)→t<2 ^ ns.length:=fun {t} ht=>Nat.lt_pow_two_of_testBit _ fun i hi=>by
  cases hb:t.testBit i with
  | false=>rfl
  | true=>have:=ht i hb; omega
 have hVin:∀ s,(2 ^ v).testBit s=true→s<ns.length:=fun s hs=>by
  rw[qbB]at hs;have:=of_decide_eq_true hs;omega
 have hKv:∀ s,(K' ||| 2 ^ v).testBit s=true↔(zg8 K' s∨s=v):=fun s=>by
  rw[zoa,qa5,decide_eq_true_iff];exact⟨fun h=>h.elim .inl fun h=>.inr h.symm,fun h=>h.elim .inl fun h=>.inr h.symm⟩
 have hKVin:∀ s,(K' ||| 2 ^ v).testBit s=true→s<ns.length:=fun s hs=>((hKv s).1 hs).elim (hKin s) fun h=>by omega
 obtain⟨O,o1,o2,_,o3⟩:=zvF h (N:=1100) (by decide) hKVin (hlt2 hKVin);obtain⟨Mi,m1,m2,_,m3⟩:=zvF h (N:=1100) (by decide) hVin (hlt2 hVin);have hRO:Sub R O:=fun u hu=>by
  obtain⟨h1,h2,h3⟩:=(r3 u).1 hu;obtain⟨x,hx,hr⟩:=zy2 ka.a h3;refine(o3 u).2 ⟨x,(hKv x).2 ?_,zd8.1 hr⟩;exact hx.elim .inr .inl
 have hK0:∀ {x:Nat},zhP .u64 (K':Int) (v:Int)=some x→True:=fun _=>trivial
 obtain⟨q28,s1,s2⟩:=ztN (a:=K') (v:=v) ka.kl (by omega);obtain⟨q31,t1,t2⟩:=ztN (a:=R) (v:=v) r2 (by omega);unfold zbM;rw[zwu,qaa,cond_true,e2,qaa,a2,qaa,hnl,a1,qaa,hN,qaa,hel,zaN,show zaR e (ns.length+2) 0 0=some (K':Int)from k1,qaa,ztC (by omega),qaa,orU ka.kl hp,o1,qaa,m1,qaa];simp only[show((0:Int)== 0)=true from rfl,cond_true];rw[zxU,(zl1 r2 o2).2 hRO,show(((0:Nat):Int)== 0)=true from rfl,qa8,qaa,cond_false,s1,qaa,s2,ka.k,decide_eq_true hv,qbF];cases hkv:knE e v with
 | true=>
  have hR0:R=0:=qbU fun j=>by
   rw[Nat.zero_testBit];cases hj:R.testBit j with
   | false=>rfl
   | true=>have:=((r3 j).1 hj).1; rw[hkv]at this; cases this
  rw[hR0];rfl
 | false=>
  have hRv:R.testBit v=true:=(r3 v).2 ⟨hkv,hv,false,.start⟩;rw[show((((false:Bool).toNat:Nat):Int)== 1)=false from rfl,cond_false,t1,qaa,t2,hRv,show((((true:Bool).toNat:Nat):Int)== 1)=true from rfl,cond_true];by_cases hK:K'=0
  ·subst hK;have hRM:R=Mi:=qbU fun j=>by
    rw[qb4,r3,m3,zw8 ka.a (fun i hi=>by unfold zg8 at hi; rw[Nat.zero_testBit]at hi; cases hi)];constructor
    ·rintro⟨_,_,h3⟩;exact⟨v,by rw[qbB]; exact decide_eq_true rfl,zd8.1 h3⟩
    rintro⟨s,h1,h2⟩;rw[qbB]at h1;have:=of_decide_eq_true h1;subst this;refine⟨hkv,?_,zd8.2 h2⟩;cases h2':zd8.2 h2 with
    | refl=>exact hv
    | up _ e=>have:=(h.eok _ _ e).2; rw[hml]at this; exact this
   rw[show(((0:Nat):Int)== 0)=true from rfl,cond_true,hRM,beq_self_eq_true,qaa]
  rw[show(((K':Nat):Int)== 0)=false from by rw[beq_eq_false_iff_ne]; omega,cond_false,qaa]
end Go.Dc
namespace Go.Proofs.YtbjogdohfhdaiaaGreat.S
open Go Go.Mx Go.Lx Go.Dc Go.ChangeShapes Go.WideShapes Go.ChangeAt Go.RowKit
theorem zzs:∀ t∈[25,33],(zdL Tryz.prog 8 t).isSome=true:=by
 intro t ht;simp only[qaz,qbQ,or_false]at ht;rcases ht with rfl | rfl
 ·rw[zvn]; rfl
 rw[zqR]; rfl
theorem zzx:∀ t∈[25,33],Tryz.prog.readableRec t=true∧t<Tryz.prog.types.size:=by
 intro t ht;simp only[qaz,qbQ,or_false]at ht;rcases ht with rfl | rfl
 ·exact⟨zyt,qb5 (m:=252) (by decide) zvo⟩
 exact⟨zxy,qb5 (m:=252) (by decide) zvo⟩
theorem zpF{H:Type}{enc:TypeId×Value→H}{w:World}{b0:Nat}{args:Array Value}{ds:List (DataW H)}{ps:List MemPlace}
  (hv:∀(j:Nat) t v,[25,33][j]? = some t→args[j]? = some v→Value.okWide Tryz.prog w .any b0 t v) (hd:DataW.TrodAll enc Tryz.prog w 0 (fun _=>true) true [25,33] args.toList ds ps):
  Calls Tryz.prog 8 args w fun e w'=>e=.returned (.bool true)∧Below w.heap.size w w':=by
 refine zB6 (g:=8) hv hd zzs fun es hes=>?_
 obtain⟨x0,r,rfl,h0,hes⟩:=Dc.ShAs.inv hes;obtain⟨x1,r,rfl,h1,hes⟩:=Dc.ShAs.inv hes;obtain rfl:=Dc.ShAs.none hes;obtain⟨a0,k0,rfl⟩:=zur h0;obtain⟨a1,k1,rfl⟩:=zyE h1;exact zfv (zpu k0 k1)
theorem znF(os:Os)(started:os.Started)(H:Type)(enc:TypeId×Value→H):
  ReturnsInHanded {} Tryz.checked os 8 .any (Rows.eliminateSetsSpec.pre6 enc Tryz.prog Tryz.f8 Rows.eliminateSetsRow.domain false) (Rows.eliminateSetsSpec.post enc Tryz.prog Tryz.f8 false true false false):=by
 refine returnsInHanded_of_change (C:=Tryz.checked) own started (by kernel_rfl) Tryz.func8
  (ChangeSpec.witness6 (enc:=enc) (C:=Tryz.checked) false ⟨#[],#[.agg #[.int .u8 0,.slice none 0 0,.slice none 0 0],.agg #[.int .u8 0,.int .u8 0,.int .u8 0,.int .u8 0,.int .u8 0,.int .u8 0,.int .u8 0,.int .u8 0,.int .u8 0,.int .i64 0,.int .u8 0,.int .u8 0,.int .u8 0,.int .u8 0,.int .u8 0,.int .u8 0,.int .u8 0,.int .u8 0,.slice none 0 0,.slice none 0 0]],[]⟩ 8 (by kernel_rfl) (by kernel_rfl) (by kernel_rfl) (by kernel_rfl)) ?_
 intro W base args ds gs before hval0 hW hcnd _;have hval:∀(j:Nat) t v,Tryz.f8.params[j]? = some t→args[j]? = some v→Value.okWide Tryz.prog W .any base t v:=hval0;have hlt:∀ x∈before,x.block<W.heap.size:=fun x hx=>hW.lt x hx
 have hW':=hW;obtain⟨p,q,hA0,hV,rfl,hfz,hnd⟩:=hW;have hA:DataW.TrodAll enc Tryz.prog W 0 (fun _=>true) true Tryz.f8.params.toList args.toList ds p:=hA0;rw[Tryz.params8]at hA hval;have hcalls:=zpF (fun j t v h1 h2=>hval j t v (by simpa using h1) h2) hA;obtain⟨rfl,rfl⟩:=trodVars_none hV;have hA1:DataW.TrodAll enc Tryz.prog W 0 (fun _=>true) true [25,33] args.toList ds p:=hA;have hds:∃ d0 d1:DataW H,ds=[d0,d1]:=by
  obtain⟨_,_,d0,ds0,_,_,_,e0,_,_,r0⟩:=trodAll_cons hA1;obtain⟨_,_,d1,ds1,_,_,_,e1,_,_,r1⟩:=trodAll_cons r0;obtain⟨_,e2,_⟩:=trodAll_nil r1;exact⟨d0,d1,by rw[e0,e1,e2]⟩
 obtain⟨d0,d1,rfl⟩:=hds;clear hA0 hval0;simp only[qbi]at hW' hlt;refine hcalls.mono fun e W' ⟨he,hb⟩=>?_
 subst he
 exact⟨_,rfl,_,_,_,[],_,[],hW',trodAll_mk1 (shut_bool Tryz.underlying4 true),
  (by rw[Tryz.params8]; exact zgq hb hA1 zzx hlt),
  rfl,hb.frame _,fun h=>by cases h⟩
theorem sets_said:Rows.EliminateSetsSaid:=
 OpenClaim.holds_of_wide 8 Tryz.f8 rfl rfl rfl rfl rfl rfl rfl ⟨rfl,rfl,rfl,rfl,rfl⟩ rfl rfl rfl rfl rfl zAe Tryz.func8 zxz
  zAj (by unfold Func.isWrapper; first | (rw[if_pos (by decide +kernel)]; kernel_rfl)| (rw[if_neg (by decide +kernel)]; exact⟨rfl,rfl⟩))
  (fun os started H enc _=>znF os started H enc)
end Go.Proofs.YtbjogdohfhdaiaaGreat.S
namespace Go.Proofs.YtbjogdohfhdaiaaGreat
theorem sets_said:Rows.EliminateSetsSaid:=S.sets_said
end Go.Proofs.YtbjogdohfhdaiaaGreat
