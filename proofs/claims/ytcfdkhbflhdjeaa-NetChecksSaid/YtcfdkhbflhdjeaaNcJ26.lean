/-
 Drafts of nets as arguments. Conditions: none.
-/
import Derived.Test.YtcfdkhbflhdjeaaNcSa
import Derived.Test.YtcfdkhbflhdjeaaNcJ8
import Derived.Test.YtcfdkhbflhdjeaaNcFctC
set_option linter.unusedSimpArgs false
set_option linter.unusedVariables false
set_option maxRecDepth 100000
namespace Go.Proofs.Ytcfdkhbflhdjeaa.S
open Go Go.Mx Go.Lx Go.Dc Go.ChangeShapes Go.WideShapes Go.ChangeAt Go.RowKit
theorem zoS{xs:List Int}(h:okL (okI .u8) xs):∃ ns:List Nat,(∀ x∈ns,x≤255)∧xs=iL ns:=by
 obtain⟨ns,h1,h2⟩:=Dc.zmS (l:=xs) (f:=fun n:Nat=>(n:Int)) (T:=fun n=>n≤255) fun y hy=>by
  have:=zg6 (h.2 y hy);exact⟨y.toNat,by omega,by omega⟩
 exact⟨ns,h1,h2⟩
theorem zo9:Dec zae [.int .u8,.int .u8,.sl [.int .u8]] (fun x=>okI .u8 x.card∧okI .u8 x.parents∧okL (okI .u8) x.w):=
 Dec.iso (Dec.pair (Dec.int .u8) (Dec.pair (Dec.int .u8) (Dec.list (Dec.int .u8)))) (fun x:S_haruspexref05_Piece=>(x.card,x.parents,x.w)) (fun a=>⟨a.1,a.2.1,a.2.2⟩) (fun _=>rfl)
theorem zp2:Dec zbT [.int .u8,.sl [.int .u8,.int .u8,.sl [.int .u8]],.sl [.int .u8]]
  (fun x=>okI .u8 x.grain∧okL (fun x=>okI .u8 x.card∧okI .u8 x.parents∧okL (okI .u8) x.w) x.nodes∧okL (okI .u8) x.order):=
 Dec.iso (Dec.pair (Dec.int .u8) (Dec.pair (Dec.list zo9) (Dec.list (Dec.int .u8)))) (fun x:S_haruspexref05_Draft=>(x.grain,x.nodes,x.order)) (fun a=>⟨a.1,a.2.1,a.2.2⟩) (fun _=>rfl)
theorem zrJ{x:S_haruspexref05_Draft}(h:okI .u8 x.grain∧okL (fun x=>okI .u8 x.card∧okI .u8 x.parents∧okL (okI .u8) x.w) x.nodes∧okL (okI .u8) x.order):∃ d:DraftN,DraftOk d∧x=zch d:=by
 obtain⟨grain,nodes,order⟩:=x;obtain⟨h1,h2,h3⟩:=h;have hg:=zg6 h1;obtain⟨os,o1,o2⟩:=zoS h3;obtain⟨ps,p1,p2⟩:=Dc.zmS (l:=nodes) (f:=zmO) (T:=fun n=>n.card≤255) fun y hy=>by
  obtain⟨g1,g2,g3⟩:=h2.2 y hy;have k1:=zg6 g1;have k2:=zg6 g2;obtain⟨ws,w1,w2⟩:=zoS g3;refine⟨⟨y.card.toNat,y.parents.toNat,ws⟩,by simp only; omega,?_⟩;obtain⟨a,b,c⟩:=y;simp only at k1 k2 w2;subst w2;simp only[zmO,qbs k1.1,qbs k2.1]
 refine⟨⟨grain.toNat,ps,os⟩,⟨by simp only at hg ⊢; omega,p1,o1⟩,?_⟩;simp only at o2 p2 hg;subst o2 p2;simp only[zch,qbs hg.1]
theorem zsn:zdC Try.prog 8 28=some [.int .u8,.sl [.int .u8,.int .u8,.sl [.int .u8]],.sl [.int .u8]]:=by kernel_rfl
theorem zwt:zp6 Try.prog 28=true:=by kernel_rfl
theorem zvj:Try.prog.readableRec 28=true:=by kernel_rfl
theorem zqU{d:D}(h:ShA Try.prog 8 28 d):∃ dr:DraftN,DraftOk dr∧d=.agg (zbT.c false (zch dr)):=by
 obtain⟨x,h1,h2⟩:=zp2.agg zwt zsn h;obtain⟨dr,h3,rfl⟩:=zrJ h1;exact⟨dr,h3,h2⟩
theorem zfO{H:Type}{enc:TypeId×Value→H}{W W':World}(hb:Below W.heap.size W W'):∀ {ts:List TypeId} {vs:List Value} {ds:List (DataW H)} {ps:List MemPlace},
  DataW.TrodAll enc Try.prog W 0 (fun _=>true) true ts vs ds ps→(∀ t∈ts,Try.prog.readableRec t=true∧t<Try.prog.types.size)→(∀ x∈ps,x.block<W.heap.size)→
  DataW.TrodAll enc Try.prog W' 0 (fun b=>decide (b<W.heap.size)) true ts vs ds ps
 | [],vs,ds,ps,h,_,_=>by
  obtain⟨rfl,rfl,rfl⟩:=trodAll_nil h;exact trodAll_mk0
 | t :: ts,vs,ds,ps,h,ht,hlt=>by
  obtain⟨v,vs',d,ds',p,q,rfl,rfl,rfl,h1,h2⟩:=trodAll_cons h;obtain⟨r1,r2⟩:=ht t qas;exact⟨p,q,Below.trod laidOut r1 r2 h1 hb (fun x hx=>hlt x (List.mem_append_left _ hx)),zfO hb h2 (fun t h=>ht t (qar _ h)) (fun x hx=>hlt x (List.mem_append_right _ hx)),rfl⟩
theorem zrl:Dec zaa [.int .i64,.sl [.int .i64],.sl [.sl [.int .i64]]] (fun x=>okI .i64 x.card∧okL (okI .i64) x.parents∧okL (okL (okI .i64)) x.rows):=
 Dec.iso (Dec.pair (Dec.int .i64) (Dec.pair (Dec.list (Dec.int .i64)) (Dec.list (Dec.list (Dec.int .i64))))) (fun x:S_api_Node=>(x.card,x.parents,x.rows)) (fun a=>⟨a.1,a.2.1,a.2.2⟩) (fun _=>rfl)
theorem zs5:Dec zam [.int .i64,.sl [.int .i64,.sl [.int .i64],.sl [.sl [.int .i64]]]] (fun x=>okI .i64 x.grain∧okL (fun x=>okI .i64 x.card∧okL (okI .i64) x.parents∧okL (okL (okI .i64)) x.rows) x.nodes):=
 Dec.iso (Dec.pair (Dec.int .i64) (Dec.list zrl)) (fun x:S_api_Net=>(x.grain,x.nodes)) (fun a=>⟨a.1,a.2⟩) (fun _=>rfl)
theorem zqT:Dec zb6 [.int .u8,.int .u8,.int .u8,.int .i64] (fun x=>okI .u8 x.what∧okI .u8 x.at_∧okI .u8 x.row∧okI .i64 x.n):=
 Dec.iso (Dec.pair (Dec.int .u8) (Dec.pair (Dec.int .u8) (Dec.pair (Dec.int .u8) (Dec.int .i64)))) (fun x:S_haruspexref05_Bend=>(x.what,x.at_,x.row,x.n)) (fun a=>⟨a.1,a.2.1,a.2.2.1,a.2.2.2⟩) (fun _=>rfl)
theorem zsg:zdC Try.prog 8 24=some [.int .i64,.sl [.int .i64,.sl [.int .i64],.sl [.sl [.int .i64]]]]:=by kernel_rfl
theorem zwC:zp6 Try.prog 24=true:=by kernel_rfl
theorem zoM:zdC Try.prog 8 30=some [.int .u8,.int .u8,.int .u8,.int .i64]:=by kernel_rfl
theorem zwb:zp6 Try.prog 30=true:=by kernel_rfl
theorem zuK{d:D}(h:ShA Try.prog 8 24 d):∃ x:S_api_Net,d=.agg (zam.c false x):=by
 obtain⟨x,_,h2⟩:=zs5.agg zwC zsg h;exact⟨x,h2⟩
theorem zpl{d:D}(h:ShA Try.prog 8 30 d):∃ x:S_haruspexref05_Bend,((0≤x.what∧x.what≤255)∧(0≤x.at_∧x.at_≤255)∧(0≤x.row∧x.row≤255))∧d=.agg (zb6.c false x):=by
 obtain⟨x,⟨h1,h2,h3,_⟩,h4⟩:=zqT.agg zwb zoM h;exact⟨x,⟨zg6 h1,zg6 h2,zg6 h3⟩,h4⟩
theorem zvl:Try.prog.readableRec 24=true:=by kernel_rfl
theorem zsA:Try.prog.readableRec 30=true:=by kernel_rfl
theorem zur:(155:Nat)<Try.prog.types.size:=of_decide_eq_true (by kernel_rfl)
end Go.Proofs.Ytcfdkhbflhdjeaa.S
namespace Go.Dc
open Go Go.Mx Go.Lx
section
variable {α:Type} [DecidableEq α] {xs ys:List α} {l:Nat→Int→Option (Out Unit Bool)} {f:α→α→Option Bool}
theorem zm5(h:∀ n i,l (n+1) i=(bif decide (i<(xs.length:Int))then(zaO xs i).bind fun x=>(zaO ys i).bind fun y=>(f x y).bind fun r=>bif r then l n (w64 (i+1))else some (.ret false)else some (.go ())))
  (hf:∀ x∈xs,∀ y∈ys,f x y=some (decide (x=y))) (hl:xs.length=ys.length) (hb:xs.length≤1000):∀ n i:Nat,i≤xs.length→xs.length - i<n→l n (i:Int)=some (bif decide (xs.drop i=ys.drop i)then .go ()else .ret false)
 | 0,_,_,h=>absurd h (qam _)
 | n+1,i,h1,h2=>by
  rw[h,zar];by_cases hi:i<xs.length
  ·have hy:i<ys.length:=by omega
   have e:(xs.drop i=ys.drop i)↔(xs[i]=ys[i]∧xs.drop (i+1)=ys.drop (i+1)):=by
    rw[qaq hi,qaq hy,qbX]
   rw[decide_eq_true hi,cond_true,zaJ hi,qaa,zaJ hy,qaa,hf _ (qao hi) _ (qao hy),qaa,zaq (by omega)];by_cases hx:xs[i]=ys[i]
   ·rw[decide_eq_true hx,cond_true,zm5 h hf hl hb n (i+1) hi (by omega),decide_eq_decide.2 (show(xs.drop i=ys.drop i)↔(xs.drop (i+1)=ys.drop (i+1))from e.trans ⟨fun c=>c.2,fun c=>⟨hx,c⟩⟩)]
   rw[decide_eq_false hx,cond_false,decide_eq_false (fun c=>hx (e.1 c).1),cond_false]
  rw[decide_eq_false hi,cond_false,qaF (by omega),qaF (by omega),decide_eq_true rfl,cond_true]
theorem zfj(h:∀ n i,l (n+1) i=(bif decide (i<(xs.length:Int))then(zaO xs i).bind fun x=>(zaO ys i).bind fun y=>(f x y).bind fun r=>bif r then l n (w64 (i+1))else some (.ret false)else some (.go ())))
  (hf:∀ x∈xs,∀ y∈ys,f x y=some (decide (x=y))) (hl:xs.length=ys.length) (hb:xs.length≤1000):l ((xs.length:Int) - 0+2).toNat 0=some (bif decide (xs=ys)then .go ()else .ret false):=by
 have:=zm5 h hf hl hb (xs.length+2) 0 (qav _) (by omega);rw[zaF];simpa using this
theorem zgv{β γ:Type}{a:List β}{b:List γ}:((a.length:Int)==(b.length:Int))=decide (a.length=b.length):=by
 by_cases h:a.length=b.length
 ·rw[decide_eq_true h,h]; simp
 rw[decide_eq_false h,beq_eq_false_iff_ne]; omega
end
theorem zm7{α:Type}{xs ys:List α}(h:¬ xs.length=ys.length):¬ xs=ys:=fun e=>h (by rw[e])
theorem zmB{xs ys:List Int}(hb:xs.length≤1000):zbL xs ys ()=some (decide (xs=ys)):=by
 unfold zbL;rw[zgv];by_cases hl:xs.length=ys.length
 ·rw[decide_eq_true hl,cond_true,zfj (l:=zbX xs ys) (f:=zda) (fun n i=>rfl) (fun x _ y _=>by rw[zda]; rfl) hl hb,qaa];cases decide (xs=ys)<;> rfl
 rw[decide_eq_false hl,cond_false,decide_eq_false (zm7 hl)]
theorem zkn{xs ys:List Int}(hb:xs.length≤1000):zca xs ys=some (decide (xs=ys)):=by
 unfold zca;rw[zgv];by_cases hl:xs.length=ys.length
 ·rw[decide_eq_true hl,cond_true,zfj (l:=zdE xs ys) (f:=fun x y=>some (x == y)) (fun n i=>rfl) (fun x _ y _=>rfl) hl hb,qaa];cases decide (xs=ys)<;> rfl
 rw[decide_eq_false hl,cond_false,decide_eq_false (zm7 hl)]
theorem zpF{xs ys:List (List Int)}(hb:xs.length≤1000)(hr:∀ r∈xs,r.length≤1000):zbK xs ys ()=some (decide (xs=ys)):=by
 unfold zbK;rw[zgv];by_cases hl:xs.length=ys.length
 ·rw[decide_eq_true hl,cond_true,zfj (l:=zbw xs ys) (f:=fun x y=>zbO x y ()) (fun n i=>rfl) (fun x hx y _=>by show zbO x y ()=_; rw[zbO,zmB (hr x hx),qaa]) hl hb,qaa];cases decide (xs=ys)<;> rfl
 rw[decide_eq_false hl,cond_false,decide_eq_false (zm7 hl)]
theorem zdK{x y:S_api_Node}:x=y↔x.card=y.card∧x.parents=y.parents∧x.rows=y.rows:=by
 cases x; cases y; simp
theorem zoo{x y:S_api_Node}(h:BndX 1000 x):zcu x y ()=some (decide (x=y)):=by
 unfold zcu;rw[zmB h.par,qaa,zpF h.rows h.row,qaa];by_cases h1:x.card=y.card
 ·rw[show(x.card == y.card)=true from beq_iff_eq.2 h1,cond_true];by_cases h2:x.parents=y.parents
  ·rw[decide_eq_true h2,cond_true,qaa,decide_eq_decide.2 (show x.rows=y.rows↔x=y from⟨fun h3=>zdK.2 ⟨h1,h2,h3⟩,fun h=>(zdK.1 h).2.2⟩)]
  rw[decide_eq_false h2,cond_false,qaa,decide_eq_false fun h=>h2 (zdK.1 h).2.1]
 rw[show(x.card == y.card)=false from beq_eq_false_iff_ne.2 h1,cond_false,qaa,decide_eq_false fun h=>h1 (zdK.1 h).1]
theorem znq{xs ys:List S_api_Node}(hb:xs.length≤1000)(hr:∀ x∈xs,BndX 1000 x):zef xs ys ()=some (decide (xs=ys)):=by
 unfold zef;rw[zgv];by_cases hl:xs.length=ys.length
 ·rw[decide_eq_true hl,cond_true,zfj (l:=zdz xs ys) (f:=fun x y=>zcu x y ()) (fun n i=>rfl) (fun x hx y _=>zoo (hr x hx)) hl hb,qaa];cases decide (xs=ys)<;> rfl
 rw[decide_eq_false hl,cond_false,decide_eq_false (zm7 hl)]
theorem zgo{x y:S_api_Net}:x=y↔x.grain=y.grain∧x.nodes=y.nodes:=by
 cases x; cases y; simp
def zp0(x y:S_api_Node):Option Bool:=
 ((bif (x.card == y.card)then(zca x.parents y.parents).bind fun r9=>bif r9 then some (!((x.rows.length:Int)==(y.rows.length:Int)))else some true else some true:Option Bool)).bind fun v=>
  bif v then some false else(zbt x y ((x.rows.length:Int) - 0+2:Int).toNat 0).bind fun o=>match o with
   | .go _=>some true
   | .ret r=>some r
theorem zs2{x y:S_api_Node}(h:BndX 1000 x)(hl:x.rows.length=y.rows.length):zbt x y ((x.rows.length:Int) - 0+2:Int).toNat 0=some (bif decide (x.rows=y.rows)then .go ()else .ret false):=
 zfj (l:=zbt x y) (f:=zca) (fun n i=>rfl) (fun r hr s _=>zkn (h.row r hr)) hl h.rows
theorem zq1{x y:S_api_Node}(h:BndX 1000 x):zp0 x y=some (decide (x=y)):=by
 unfold zp0;rw[zkn h.par,qaa,zgv];by_cases h1:x.card=y.card
 ·rw[show(x.card == y.card)=true from beq_iff_eq.2 h1,cond_true];by_cases h2:x.parents=y.parents
  ·rw[decide_eq_true h2,cond_true,qaa];by_cases hl:x.rows.length=y.rows.length
   ·rw[decide_eq_true hl,qaS,cond_false,zs2 h hl,qaa,← decide_eq_decide.2 (show x.rows=y.rows↔x=y from⟨fun h3=>zdK.2 ⟨h1,h2,h3⟩,fun h=>(zdK.1 h).2.2⟩)];cases decide (x.rows=y.rows)<;> rfl
   rw[decide_eq_false hl,qbd,cond_true,decide_eq_false fun h=>hl (by rw[h])]
  rw[decide_eq_false h2,cond_false,qaa,cond_true,decide_eq_false fun h=>h2 (zdK.1 h).2.1]
 rw[show(x.card == y.card)=false from beq_eq_false_iff_ne.2 h1,cond_false,qaa,cond_true,decide_eq_false fun h=>h1 (zdK.1 h).1]
theorem zpd{x y:S_api_Node}:∀(n:Nat) (i:Int),zbt x y n i≠some (.ret true)
 | 0,i,h=>by cases h
 | n+1,i,h=>by
  rw[zbt]at h;cases hd:decide (i<(x.rows.length:Int))with
  | false=>rw[hd,cond_false]at h; cases h
  | true=>
   rw[hd,cond_true]at h;cases h1:zaO x.rows i with
   | none=>rw[h1]at h; cases h
   | some r=>
    rw[h1,qaa]at h;cases h2:zaO y.rows i with
    | none=>rw[h2]at h; cases h
    | some s=>
     rw[h2,qaa]at h;cases h3:zca r s with
     | none=>rw[h3]at h; cases h
     | some b=>
      rw[h3,qaa]at h;cases b with
      | false=>cases h
      | true=>exact zpd n _ h
theorem zq5{a b:S_api_Net}(n:Nat)(i:Int):zbY a b (n+1) i=(bif decide (i<(a.nodes.length:Int))then(zaO a.nodes i).bind fun x=>(zaO b.nodes i).bind fun y=>(zp0 x y).bind fun r=>bif r then zbY a b n (w64 (i+1))else some (.ret false)else some (.go ())):=by
 rw[zbY];congr 1
 cases zaO a.nodes i with
 | none=>rfl
 | some x=>
  rw[qaa,qaa];cases zaO b.nodes i with
  | none=>rfl
  | some y=>
   rw[qaa,qaa];unfold zp0;rw[Option.bind_assoc];congr 1
   funext v
   cases v with
   | true=>rfl
   | false=>
    rw[cond_false,cond_false,Option.bind_assoc];cases h:zbt x y ((x.rows.length:Int) - 0+2:Int).toNat 0 with
    | none=>rfl
    | some o=>
     cases o with
     | go _=>rfl
     | ret r=>
      cases r with
      | false=>rfl
      | true=>exact absurd h (zpd _ _)
theorem zrQ{a b:S_api_Net}(h:Bnd a):zec a b=some (decide (a=b)):=by
 unfold zec;rw[zgv];by_cases h1:a.grain=b.grain
 ·rw[show(a.grain == b.grain)=true from beq_iff_eq.2 h1,cond_true,qaa];by_cases hl:a.nodes.length=b.nodes.length
  ·rw[decide_eq_true hl,qaS,cond_false,zfj (l:=zbY a b) (f:=zp0) zq5 (fun x hx y _=>zq1 (h.node x hx)) hl h.nodes,qaa,← decide_eq_decide.2 (show a.nodes=b.nodes↔a=b from⟨fun h3=>zgo.2 ⟨h1,h3⟩,fun h=>(zgo.1 h).2⟩)];cases decide (a.nodes=b.nodes)<;> rfl
  rw[decide_eq_false hl,qbd,cond_true,decide_eq_false fun h=>hl (by rw[h])]
 rw[show(a.grain == b.grain)=false from beq_eq_false_iff_ne.2 h1,cond_false,qaa,cond_true,decide_eq_false fun h=>h1 (zgo.1 h).1]
theorem zsQ{d:S_api_Net}(hb:Bnd d):(zh2 d∧zbq d=some true∧za0 d=some 0)∨(¬ zh2 d∧zbq d=some false∧za0 d=some 50∧zaN d=some (zl2,50)):=by
 rcases zpz hb with⟨h1,h2⟩| ⟨h1,h2⟩
 ·refine .inl ⟨h1,h2,?_⟩;obtain⟨g,ns,rfl,h⟩:=h1;obtain⟨os,_,_,e⟩:=zlD h;unfold za0;rw[e,qaa]
 rcases zs7 hb with e | h
 ·refine .inr ⟨h1,h2,?_,e⟩;unfold za0;rw[e,qaa]
 exact absurd h h1
theorem zrk{a b:S_api_Net}{ra rb:Bool}(ha:Bnd a)(h1:za0 a=some (bif ra then 0 else 50))(h2:za0 b=some (bif rb then 0 else 50)):zee a b=some (ra && rb && decide (a=b)):=by
 unfold zee;rw[h1,h2,qaa,qaa];cases ra with
 | false=>rfl
 | true=>
  cases rb with
  | false=>rfl
  | true=>
   rw[cond_true,show((0:Int)== 0)=true from rfl,cond_true,cond_true,qaa];by_cases hg:a.grain=b.grain
   ·rw[show(a.grain == b.grain)=true from beq_iff_eq.2 hg,qaS,cond_false,znq ha.nodes ha.node,qaa,decide_eq_decide.2 (show a.nodes=b.nodes↔a=b from⟨fun h3=>zgo.2 ⟨hg,h3⟩,fun h=>(zgo.1 h).2⟩)];rfl
   rw[show(a.grain == b.grain)=false from beq_eq_false_iff_ne.2 hg,qbd,cond_true,decide_eq_false fun h=>hg (zgo.1 h).1];rfl
theorem zpx{d:S_api_Net}{r1:S_net_network×Int}(h:r1.1.net=d)(hb:d.nodes.length≤1000):∀(n i:Nat) (v:Int),i≤d.nodes.length→d.nodes.length - i<n→∃ w,zcx r1 n v (i:Int)=some w∧zcA d n v (i:Int)=some w
 | 0,_,_,_,h=>absurd h (qam _)
 | n+1,i,v,h1,h2=>by
  rw[zcx,zcA,h,zar];by_cases hi:i<d.nodes.length
  ·rw[decide_eq_true hi,cond_true,cond_true,zaq (by omega)];exact zpx h hb n (i+1) _ hi (by omega)
  rw[decide_eq_false hi,cond_false,cond_false];exact⟨v,rfl,rfl⟩
theorem zri{d:S_api_Net}(hr:zh2 d)(hb:Bnd d):∃ w,zcn d=some (w,0)∧zdD d=some w:=by
 obtain⟨g,ns,rfl,h⟩:=hr;obtain⟨os,_,_,e⟩:=zlD h;obtain⟨w,e1,e2⟩:=zpx (d:=zdI g ns) (r1:=(⟨zdI g ns,iL (ns.map (·.c)),iL (zax ns),iL os⟩,0)) rfl hb.nodes ((zdI g ns).nodes.length+2) 0 1 (qav _) (by omega);rw[show((0:Nat):Int)=0 from rfl]at e1 e2;refine⟨w,?_,?_⟩
 ·unfold zcn;rw[e,qaa];simp only[];rw[show((0:Int)== 0)=true from rfl,cond_true,zaF,e1,qaa]
 unfold zdD;rw[zaF,e2,qaa]
theorem znW{d:S_api_Net}(hr:zh2 d):∃ w,zb3 d=some (w,0)∧zcB d=some w:=by
 obtain⟨g,ns,rfl,h⟩:=hr;obtain⟨os,_,_,e⟩:=zlD h;refine⟨_,?_,zpH h⟩;unfold zb3 zdP;rw[e,qaa];simp only[];rw[show((0:Int)== 0)=true from rfl,cond_true,zqV h.cs,qaa];simp only[cond_true,qaa]
theorem znN{d:S_api_Net}(e:zaN d=some (zl2,50)):zb3 d=some (0,50)∧zcn d=some (0,50):=by
 constructor
 ·unfold zb3; rw[e,qaa]; simp only[]; rw[show((50:Int)== 0)=false from rfl,cond_false]
 unfold zcn; rw[e,qaa]; simp only[]; rw[show((50:Int)== 0)=false from rfl,cond_false]
theorem zqq(W:Int):zb1 W 0 0 W=some true:=by
 unfold zb1;rw[show((0:Int)== 0)=true from rfl,cond_true,beq_self_eq_true,cond_true];rfl
theorem zoy:zb1 0 50 50 0=some true:=rfl
theorem zhI{r4:A3_S_api_Net}{d:S_api_Net}{rd:Bool}(hd:Bnd d)(h1:za0 d=some (bif rd then 0 else 50))(h0:Bnd r4.a0)(h3:Bnd r4.a1)(h2:Bnd r4.a2):∀(n i:Nat),i≤3→3 - i<n →
  zbl r4 d (bif rd then 0 else 50) n (i:Int)=some (.go ())
 | 0,_,_,h=>absurd h (qam _)
 | n+1,i,h4,h5=>by
  rw[zbl];by_cases hi:i<3
  ·obtain⟨m,hm,hx⟩:∃ m,Bnd m∧zaO [r4.a0,r4.a1,r4.a2] (i:Int)=some m:=by
    have:i=0∨i=1∨i=2:=by omega
    rcases this with rfl | rfl | rfl
    ·exact⟨_,h0,rfl⟩
    ·exact⟨_,h3,rfl⟩
    exact⟨_,h2,rfl⟩
   have ih:=zhI hd h1 h0 h3 h2 n (i+1) (by omega) (by omega);rw[show decide ((i:Int)<3)=true from decide_eq_true (by omega),cond_true,hx,qaa,zaq (by omega),ih];obtain⟨rm,k1,k2⟩:∃ rm:Bool,zbq m=some rm∧za0 m=some (bif rm then 0 else 50):=by
    rcases zsQ hm with⟨_,k1,k2⟩| ⟨_,k1,k2,_⟩
    ·exact⟨true,k1,k2⟩
    exact⟨false,k1,k2⟩
   rw[zrk hd h1 k2,qaa,k1];cases rd with
   | false=>rfl
   | true=>
    rw[cond_true,show((0:Int)== 0)=true from rfl,cond_true,qaa];cases rm with
    | false=>rfl
    | true=>
     rw[cond_true,zrQ hd,qaa];cases decide (d=m)<;> rfl
  rw[show decide ((i:Int)<3)=false from decide_eq_false (by omega),cond_false]
theorem zjR{r4:A3_S_api_Net}{y:List S_api_Net}(hl:y.length=4)(hy:∀ d∈y,Bnd d)(h0:Bnd r4.a0)(h3:Bnd r4.a1)(h2:Bnd r4.a2):∀(n i:Nat),i≤4→4 - i<n→zbn y r4 n (i:Int)=some (.go ())
 | 0,_,_,h=>absurd h (qam _)
 | n+1,i,h4,h5=>by
  rw[zbn];by_cases hi:i<4
  ·have hiy:i<y.length:=by omega
   have ih:=zjR hl hy h0 h3 h2 n (i+1) (by omega) (by omega);obtain⟨d,hd⟩:∃ d,y[i]=d:=⟨_,rfl⟩;have hbd:Bnd d:=by rw[← hd]; exact hy _ (qao hiy)
   have t50:((50:Int)== 0)=false:=rfl;have t0:((0:Int)== 0)=true:=rfl;have t55:((50:Int)== 50)=true:=rfl;have f3:(3 - 0+2:Int).toNat=5:=rfl;rw[show decide ((i:Int)<((4:Nat):Int))=true from decide_eq_true (by omega),cond_true,zaJ hiy,qaa,hd,zaq (by omega),ih];rcases zsQ hbd with⟨k0,k1,k2⟩| ⟨k0,k1,k2,k3⟩
   ·obtain⟨w,e1,e2⟩:=znW k0;obtain⟨v,e3,e4⟩:=zri k0 hbd;have hl2:=zhI (rd:=true) hbd k2 h0 h3 h2 5 0 (by omega) (by omega);rw[show((0:Nat):Int)=0 from rfl,cond_true]at hl2;simp only[k1,k2,qaa,cond_true,cond_false,e1,e2,e3,e4,t0,zqq,qaS,f3,hl2]
   obtain⟨e1,e3⟩:=znN k3;have hl2:=zhI (rd:=false) hbd k2 h0 h3 h2 5 0 (by omega) (by omega);rw[show((0:Nat):Int)=0 from rfl,cond_false]at hl2;simp only[k1,k2,qaa,cond_true,cond_false,e1,e3,t50,t55,zoy,qaS,f3,hl2]
  rw[show decide ((i:Int)<((4:Nat):Int))=false from decide_eq_false (by omega),cond_false]
theorem checks_holds{raw:S_api_Net}{dr:DraftN}{b c:S_haruspexref05_Bend}(hd:DraftOk dr)(hb:BendOk b)(hc:BendOk c):zcI 1025 raw (zch dr) b c=some true:=by
 obtain⟨x,e1,h1⟩:=zvn raw;obtain⟨num,ns,h,_,e2⟩:=zrN hd (qak 1025);have h2:=h.bnd;obtain⟨y,e3,h3⟩:=ziD hb.what hb.at_ hb.row h2;obtain⟨z,e4,h4⟩:=ziD hc.what hc.at_ hc.row h3;have en:zd8 1025 raw (zch dr) b=some ⟨x,zdI (1+dr.grain % 60) ns,y⟩:=by
  unfold zd8;rw[e1,qaa,e2,qaa,qaa];rw[show(⟨((1+dr.grain % 60:Nat):Int),ns.map nd⟩:S_api_Net)=zdI (1+dr.grain % 60) ns from rfl,e3,qaa]
 have b0:Bnd x:=h1.mono (by omega);have b1:Bnd (zdI (1+dr.grain % 60) ns):=h2.mono (by omega);have b2:Bnd y:=h3.mono (by omega);have b3:Bnd z:=h4.mono (by omega)
 have e5:=zjR (r4:=⟨x,zdI (1+dr.grain % 60) ns,y⟩) (y:=[x,zdI (1+dr.grain % 60) ns,y,z]) rfl (by
  intro d hd;simp only[qaH,qbN,or_false]at hd;rcases hd with rfl | rfl | rfl | rfl
  ·exact b0
  ·exact b1
  ·exact b2
  exact b3) b0 b1 b2 6 0 (by omega) (by omega)
 rw[show((0:Nat):Int)=0 from rfl]at e5;have e6:zev 32 [x,zdI (1+dr.grain % 60) ns,y,z]=some [x,zdI (1+dr.grain % 60) ns,y,z]:=if_pos (show 4 * 32≤zad from by decide);unfold zcI zlA;rw[qaa,cond_true,en,qaa];simp only[];rw[e4,qaa,e6,qaa,show(((4:Nat):Int) - 0+2:Int).toNat=6 from rfl,e5,qaa]
end Go.Dc
namespace Go.Proofs.Ytcfdkhbflhdjeaa.S
open Go Go.Mx Go.Lx Go.Dc Go.ChangeShapes Go.WideShapes Go.ChangeAt Go.RowKit
theorem zuF:∀ t∈[24,28,30,30],(zdC Try.prog 8 t).isSome=true:=by
 intro t ht;simp only[qaH,qbN,or_false]at ht;rcases ht with rfl | rfl | rfl | rfl
 ·rw[zsg]; rfl
 ·rw[zsn]; rfl
 ·rw[zoM]; rfl
 rw[zoM]; rfl
theorem zuS:∀ t∈[24,28,30,30],Try.prog.readableRec t=true∧t<Try.prog.types.size:=by
 have lt:∀ t:Nat,t≤155→t<Try.prog.types.size:=fun t ht=>qb4 ht zur
 intro t ht;simp only[qaH,qbN,or_false]at ht;rcases ht with rfl | rfl | rfl | rfl
 ·exact⟨zvl,lt _ (by decide)⟩
 ·exact⟨zvj,lt _ (by decide)⟩
 ·exact⟨zsA,lt _ (by decide)⟩
 exact⟨zsA,lt _ (by decide)⟩
theorem zkc{H:Type}{enc:TypeId×Value→H}{w:World}{b0:Nat}{args:Array Value}{ds:List (DataW H)}{ps:List MemPlace}
  (hv:∀(j:Nat) t v,[24,28,30,30][j]? = some t→args[j]? = some v→Value.okWide Try.prog w .any b0 t v) (hd:DataW.TrodAll enc Try.prog w 0 (fun _=>true) true [24,28,30,30] args.toList ds ps):
  Calls Try.prog 4 args w fun e w'=>e=.returned (.bool true)∧Below w.heap.size w w':=by
 refine zxd (g:=8) hv hd zuF fun es hes=>?_
 obtain⟨x0,r,rfl,h0,hes⟩:=Dc.ShAs.inv hes;obtain⟨x1,r,rfl,h1,hes⟩:=Dc.ShAs.inv hes;obtain⟨x2,r,rfl,h2,hes⟩:=Dc.ShAs.inv hes;obtain⟨x3,r,rfl,h3,hes⟩:=Dc.ShAs.inv hes;obtain rfl:=Dc.ShAs.none hes;obtain⟨raw,rfl⟩:=zuK h0;obtain⟨d,hd2,rfl⟩:=zqU h1;obtain⟨b,⟨hb1,hb2,hb3⟩,rfl⟩:=zpl h2;obtain⟨c,⟨hc1,hc2,hc3⟩,rfl⟩:=zpl h3;exact zgL (checks_holds (raw:=raw) (b:=b) (c:=c) hd2 ⟨hb1,hb2,hb3⟩ ⟨hc1,hc2,hc3⟩)
theorem zi5(os:Os)(started:os.Started)(H:Type)(enc:TypeId×Value→H):
  ReturnsInHanded {} Try.checked os 4 .any (Rows.netChecksSpec.pre6 enc Try.prog Try.f4 Rows.netChecksRow.domain false) (Rows.netChecksSpec.post enc Try.prog Try.f4 false true false false):=by
 refine returnsInHanded_of_change (C:=Try.checked) own started (by kernel_rfl) Try.func4
  (ChangeSpec.witness6 (enc:=enc) (C:=Try.checked) false ⟨#[],#[.agg #[.int .i64 0,.slice none 0 0],.agg #[.int .u8 0,.slice none 0 0,.slice none 0 0],.agg #[.int .u8 0,.int .u8 0,.int .u8 0,.int .i64 0],.agg #[.int .u8 0,.int .u8 0,.int .u8 0,.int .i64 0]],[]⟩ 8 (by kernel_rfl) (by kernel_rfl) (by kernel_rfl) (by kernel_rfl)) ?_
 intro W base args ds gs before hval0 hW hcnd _;have hval:∀(j:Nat) t v,Try.f4.params[j]? = some t→args[j]? = some v→Value.okWide Try.prog W .any base t v:=hval0;have hlt:∀ x∈before,x.block<W.heap.size:=fun x hx=>hW.lt x hx
 have hW':=hW;obtain⟨p,q,hA0,hV,rfl,hfz,hnd⟩:=hW;have hA:DataW.TrodAll enc Try.prog W 0 (fun _=>true) true Try.f4.params.toList args.toList ds p:=hA0;rw[Try.params4]at hA hval;have hcalls:=zkc (fun j t v h1 h2=>hval j t v (by simpa using h1) h2) hA;obtain⟨rfl,rfl⟩:=trodVars_none hV;have hA1:DataW.TrodAll enc Try.prog W 0 (fun _=>true) true [24,28,30,30] args.toList ds p:=hA;have hds:∃ d0 d1 d2 d3:DataW H,ds=[d0,d1,d2,d3]:=by
  obtain⟨_,_,d0,ds0,_,_,_,e0,_,_,r0⟩:=trodAll_cons hA1;obtain⟨_,_,d1,ds1,_,_,_,e1,_,_,r1⟩:=trodAll_cons r0;obtain⟨_,_,d2,ds2,_,_,_,e2,_,_,r2⟩:=trodAll_cons r1;obtain⟨_,_,d3,ds3,_,_,_,e3,_,_,r3⟩:=trodAll_cons r2;obtain⟨_,e4,_⟩:=trodAll_nil r3;exact⟨d0,d1,d2,d3,by rw[e0,e1,e2,e3,e4]⟩
 obtain⟨d0,d1,d2,d3,rfl⟩:=hds;clear hA0 hval0;simp only[qaP]at hW' hlt;refine hcalls.mono fun e W' ⟨he,hb⟩=>?_
 subst he
 exact⟨_,rfl,_,_,_,[],_,[],hW',trodAll_mk1 (shut_bool Try.underlying4 true),
  (by rw[Try.params4]; exact zfO hb hA1 zuS hlt),
  rfl,hb.frame _,fun h=>by cases h⟩
theorem checks_holds:Rows.NetChecksSaid:=
 OpenClaim.holds_of_wide 4 Try.f4 rfl rfl rfl rfl rfl rfl rfl ⟨rfl,rfl,rfl,rfl,rfl⟩ rfl rfl rfl rfl rfl zwI Try.func4 zts
  zwi (by unfold Func.isWrapper; first | (rw[if_pos (by decide +kernel)]; kernel_rfl)| (rw[if_neg (by decide +kernel)]; exact⟨rfl,rfl⟩))
  (fun os started H enc _=>zi5 os started H enc)
end Go.Proofs.Ytcfdkhbflhdjeaa.S
namespace Go.Proofs.Ytcfdkhbflhdjeaa
theorem checks_holds:Rows.NetChecksSaid:=S.checks_holds
end Go.Proofs.Ytcfdkhbflhdjeaa
