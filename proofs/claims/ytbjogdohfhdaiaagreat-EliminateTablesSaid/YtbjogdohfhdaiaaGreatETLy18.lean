/-
 Trees: ranges over functions that keep a cell of their own between the rounds. Conditions: none.
-/
import Derived.Test.YtbjogdohfhdaiaaGreatETLy17
import Derived.Test.YtbjogdohfhdaiaaGreatETJ11
import Derived.Test.YtbjogdohfhdaiaaGreatETLy16
set_option linter.unusedSimpArgs false
set_option linter.unusedVariables false
namespace Go.Lx
open Go Go.Mx
section
variable {fns:Mach} {k0:Nat} {Q:LX->LSt->Prop} {c:Cx} {L:List LB} {S S':LSt} {M:St} {H:zaj} {B:Nat} {rd:Option Nat} {bar top e:Bool}
theorem zhC{n:Nat}:∀ {A B:List LB},zc1 n A->zc1 n B->zc1 n (A ++ B)
 | [],B,_,h=>h
 | a :: A,B,h1,h2=>⟨h1.1,zhC h1.2 h2⟩
def zEr(fns:Mach)(gf:Nat)(first cap:List D){α:Type}(xs:List α)(Y:α->Nat->List D->List LB->Prop)(κ:Nat)(Gs:Nat->LB):Prop:=
 ∀(n0 β:Nat) (P:Nat->LB->List LB->Prop) (Ps:List LB->Prop),β<n0->κ<n0->κ≠β->(∀ i g L,P i g L->L.length=n0/\L[κ]? = some g/\((∀ n,LB.sc n g)->zc1 n0 L))->(∀ i g g' L,P i g L->P i g' (L.set κ g'))->
  (∀ i x L args G,xs[i]? = some x->P i (Gs i) L->Y x n0 args G->zjJ fns β args (L ++ G) λb L'=>∃ L1,L'=L1 ++ G/\L1.length=n0/\(match b with | true=>P (i+1) (Gs i) L1 | false=>Ps L1))->
  ∀ L,P 0 (Gs 0) L->zdu fns false gf (first ++ [.yld β]++ cap) L (λ_ L'=>∃ L1 G,L'=L1 ++ G/\L1.length=n0/\((∃ i,P xs.length (Gs i) L1)\/Ps L1)) (λ_ _=>False)
theorem EvL.zCy{α γ:Type}{k:List K}{x:X}{ps:List Nat}{asg body:C}{gf:Nat}{first cap:List D}{xs:List α}{Y:α->Nat->List D->List LB->Prop}{N n0 κ:Nat}{Gs:Nat->LB}{E:List (Nat×D)}
  (hx:evD E x=some (.clo gf first cap)) (hg:zEr fns gf first cap xs Y κ Gs) (T:γ->LB->List LB) (P:Nat->γ->Prop) (R:LX->List LB->Prop) (a0:γ)
  (hκ:κ<n0) (hlen:∀ a g,(T a g).length=n0) (hget:∀ a g,(T a g)[κ]? = some g) (hset:∀ a g g',(T a g).set κ g'=T a g') (hk0:k0<=n0) (hE:∀ k d,lk E k=some d->d.sc (n0+1)) (hgs:∀ i n,LB.sc n (Gs i)) (hsc:∀ a g,(∀ n,LB.sc n g)->zc1 (n0+1) (T a g)) (hR:∀ x L1,R x L1->L1.length=n0/\zc1 (n0+1) L1) (hpan:∀ d L1,¬ R (.panic d) L1)
  (hp:P 0 a0)
  (hstep:∀ i a y args G,xs[i]? = some y->P i a->Y y (n0+1) args G->∃ E',zyM N E ps args=some E' /\
   EvL fns (n0+1+G.length) [.code asg] ⟨N,E',T a (Gs i)++ .lp true none N E ps asg body :: G⟩ λx S1=>x=.normal/\S1.N=N/\S1.heap[n0]? = some (.lp true none N E ps asg body)/\
    EvL fns (n0+1+G.length) [.code body] ⟨N,S1.env,S1.heap.set n0 (.lp false none N E ps asg body)⟩ λx2 S2=>∃ L1,L1.length=n0/\za8 (n0+1+G.length) S2 ⟨S2.N,[],L1 ++ .lp false none N E ps asg body :: G⟩/\(match x2 with | .normal=>∃ a',P (i+1) a'/\L1=T a' (Gs i)| x2=>R x2 L1))
  (hend:∀ a i,P xs.length a->R .normal (T a (Gs i)))
  (hk:∀ L1,R .normal L1->EvL fns k0 k ⟨N,E,L1 ++ [.lost]⟩ Q)
  (hke:∀ id L1,R (.exit id) L1->EvL fns k0 (.ex id :: k) ⟨N,E,L1 ++ [.lost]⟩ Q)
  (hkr:∀ L1,R .ret L1->Q .ret ⟨N,E,L1 ++ [.lost]⟩):EvL fns k0 (.code (.zed x ps asg body):: k) ⟨N,E,T a0 (Gs 0)⟩ Q:=by
 intro c0 H0 c B rd M hd hway hr hB;obtain⟨u,g3,g4⟩:=zad hr hx;cases g4 with
 | clo q1 q2 q3 q4=>
 rename_i us ws;have hrd:zsr rd M.heap=true:=by
  cases rd with
  | none=>rfl
  | some l=>
   obtain⟨_,_,_,_,_,_,h9⟩:=hway.step.lp l (hd l rfl);simp[zsr,h9]
 have hT0:=hlen a0 (Gs 0);obtain⟨H1,hH1,r1,s1,hdfr⟩:∃ H1,zb7 rd M=H1/\RelH c (T a0 (Gs 0)) H1/\Step c M.heap c H1/\(rd=none->H1[M.heap.length]? = some .dfr):=by
  cases rd with
  | none=>
   obtain⟨h1,h2⟩:=hr.heap.pad .dfr;exact⟨_,rfl,h1,h2,λ_=>by show(M.heap ++ [Ob.dfr])[M.heap.length]? = some .dfr; rw[qas (qao _)]; simp⟩
  | some l=>exact⟨_,rfl,hr.heap,Step.refl _ _,λh=>by cases h⟩
 have henv:zcn c E M.env:=hr.env;obtain⟨r2,s2,le2⟩:=r1.zEP (x:=.cell H1.length) (lb:=.lp true none N E ps asg body) (ob:=.loop true none M.env ps asg body) rfl
  λc' hle hρ=>⟨H1.length,M.env,hρ,by simp,hr.len,henv.mono hle⟩
 rw[hT0]at r2 s2 le2;have hρ1:(c.put n0 (.cell H1.length)).ρ n0=some (.cell H1.length):=zaD _ _ _;have hrs:Rs (c.put n0 (.cell H1.length)) (first ++ [.yld n0]++ cap) (us ++ [.yld H1.length]++ ws):=
  (Rs.append (Rs.mono ⟨q1,q3⟩ le2) ((Rs.nil _).cons (.yld hρ1))).append (Rs.mono ⟨q2,q4⟩ le2)
 have hcall:=hg (n0+1) n0 (λi g L=>∃ a,P i a/\L=T a g ++ [.lp true none N E ps asg body]) (λL=>∃ j L1,R (zrC j) L1/\L=L1 ++ [.lp false (some j) N E ps asg body]) (qbC _) (qcy hκ) (Nat.ne_of_lt hκ)
  (λi g L ⟨a,_,h⟩=>by rw[h]; exact⟨by simp[hlen a g],by rw[qak (by rw[hlen a g]; exact hκ)]; exact hget a g,λhg=>zhC (hsc a g hg) ⟨hE,qdv⟩⟩)
  (λi g g' L ⟨a,hP,h⟩=>⟨a,hP,by rw[h,qdn _ _ (by rw[hlen a g]; exact hκ),hset]⟩) (by
   rintro i y L args G hy ⟨a,hPa,rfl⟩ hY;obtain⟨E',hs,hev⟩:=hstep i a y args G hy hPa hY;have hround:=zjJ.of (RQ:=λx2 L1=>match x2 with | .normal=>∃ a',P (i+1) a'/\L1=T a' (Gs i)| x2=>R x2 L1) (hlen a (Gs i)) hs hpan hev;rw[qaI,qaT];intro c B H l vs hH hB hρ hr;obtain⟨Nn,b,h',k1,c',L',k2,k3,k4,L1,k5,k6⟩:=hround c B H l vs hH hB hρ hr;refine⟨Nn,b,h',k1,c',L',k2,k3,k4,?_⟩;rcases k6 with⟨rfl,rfl,a',hPa',rfl⟩| ⟨rfl,j,rfl,hj⟩
   .exact⟨T a' (Gs i)++ [.lp true none N E ps asg body],by simp,by simp[k5],a',hPa',rfl⟩
   refine⟨L1 ++ [.lp false (some j) N E ps asg body],by simp,by simp[k5],j,L1,?_,rfl⟩
   cases j<;>exact hj)
  (T a0 (Gs 0)++ [.lp true none N E ps asg body]) ⟨a0,hp,rfl⟩
 have hB1:B<=(c.put n0 (.cell H1.length)).base:=hB;refine EvC.zed g3 hrd ?_;rw[hH1];refine EvF.mono (hcall _ B _ _ r2 hB1 hrs) ?_;rintro cr h' ⟨c2,d,L',s3,r3,le3,hpost⟩;cases cr with
 | pan v=>exact hpost.2.elim
 | ret v=>
 obtain⟨hrd',L1,G,rfl,hL1,hP⟩:=hpost;have hscL:zc1 (n0+1) L1:=by
  rcases hP with⟨i,a,_,rfl⟩| ⟨j,L2,hj,rfl⟩
  .exact zhC (hsc a (Gs i) (hgs i)) ⟨hE,qdv⟩
  exact zhC (hR _ _ hj).2 ⟨hE,qdv⟩
 obtain⟨c3,r4,_,s4,le4⟩:=zpS (v:=v) r3 (.any v) trivial (by rw[hL1]; exact hscL);rw[hL1]at le4;have hρ3:c3.ρ n0=some (.cell H1.length):=by
  obtain⟨y1,f1,f2⟩:=le3.ρ n0 _ hρ1;have:=zg2 f2;subst this;obtain⟨y2,f3,f4⟩:=le4.ρ n0 _ (qbC _) f1;have:=zg2 f4;subst this;exact f3
 have hstep4:Step c M.heap c3 h':=((s1.trans s2).trans s3).trans s4;have hMl:M.heap.length<=H1.length:=s1.len;have hfin:Step c M.heap c3 (h'.set H1.length .dead):=hstep4.kill hMl
 have hlek:c.leK n0 c3:=⟨λb cs hb=>le4.za b cs (le3.za b cs (le2.za b cs hb)),λb cs hb=>le4.zf b cs (le3.zf b cs (le2.zf b cs hb)),λβ y hβ hy=>by
  obtain⟨y1,v1,v2⟩:=le2.ρ β y hy;obtain⟨y2,v3,v4⟩:=le3.ρ β y1 v1;obtain⟨y3,v5,v6⟩:=le4.ρ β y2 (by omega) v3
  exact⟨y3,v5,(v2.trans v4).trans v6⟩⟩
 have hle:c.le c3:=⟨hlek.za,hlek.zf,λβ y hy=>hlek.ρ β y (by rw[<- hT0]; exact hr.heap.scope β y hy) hy,r4.apart⟩;have hdfs:zh7 H0.length (zf2 rd M) (h'.set H1.length .dead):=by
  have hold:zh7 H0.length M.dfs (h'.set H1.length .dead):=hway.dfs.step hr.heap hfin;cases hrdc:rd with
  | some l=>exact hold
  | none=>
   obtain⟨l,e1,e2,e3⟩:=hold;obtain⟨l',e1',e2',e3'⟩:=hway.dfs;have hll:l=l':=by
    have:=e1.symm.trans e1';exact List.map_inj_right (λa b hab=>by injection hab)|>.1 this
   subst hll;refine⟨M.heap.length :: l,by simp[zf2,e1],qa7.2 ⟨λhmem=>?_,e2⟩,λd hdm=>?_⟩
   .have:=(qab.1 (e3' _ hmem).2).1;omega
   rcases qax.1 hdm with rfl | hdm
   .refine⟨hway.step.len,?_⟩;have hd1:=hdfr hrdc;have hlt:=(qab.1 hd1).1;rw[qap (by omega)];have hd2:(H1 ++ [Ob.loop true none M.env ps asg body])[M.heap.length]? = some .dfr:=by rw[qak hlt]; exact hd1
    have hd3:h'[M.heap.length]? = some .dfr:=(s3.zet _ (by simp; omega) (r2.dfr hd2)).trans hd2;exact hd3
   exact e3 d hdm
 have hway':Way k0 c0 H0 c3 ⟨M.env,zf2 rd M,h'.set H1.length .dead⟩:=⟨hway.step.trans hfin,hway.le.trans ⟨hlek.za,hlek.zf,λβ y hβ hy=>hlek.ρ β y (by omega) hy⟩,hdfs⟩;have hB3:B<=c3.base:=by rw[hfin.base]; exact hB
 have hrel:∀(L2:List LB) st pend,L2.length=n0->L1=L2 ++ [.lp st pend N E ps asg body]->(∃ env,h'[H1.length]? = some (.loop st pend env ps asg body))/\Rel c3 ⟨N,E,L2 ++ [.lost]⟩ ⟨M.env,zf2 rd M,h'.set H1.length .dead⟩:=by
  rintro L2 st pend hL2 rfl;obtain⟨b,env,w1,w2,_⟩:=r4.obj n0 _ (zis hL2);rw[hρ3]at w1;cases w1;refine⟨⟨env,w2⟩,⟨λj d hj=>by obtain⟨v,e1,e2⟩:=hr.env j d hj; exact⟨v,e1,e2.mono hle⟩,hr.len,?_⟩⟩;have:=r4.zv2 (lb:=.lost) (ob:=.dead) hρ3 rfl λH' hH'=>⟨_,hρ3,hH'⟩
  rw[zjE hL2]at this;exact this
 rcases hP with⟨i,a,hPa,rfl⟩| ⟨j,L2,hj,rfl⟩
 .obtain⟨⟨env,w1⟩,w2⟩:=hrel (T a (Gs i)) true none (hlen a _) rfl;exact⟨v,rfl,_,_,_,_,_,_,w1,.inl ⟨rfl,rfl,hk (T a (Gs i)) (hend a i hPa) c0 H0 c3 B rd _ hd hway' w2 hB3⟩⟩
 obtain⟨⟨env,w1⟩,w2⟩:=hrel L2 false (some j) (hR _ _ hj).1 rfl;refine⟨v,rfl,_,_,_,_,_,_,w1,.inr ⟨j,rfl,rfl,?_⟩⟩;cases j with
 | ret=>
  show(sem fns B rd (zrN k0 c0 H0 Q) (k.map (toM k0 c0 H0))).2 .ret _;rw[zo2];exact⟨c3,_,.ret,hway',w2,qdv,hkr L2 hj⟩
 | exit id=>exact EvC.zeW (hke id L2 hj c0 H0 c3 B rd _ hd hway' w2 hB3)
end
end Go.Lx
namespace Go.Dc
open Go Go.Mx Go.Lx
variable{L:List LB}{n:Nat}
theorem zjM(h:L.length=n)(X:List LB)(k:Nat):(L ++ X)[n+k]? = X[k]?:=by rw[qas (by omega),h,qby]
theorem zlW(h:L.length=n)(X:List LB):(L ++ X)[n]? = X[0]?:=zjM h X 0
theorem zrq{κ:Nat}(h:L.length=n)(hκ:κ<n)(X:List LB):(L ++ X)[κ]? = L[κ]?:=qak (by omega)
theorem zoP(h:L.length=n)(X:List LB)(k:Nat)(x:LB):(L ++ X).set (n+k) x=L ++ X.set k x:=by rw[qcM _ _ (by omega),h,qby]
theorem zqD(h:L.length=n)(X:List LB)(x:LB):(L ++ X).set n x=L ++ X.set 0 x:=zoP h X 0 x
theorem zxb{κ:Nat}(h:L.length=n)(hκ:κ<n)(X:List LB)(x:LB):(L ++ X).set κ x=L.set κ x ++ X:=qdn _ _ (by omega)
theorem zwm{cs l:List D}(h:l.length=cs.length):zoz cs 0 l=l:=by simp[zoz,h]
inductive AsgX (N:Nat):C->List (Nat×D)->Nat->List (Nat×D)->List LB->Prop
 | old {c E E1 n}:zyn N c E=some E1->AsgX N c E n E1 []
 | box {dr bar:Bool} {d p k n:Nat} {z:List Value} {E:List (Nat×D)} {v:D} {l:List D}:d<N->d≠p->z.length=k->l.length=k->lk E p=some v->v.cells=some l ->
   AsgX N (.reg dr bar [⟨some d,.alloc z,none⟩,⟨none,.store k (.s d) (.s p),none⟩]) E n ((d,.ptr n 0):: E) [.cells l]
section
variable {m:Mach} {k0:Nat} {Q:LX->LSt->Prop}
variable{E:List (Nat×D)}
theorem zAZ{N n:Nat}{c:C}{E1:List (Nat×D)}{L Gx:List LB}(h:AsgX N c E n E1 Gx)(hn:L.length=n):EvL m k0 [.code c] ⟨N,E,L⟩ λx S1=>x=.normal/\S1=⟨N,E1,L ++ Gx⟩:=by
 cases h with
 | old h=>
  rw[qaZ];exact zth h
 | @box dr bar d p k n z E v l h1 h2 h3 h4 h5 h6=>
  refine zag ?_;have e1:(l.length=k)=True:=eq_true h4;have e2:(0+k<=(z.map D.lit).length)=True:=eq_true (by rw[qar]; omega);have e3:zoz (z.map D.lit) 0 l=l:=zwm (by rw[qar]; omega);have e4:(d=p)=False:=eq_false h2;have e5:(d<N)=True:=eq_true h1;have e6:(k<=z.length)=True:=eq_true (by omega);have e7:List.drop l.length (z.map D.lit)=[]:=qbb (by rw[qar]; omega);simp only[rnA,Nat.reduceEqDiff,reduceIte,Nat.reduceLT,Nat.reduceAdd,Nat.reduceLeDiff,Nat.reduceMul,Nat.reduceSub,Int.reduceLE,Int.reduceLT,Int.reduceBEq,Nat.reduceBEq,reduceCtorEq,hn,zlW hn,zqD hn,e1,e2,e3,e4,e5,e6,e7,h5,h6,qaZ]
theorem EvL.zEJ{ι γ:Type}{k:List K}{x:X}{ps:List Nat}{asg body bm:C}{gf:Nat}{first cap:List D}{xs:List ι}{Y:ι->Nat->List D->List LB->Prop}{N n0 κ:Nat}{Gs:Nat->LB}(hg:zEr m gf first cap xs Y κ Gs)(hx:evD E x=some (.clo gf first cap))(hbm:zbY false body=bm)(T:γ->LB->List LB)(P:Nat->γ->Prop)(R:LX->List LB->Prop)(a0:γ)(hκ:κ<n0)(hlen:∀ a g,(T a g).length=n0)(hget:∀ a g,(T a g)[κ]? = some g)(hset:∀ a g g',(T a g).set κ g'=T a g')(hgk:∀ i kp,LB.kin kp (Gs i))(hk0:k0<=n0)(hE:scE (n0+1) E)(hgs:∀ i n,LB.sc n (Gs i))(hsc:∀ a g,(∀ n,LB.sc n g)->zc1 (n0+1) (T a g))(hR:∀ x L1,R x L1->L1.length=n0/\zc1 (n0+1) L1)(hpan:∀ d L1,¬ R (.panic d) L1)(hp:P 0 a0)(hstep:∀ i a y args G lpF g,xs[i]? = some y->P i a->Y y (n0+1) args G->(∀ kp:Nat->Bool,(∀ b,b<n0+1->kp b=true)->LB.kin kp lpF)->(∀ kp,LB.kin kp g)->∃ E' E1 Gx,zyM N E ps args=some E'/\AsgX N asg E' (n0+1+G.length) E1 Gx /\
   EvL m (n0+1+G.length) [.code bm] ⟨N,E1,T a g ++ lpF ::(G ++ Gx)⟩ λx2 S2=>∃ L1,L1.length=n0/\za8 (n0+1+G.length) S2 ⟨S2.N,[],L1 ++ lpF :: G⟩/\(match x2 with | .normal=>∃ a',P (i+1) a'/\L1=T a' g | x2=>R x2 L1))(hend:∀ a i,P xs.length a->R .normal (T a (Gs i)))(hk:∀ L1,R .normal L1->EvL m k0 k ⟨N,E,L1 ++ [.lost]⟩ Q)(hke:∀ id L1,R (.exit id) L1->EvL m k0 (.ex id :: k) ⟨N,E,L1 ++ [.lost]⟩ Q)(hkr:∀ L1,R .ret L1->Q .ret ⟨N,E,L1 ++ [.lost]⟩):EvL m k0 (.code (.zed x ps asg body):: k) ⟨N,E,T a0 (Gs 0)⟩ Q:=by
 refine EvL.zCy hx hg T P R a0 hκ hlen hget hset hk0 (znh hE) hgs hsc hR hpan hp ?_ hend hk hke hkr;intro i a y args G hy hP hY;have hl:=hlen a (Gs i);obtain⟨E',E1,Gx,h1,h2,h3⟩:=hstep i a y args G (.lp false none N E ps asg body) (Gs i) hy hP hY (λkp hkp j d hj=>znC hkp (znh hE j d hj)) (hgk i);refine⟨E',h1,EvL.mono (zAZ h2 (by rw[qaq,qay,hl]; omega)) ?_⟩;rintro x1 S1 ⟨rfl,rfl⟩;rw[qaI,qbk];refine⟨rfl,rfl,zis hl,?_⟩;rw[zjE hl];subst hbm;exact EvL.zhl h3
end
end Go.Dc
namespace Go.Dc
open Go Go.Mx Go.Lx
variable{n:Nat}
theorem zxl{kp:Nat->Bool}(hk:∀ b,b<n->kp b=true){b:LB}(h:b.sc n):LB.kin kp b:=by
 cases b with
 | cells ds=>exact zgi hk h
 | els n es=>exact λcells hc=>zgi hk (h cells hc)
 | grow n es=>exact λcells hc=>zgi hk (h cells hc)
 | gone=>trivial
 | lp st pend N E ps asg body=>exact λk d hd=>znC hk (h k d hd)
 | lost=>trivial
def zem(n:Nat)(as:List Lx.Act):List Lx.Act:=List.replicate n .k ++ as
variable{as:List Lx.Act}
theorem zqg{β:Nat}(h:β<n):(zem n as)[β]? = some .k:=by
 unfold zem;rw[qak (by simpa using h),qcB,if_pos h]
variable{j:Nat}
theorem ziT:(zem n as)[n+j]? = as[j]?:=by
 unfold zem;rw[qas (by simp),qb7,qby]
theorem zft{β:Nat}(h:β<n):isK (zem n as) β=true:=by unfold isK; rw[zqg h]
theorem ztS(h:as[j]? = some .f):isF (zem n as) (n+j)=true:=by unfold isF; rw[ziT,h]
theorem zvA(h:as[0]? = some .f):isF (zem n as) n=true:=ztS (j:=0) h
theorem zBu(h:as[j]? = some .k):isK (zem n as) (n+j)=true:=by unfold isK; rw[ziT,h]
theorem MBs.of{L0:List LB}{as:List Lx.Act}:∀ {i:Nat} {L L':List LB},L'.length<=L.length->(∀(j:Nat) b b',L[j]? = some b->L'[j]? = some b'->(match as[i+j]? with | some .k=>MB L0 (isF as) (isK as) b b' | _=>b'=.gone))->MBs L0 as i L L'
 | i,L,[],_,_=>by cases L<;>trivial
 | i,[],_ :: _,h,_=>by simp at h
 | i,b :: r,b' :: r',h,hb=>by
  refine⟨hb 0 b b' rfl rfl,MBs.of (by simpa using h) λj c c' h1 h2=>?_⟩;have:=hb (j+1) c c' (by simpa using h1) (by simpa using h2);rw[show i+(j+1)=i+1+j by omega]at this;exact this
def MBx(L0:List LB)(F kp:Nat->Bool):List Lx.Act->List LB->List LB->Prop
 | _,_,[]=>True
 | .k :: as,b :: r,b' :: r'=>MB L0 F kp b b'/\MBx L0 F kp as r r'
 | .f :: as,_ :: r,b' :: r'=>b'=.gone/\MBx L0 F kp as r r'
 | .d :: as,_ :: r,b' :: r'=>b'=.gone/\MBx L0 F kp as r r'
 | _,_,_=>False
theorem MBx.get{L0:List LB}{F kp:Nat->Bool}:∀ {as:List Lx.Act} {X Y:List LB},MBx L0 F kp as X Y->Y.length<=X.length/\∀(j:Nat) b b',X[j]? = some b->Y[j]? = some b'->(match as[j]? with | some .k=>MB L0 F kp b b' | _=>b'=.gone)
 | _,X,[],_=>⟨by simp,λj b b' _ h=>by simp at h⟩
 | .k :: as,b :: r,b' :: r',h=>by
  obtain⟨h1,h2⟩:=MBx.get h.2;refine⟨by simpa using h1,λj c c' g1 g2=>?_⟩;cases j with
  | zero=>simp at g1 g2; subst g1; subst g2; exact h.1
  | succ j=>simpa using h2 j c c' (by simpa using g1) (by simpa using g2)
 | .f :: as,b :: r,b' :: r',h=>by
  obtain⟨h1,h2⟩:=MBx.get h.2;refine⟨by simpa using h1,λj c c' g1 g2=>?_⟩;cases j with
  | zero=>simp at g1 g2; subst g1; subst g2; exact h.1
  | succ j=>simpa using h2 j c c' (by simpa using g1) (by simpa using g2)
 | .d :: as,b :: r,b' :: r',h=>by
  obtain⟨h1,h2⟩:=MBx.get h.2;refine⟨by simpa using h1,λj c c' g1 g2=>?_⟩;cases j with
  | zero=>simp at g1 g2; subst g1; subst g2; exact h.1
  | succ j=>simpa using h2 j c c' (by simpa using g1) (by simpa using g2)
 | [],_,_ :: _,h=>h.elim
 | .k :: _,[],_ :: _,h=>h.elim
 | .f :: _,[],_ :: _,h=>h.elim
 | .d :: _,[],_ :: _,h=>h.elim
variable{E:List (Nat×D)}{L:List LB}
theorem za8.zAa{k0 N:Nat}{E':List (Nat×D)}{L1 X Y:List LB}(as:List Lx.Act)(hn:L.length=n)(hk:k0<=n)(hl:L1.length=n)(hb:∀(j:Nat) b b',L[j]? = some b->L1[j]? = some b'->MB (L ++ X) (isF (zem n as)) (isK (zem n as)) b b')(hX:MBx (L ++ X) (isF (zem n as)) (isK (zem n as)) as X Y)(hY:zko as Y.length=true)(hE:MEs (L ++ X) (zem n as) E E'):za8 k0 ⟨N,E,L ++ X⟩ ⟨N,E',L1 ++ Y⟩:=by
 obtain⟨g1,g2⟩:=hX.get;refine za8.zeD (zem n as) (λβ h=>zft (by omega)) (λβ h=>?_) hE (MBs.of (by rw[qaq,qaq]; omega) λj b b' h1 h2=>?_)
 .rw[qaq,hl];rcases qaY β n with hβ | hβ
  .omega
  obtain⟨j,rfl⟩:∃ j,β=n+j:=⟨β - n,by omega⟩;have:isK as j=true:=by
   unfold isK at h ⊢;rw[ziT]at h;exact h
  have:=zgq hY j this;omega
 rw[qaR];rcases qaY j n with hj | hj
 .rw[zqg hj];rw[qak (by omega)]at h1 h2;exact hb j b b' h1 h2
 obtain⟨m,rfl⟩:∃ m,j=n+m:=⟨j - n,by omega⟩;rw[qas (by omega),hn,qby]at h1;rw[qas (by omega),hl,qby]at h2;rw[ziT];exact g2 m b b' h1 h2
variable{L0:List LB}
theorem zlk(hsc:zc1 n L):∀(j:Nat) b b',L[j]? = some b->L[j]? = some b'->MB L0 (isF (zem n as)) (isK (zem n as)) b b':=by
 intro j b b' h1 h2;rw[h1]at h2;cases h2;exact .same (zxl (λβ hβ=>zft hβ) (zjQ hsc h1))
theorem zAS{κ:Nat}{g g':LB}(hsc:zc1 n L)(hg:MB L0 (isF (zem n as)) (isK (zem n as)) g g'):∀(j:Nat) b b',(L.set κ g)[j]? = some b->(L.set κ g')[j]? = some b'->MB L0 (isF (zem n as)) (isK (zem n as)) b b':=by
 intro j b b' h1 h2;by_cases e:κ=j
 .subst e;rw[qcO]at h1 h2;simp only[if_true]at h1 h2;split at h1
  .rename_i hlt;cases h1;rw[if_pos hlt]at h2;cases h2; exact hg
  cases h1
 rw[qap e]at h1 h2;exact zlk hsc j b b' h1 h2
theorem za8.pad{k0 N:Nat}{X:List LB}(hX:∀ b∈X,b=.gone):za8 k0 ⟨N,E,L⟩ ⟨N,E,L ++ X⟩:=by
 intro c M h;refine⟨c,⟨h.env,h.len,⟨h.heap.base,h.heap.za,h.heap.zf,h.heap.own,h.heap.inj,λβ x hx=>?_,λβ o ho=>?_⟩⟩,Step.refl _ _,Cx.leK.refl _ _⟩
 .have:=h.heap.scope β x hx;simp only[qaq]at this ⊢;omega
 rcases qaY β L.length with hβ | hβ
 .rw[qak hβ]at ho;exact h.heap.obj β o ho
 rw[qas hβ]at ho;rw[hX o (qaD ho)];show c.ρ β=none;cases hr:c.ρ β with
 | none=>rfl
 | some x=>have:=h.heap.scope β x hr; simp only at this; omega
end Go.Dc
