/-
 Trees: ranges over functions that keep a cell of their own between the rounds. Conditions: none.
-/
import Derived.Test.YtbjogdohfhdaiaaGreatErLy17
import Derived.Test.YtbjogdohfhdaiaaGreatErJ14
import Derived.Test.YtbjogdohfhdaiaaGreatErLy16
set_option linter.unusedSimpArgs false
set_option linter.unusedVariables false
namespace Go.Lx
open Go Go.Mx
section
variable {fns:Mach} {k0:Nat} {Q:LX->LSt->Prop} {c:Cx} {L:List LB} {S S':LSt} {M:St} {H:zam} {B:Nat} {rd:Option Nat} {bar top e:Bool}
theorem zh2{n:Nat}:∀ {A B:List LB},zdo n A->zdo n B->zdo n (A ++ B)
 | [],B,_,h=>h
 | a :: A,B,h1,h2=>⟨h1.1,zh2 h1.2 h2⟩
def zHx(fns:Mach)(gf:Nat)(first cap:List D){α:Type}(xs:List α)(Y:α->Nat->List D->List LB->Prop)(κ:Nat)(Gs:Nat->LB):Prop:=
 ∀(n0 β:Nat) (P:Nat->LB->List LB->Prop) (Ps:List LB->Prop),β<n0->κ<n0->κ≠β->(∀ i g L,P i g L->L.length=n0/\L[κ]? = some g/\((∀ n,LB.sc n g)->zdo n0 L))->(∀ i g g' L,P i g L->P i g' (L.set κ g'))->
  (∀ i x L args G,xs[i]? = some x->P i (Gs i) L->Y x n0 args G->zks fns β args (L ++ G) λb L'=>∃ L1,L'=L1 ++ G/\L1.length=n0/\(match b with | true=>P (i+1) (Gs i) L1 | false=>Ps L1))->
  ∀ L,P 0 (Gs 0) L->zdD fns false gf (first ++ [.yld β]++ cap) L (λ_ L'=>∃ L1 G,L'=L1 ++ G/\L1.length=n0/\((∃ i,P xs.length (Gs i) L1)\/Ps L1)) (λ_ _=>False)
theorem EvL.zE6{α γ:Type}{k:List K}{x:X}{ps:List Nat}{asg body:C}{gf:Nat}{first cap:List D}{xs:List α}{Y:α->Nat->List D->List LB->Prop}{N n0 κ:Nat}{Gs:Nat->LB}{E:List (Nat×D)}
  (hx:evD E x=some (.clo gf first cap)) (hg:zHx fns gf first cap xs Y κ Gs) (T:γ->LB->List LB) (P:Nat->γ->Prop) (R:LX->List LB->Prop) (a0:γ)
  (hκ:κ<n0) (hlen:∀ a g,(T a g).length=n0) (hget:∀ a g,(T a g)[κ]? = some g) (hset:∀ a g g',(T a g).set κ g'=T a g') (hk0:k0<=n0) (hE:∀ k d,lk E k=some d->d.sc (n0+1)) (hgs:∀ i n,LB.sc n (Gs i)) (hsc:∀ a g,(∀ n,LB.sc n g)->zdo (n0+1) (T a g)) (hR:∀ x L1,R x L1->L1.length=n0/\zdo (n0+1) L1) (hpan:∀ d L1,¬ R (.panic d) L1)
  (hp:P 0 a0)
  (hstep:∀ i a y args G,xs[i]? = some y->P i a->Y y (n0+1) args G->∃ E',zzD N E ps args=some E' /\
   EvL fns (n0+1+G.length) [.code asg] ⟨N,E',T a (Gs i)++ .lp true none N E ps asg body :: G⟩ λx S1=>x=.normal/\S1.N=N/\S1.heap[n0]? = some (.lp true none N E ps asg body)/\
    EvL fns (n0+1+G.length) [.code body] ⟨N,S1.env,S1.heap.set n0 (.lp false none N E ps asg body)⟩ λx2 S2=>∃ L1,L1.length=n0/\zbi (n0+1+G.length) S2 ⟨S2.N,[],L1 ++ .lp false none N E ps asg body :: G⟩/\(match x2 with | .normal=>∃ a',P (i+1) a'/\L1=T a' (Gs i)| x2=>R x2 L1))
  (hend:∀ a i,P xs.length a->R .normal (T a (Gs i)))
  (hk:∀ L1,R .normal L1->EvL fns k0 k ⟨N,E,L1 ++ [.lost]⟩ Q)
  (hke:∀ id L1,R (.exit id) L1->EvL fns k0 (.ex id :: k) ⟨N,E,L1 ++ [.lost]⟩ Q)
  (hkr:∀ L1,R .ret L1->Q .ret ⟨N,E,L1 ++ [.lost]⟩):EvL fns k0 (.code (.zey x ps asg body):: k) ⟨N,E,T a0 (Gs 0)⟩ Q:=by
 intro c0 H0 c B rd M hd hway hr hB;obtain⟨u,g3,g4⟩:=zae hr hx;cases g4 with
 | clo q1 q2 q3 q4=>
 rename_i us ws;have hrd:zuh rd M.heap=true:=by
  cases rd with
  | none=>rfl
  | some l=>
   obtain⟨_,_,_,_,_,_,h9⟩:=hway.step.lp l (hd l rfl);simp[zuh,h9]
 have hT0:=hlen a0 (Gs 0);obtain⟨H1,hH1,r1,s1,hdfr⟩:∃ H1,zca rd M=H1/\RelH c (T a0 (Gs 0)) H1/\Step c M.heap c H1/\(rd=none->H1[M.heap.length]? = some .dfr):=by
  cases rd with
  | none=>
   grind [RelH.pad,Go.Mx.zca,Go.Lx.Rel]
  | some l=>exact⟨_,rfl,hr.heap,Step.refl _ _,λh=>by cases h⟩
 have henv:zcq c E M.env:=hr.env;obtain⟨r2,s2,le2⟩:=r1.zHK (x:=.cell H1.length) (lb:=.lp true none N E ps asg body) (ob:=.loop true none M.env ps asg body) rfl
  λc' hle hρ=>⟨H1.length,M.env,hρ,by simp,hr.len,henv.mono hle⟩
 rw[hT0]at r2 s2 le2;have hρ1:(c.put n0 (.cell H1.length)).ρ n0=some (.cell H1.length):=zbd _ _ _;have hrs:Rs (c.put n0 (.cell H1.length)) (first ++ [.yld n0]++ cap) (us ++ [.yld H1.length]++ ws):=
  (Rs.append (Rs.mono ⟨q1,q3⟩ le2) ((Rs.nil _).cons (.yld hρ1))).append (Rs.mono ⟨q2,q4⟩ le2)
 have hcall:=hg (n0+1) n0 (λi g L=>∃ a,P i a/\L=T a g ++ [.lp true none N E ps asg body]) (λL=>∃ j L1,R (zsK j) L1/\L=L1 ++ [.lp false (some j) N E ps asg body]) (qbo _) (qck hκ) (Nat.ne_of_lt hκ)
  (λi g L ⟨a,_,h⟩=>by rw[h]; exact⟨by simp[hlen a g],by rw[qar (by rw[hlen a g]; exact hκ)]; exact hget a g,λhg=>zh2 (hsc a g hg) ⟨hE,qds⟩⟩)
  (λi g g' L ⟨a,hP,h⟩=>⟨a,hP,by rw[h,qcA _ _ (by rw[hlen a g]; exact hκ),hset]⟩) (by
   rintro i y L args G hy ⟨a,hPa,rfl⟩ hY;obtain⟨E',hs,hev⟩:=hstep i a y args G hy hPa hY;have hround:=zks.of (RQ:=λx2 L1=>match x2 with | .normal=>∃ a',P (i+1) a'/\L1=T a' (Gs i)| x2=>R x2 L1) (hlen a (Gs i)) hs hpan hev;rw[qaE,qaN];intro c B H l vs hH hB hρ hr;obtain⟨Nn,b,h',k1,c',L',k2,k3,k4,L1,k5,k6⟩:=hround c B H l vs hH hB hρ hr;refine⟨Nn,b,h',k1,c',L',k2,k3,k4,?_⟩;rcases k6 with⟨rfl,rfl,a',hPa',rfl⟩| ⟨rfl,j,rfl,hj⟩
   .grind
   refine⟨L1 ++ [.lp false (some j) N E ps asg body],by simp,by simp[k5],j,L1,?_,rfl⟩
   cases j<;>exact hj)
  (T a0 (Gs 0)++ [.lp true none N E ps asg body]) ⟨a0,hp,rfl⟩
 have hB1:B<=(c.put n0 (.cell H1.length)).base:=hB;refine EvC.zey g3 hrd ?_;rw[hH1];refine EvF.mono (hcall _ B _ _ r2 hB1 hrs) ?_;rintro cr h' ⟨c2,d,L',s3,r3,le3,hpost⟩;cases cr with
 | pan v=>exact hpost.2.elim
 | ret v=>
 obtain⟨hrd',L1,G,rfl,hL1,hP⟩:=hpost;have hscL:zdo (n0+1) L1:=by
  rcases hP with⟨i,a,_,rfl⟩| ⟨j,L2,hj,rfl⟩
  .exact zh2 (hsc a (Gs i) (hgs i)) ⟨hE,qds⟩
  exact zh2 (hR _ _ hj).2 ⟨hE,qds⟩
 obtain⟨c3,r4,_,s4,le4⟩:=zrk (v:=v) r3 (.any v) trivial (by rw[hL1]; exact hscL);rw[hL1]at le4;have hρ3:c3.ρ n0=some (.cell H1.length):=by
  obtain⟨y1,f1,f2⟩:=le3.ρ n0 _ hρ1;have:=zhx f2;subst this;obtain⟨y2,f3,f4⟩:=le4.ρ n0 _ (qbo _) f1;have:=zhx f4;subst this;exact f3
 have hstep4:Step c M.heap c3 h':=((s1.trans s2).trans s3).trans s4;have hMl:M.heap.length<=H1.length:=s1.len;have hfin:Step c M.heap c3 (h'.set H1.length .dead):=hstep4.kill hMl
 have hlek:c.leK n0 c3:=⟨λb cs hb=>le4.za b cs (le3.za b cs (le2.za b cs hb)),λb cs hb=>le4.zf b cs (le3.zf b cs (le2.zf b cs hb)),λβ y hβ hy=>by
  obtain⟨y1,v1,v2⟩:=le2.ρ β y hy;obtain⟨y2,v3,v4⟩:=le3.ρ β y1 v1;obtain⟨y3,v5,v6⟩:=le4.ρ β y2 (by omega) v3
  exact⟨y3,v5,(v2.trans v4).trans v6⟩⟩
 have hle:c.le c3:=⟨hlek.za,hlek.zf,λβ y hy=>hlek.ρ β y (by rw[<- hT0]; exact hr.heap.scope β y hy) hy,r4.apart⟩;have hdfs:ziM H0.length (zfY rd M) (h'.set H1.length .dead):=by
  have hold:ziM H0.length M.dfs (h'.set H1.length .dead):=hway.dfs.step hr.heap hfin;cases hrdc:rd with
  | some l=>exact hold
  | none=>
   obtain⟨l,e1,e2,e3⟩:=hold;obtain⟨l',e1',e2',e3'⟩:=hway.dfs;have hll:l=l':=by
    have:=e1.symm.trans e1';exact List.map_inj_right (λa b hab=>by injection hab)|>.1 this
   subst hll;refine⟨M.heap.length :: l,by simp[zfY,e1],qaR.2 ⟨λhmem=>?_,e2⟩,λd hdm=>?_⟩
   .have:=(qab.1 (e3' _ hmem).2).1;omega
   rcases qav.1 hdm with rfl | hdm
   .refine⟨hway.step.len,?_⟩;have hd1:=hdfr hrdc;have hlt:=(qab.1 hd1).1;rw[qaD (by omega)];have hd2:(H1 ++ [Ob.loop true none M.env ps asg body])[M.heap.length]? = some .dfr:=by rw[qar hlt]; exact hd1
    have hd3:h'[M.heap.length]? = some .dfr:=(s3.zgl _ (by simp; omega) (r2.dfr hd2)).trans hd2;exact hd3
   exact e3 d hdm
 have hway':Way k0 c0 H0 c3 ⟨M.env,zfY rd M,h'.set H1.length .dead⟩:=⟨hway.step.trans hfin,hway.le.trans ⟨hlek.za,hlek.zf,λβ y hβ hy=>hlek.ρ β y (by omega) hy⟩,hdfs⟩;have hB3:B<=c3.base:=by rw[hfin.base]; exact hB
 have hrel:∀(L2:List LB) st pend,L2.length=n0->L1=L2 ++ [.lp st pend N E ps asg body]->(∃ env,h'[H1.length]? = some (.loop st pend env ps asg body))/\Rel c3 ⟨N,E,L2 ++ [.lost]⟩ ⟨M.env,zfY rd M,h'.set H1.length .dead⟩:=by
  rintro L2 st pend hL2 rfl;obtain⟨b,env,w1,w2,_⟩:=r4.obj n0 _ (znu hL2);rw[hρ3]at w1;cases w1;refine⟨⟨env,w2⟩,⟨λj d hj=>by obtain⟨v,e1,e2⟩:=hr.env j d hj; exact⟨v,e1,e2.mono hle⟩,hr.len,?_⟩⟩;have:=r4.zuK (lb:=.lost) (ob:=.dead) hρ3 rfl λH' hH'=>⟨_,hρ3,hH'⟩
  rw[znw hL2]at this;exact this
 rcases hP with⟨i,a,hPa,rfl⟩| ⟨j,L2,hj,rfl⟩
 .obtain⟨⟨env,w1⟩,w2⟩:=hrel (T a (Gs i)) true none (hlen a _) rfl;exact⟨v,rfl,_,_,_,_,_,_,w1,.inl ⟨rfl,rfl,hk (T a (Gs i)) (hend a i hPa) c0 H0 c3 B rd _ hd hway' w2 hB3⟩⟩
 obtain⟨⟨env,w1⟩,w2⟩:=hrel L2 false (some j) (hR _ _ hj).1 rfl;refine⟨v,rfl,_,_,_,_,_,_,w1,.inr ⟨j,rfl,rfl,?_⟩⟩;cases j with
 | ret=>
  show(sem fns B rd (zuk k0 c0 H0 Q) (k.map (toM k0 c0 H0))).2 .ret _;rw[zqh];exact⟨c3,_,.ret,hway',w2,qds,hkr L2 hj⟩
 | exit id=>exact EvC.zfk (hke id L2 hj c0 H0 c3 B rd _ hd hway' w2 hB3)
end
end Go.Lx
namespace Go.Dc
open Go Go.Mx Go.Lx
variable{L:List LB}{n:Nat}
theorem zko(h:L.length=n)(X:List LB)(k:Nat):(L ++ X)[n+k]? = X[k]?:=by rw[qaV (by omega),h,qbL]
theorem znc(h:L.length=n)(X:List LB):(L ++ X)[n]? = X[0]?:=zko h X 0
theorem zse{κ:Nat}(h:L.length=n)(hκ:κ<n)(X:List LB):(L ++ X)[κ]? = L[κ]?:=qar (by omega)
theorem zrd(h:L.length=n)(X:List LB)(k:Nat)(x:LB):(L ++ X).set (n+k) x=L ++ X.set k x:=by rw[qbY _ _ (by omega),h,qbL]
theorem zrY(h:L.length=n)(X:List LB)(x:LB):(L ++ X).set n x=L ++ X.set 0 x:=zrd h X 0 x
theorem zyM{κ:Nat}(h:L.length=n)(hκ:κ<n)(X:List LB)(x:LB):(L ++ X).set κ x=L.set κ x ++ X:=qcA _ _ (by omega)
theorem zzU{cs l:List D}(h:l.length=cs.length):zpa cs 0 l=l:=by simp[zpa,h]
inductive AsgX (N:Nat):C->List (Nat×D)->Nat->List (Nat×D)->List LB->Prop
 | old {c E E1 n}:zx7 N c E=some E1->AsgX N c E n E1 []
 | box {dr bar:Bool} {d p k n:Nat} {z:List Value} {E:List (Nat×D)} {v:D} {l:List D}:d<N->d≠p->z.length=k->l.length=k->lk E p=some v->v.cells=some l ->
   AsgX N (.reg dr bar [⟨some d,.alloc z,none⟩,⟨none,.store k (.s d) (.s p),none⟩]) E n ((d,.ptr n 0):: E) [.cells l]
section
variable {m:Mach} {k0:Nat} {Q:LX->LSt->Prop}
variable{E:List (Nat×D)}
theorem zBH{N n:Nat}{c:C}{E1:List (Nat×D)}{L Gx:List LB}(h:AsgX N c E n E1 Gx)(hn:L.length=n):EvL m k0 [.code c] ⟨N,E,L⟩ λx S1=>x=.normal/\S1=⟨N,E1,L ++ Gx⟩:=by
 cases h with
 | old h=>
  rw[qaP];exact zxD h
 | @box dr bar d p k n z E v l h1 h2 h3 h4 h5 h6=>
  refine zad ?_;have e1:(l.length=k)=True:=eq_true h4;have e2:(0+k<=(z.map D.lit).length)=True:=eq_true (by rw[qak]; omega);have e3:zpa (z.map D.lit) 0 l=l:=zzU (by rw[qak]; omega);have e4:(d=p)=False:=eq_false h2;have e5:(d<N)=True:=eq_true h1;have e6:(k<=z.length)=True:=eq_true (by omega);have e7:List.drop l.length (z.map D.lit)=[]:=qbn (by rw[qak]; omega);simp only[rnA,Nat.reduceEqDiff,reduceIte,Nat.reduceLT,Nat.reduceAdd,Nat.reduceLeDiff,Nat.reduceMul,Nat.reduceSub,Int.reduceLE,Int.reduceLT,Int.reduceBEq,Nat.reduceBEq,reduceCtorEq,hn,znc hn,zrY hn,e1,e2,e3,e4,e5,e6,e7,h5,h6,qaP]
theorem EvL.zHy{ι γ:Type}{k:List K}{x:X}{ps:List Nat}{asg body bm:C}{gf:Nat}{first cap:List D}{xs:List ι}{Y:ι->Nat->List D->List LB->Prop}{N n0 κ:Nat}{Gs:Nat->LB}(hg:zHx m gf first cap xs Y κ Gs)(hx:evD E x=some (.clo gf first cap))(hbm:zdm false body=bm)(T:γ->LB->List LB)(P:Nat->γ->Prop)(R:LX->List LB->Prop)(a0:γ)(hκ:κ<n0)(hlen:∀ a g,(T a g).length=n0)(hget:∀ a g,(T a g)[κ]? = some g)(hset:∀ a g g',(T a g).set κ g'=T a g')(hgk:∀ i kp,LB.kin kp (Gs i))(hk0:k0<=n0)(hE:scE (n0+1) E)(hgs:∀ i n,LB.sc n (Gs i))(hsc:∀ a g,(∀ n,LB.sc n g)->zdo (n0+1) (T a g))(hR:∀ x L1,R x L1->L1.length=n0/\zdo (n0+1) L1)(hpan:∀ d L1,¬ R (.panic d) L1)(hp:P 0 a0)(hstep:∀ i a y args G lpF g,xs[i]? = some y->P i a->Y y (n0+1) args G->(∀ kp:Nat->Bool,(∀ b,b<n0+1->kp b=true)->LB.kin kp lpF)->(∀ kp,LB.kin kp g)->∃ E' E1 Gx,zzD N E ps args=some E'/\AsgX N asg E' (n0+1+G.length) E1 Gx /\
   EvL m (n0+1+G.length) [.code bm] ⟨N,E1,T a g ++ lpF ::(G ++ Gx)⟩ λx2 S2=>∃ L1,L1.length=n0/\zbi (n0+1+G.length) S2 ⟨S2.N,[],L1 ++ lpF :: G⟩/\(match x2 with | .normal=>∃ a',P (i+1) a'/\L1=T a' g | x2=>R x2 L1))(hend:∀ a i,P xs.length a->R .normal (T a (Gs i)))(hk:∀ L1,R .normal L1->EvL m k0 k ⟨N,E,L1 ++ [.lost]⟩ Q)(hke:∀ id L1,R (.exit id) L1->EvL m k0 (.ex id :: k) ⟨N,E,L1 ++ [.lost]⟩ Q)(hkr:∀ L1,R .ret L1->Q .ret ⟨N,E,L1 ++ [.lost]⟩):EvL m k0 (.code (.zey x ps asg body):: k) ⟨N,E,T a0 (Gs 0)⟩ Q:=by
 refine EvL.zE6 hx hg T P R a0 hκ hlen hget hset hk0 (zoC hE) hgs hsc hR hpan hp ?_ hend hk hke hkr;intro i a y args G hy hP hY;have hl:=hlen a (Gs i);obtain⟨E',E1,Gx,h1,h2,h3⟩:=hstep i a y args G (.lp false none N E ps asg body) (Gs i) hy hP hY (λkp hkp j d hj=>zpo hkp (zoC hE j d hj)) (hgk i)
 grind [EvL.mono,zBH,znw,EvL.zh0]
end
end Go.Dc
namespace Go.Dc
open Go Go.Mx Go.Lx
variable{n:Nat}
theorem zyp{kp:Nat->Bool}(hk:∀ b,b<n->kp b=true){b:LB}(h:b.sc n):LB.kin kp b:=by
 cases b with
 | cells ds=>exact zgu hk h
 | els n es=>exact λcells hc=>zgu hk (h cells hc)
 | grow n es=>exact λcells hc=>zgu hk (h cells hc)
 | gone=>trivial
 | lp st pend N E ps asg body=>exact λk d hd=>zpo hk (h k d hd)
 | lost=>trivial
def zeH(n:Nat)(aS:List Lx.Act):List Lx.Act:=List.replicate n .k ++ aS
variable{aS:List Lx.Act}
theorem zsq{β:Nat}(h:β<n):(zeH n aS)[β]? = some .k:=by
 grind [zeH]
variable{j:Nat}
theorem zmZ:(zeH n aS)[n+j]? = aS[j]?:=by
 grind [zeH]
theorem zfX{β:Nat}(h:β<n):isK (zeH n aS) β=true:=by unfold isK; rw[zsq h]
theorem zxv(h:aS[j]? = some .f):isF (zeH n aS) (n+j)=true:=by unfold isF; rw[zmZ,h]
theorem zwO(h:aS[0]? = some .f):isF (zeH n aS) n=true:=zxv (j:=0) h
theorem zFa(h:aS[j]? = some .k):isK (zeH n aS) (n+j)=true:=by unfold isK; rw[zmZ,h]
theorem MBs.of{L0:List LB}{aS:List Lx.Act}:∀ {i:Nat} {L L':List LB},L'.length<=L.length->(∀(j:Nat) b b',L[j]? = some b->L'[j]? = some b'->(match aS[i+j]? with | some .k=>MB L0 (isF aS) (isK aS) b b' | _=>b'=.gone))->MBs L0 aS i L L'
 | i,L,[],_,_=>by cases L<;>trivial
 | i,[],_ :: _,h,_=>by simp at h
 | i,b :: r,b' :: r',h,hb=>by
  refine⟨hb 0 b b' rfl rfl,MBs.of (by simpa using h) λj c c' h1 h2=>?_⟩;have:=hb (j+1) c c' (by simpa using h1) (by simpa using h2)
  grind
def MBx(L0:List LB)(F kp:Nat->Bool):List Lx.Act->List LB->List LB->Prop
 | _,_,[]=>True
 | .k :: aS,b :: r,b' :: r'=>MB L0 F kp b b'/\MBx L0 F kp aS r r'
 | .f :: aS,_ :: r,b' :: r'=>b'=.gone/\MBx L0 F kp aS r r'
 | .d :: aS,_ :: r,b' :: r'=>b'=.gone/\MBx L0 F kp aS r r'
 | _,_,_=>False
theorem MBx.get{L0:List LB}{F kp:Nat->Bool}:∀ {aS:List Lx.Act} {X Y:List LB},MBx L0 F kp aS X Y->Y.length<=X.length/\∀(j:Nat) b b',X[j]? = some b->Y[j]? = some b'->(match aS[j]? with | some .k=>MB L0 F kp b b' | _=>b'=.gone)
 | _,X,[],_=>⟨by simp,λj b b' _ h=>by simp at h⟩
 | .k :: aS,b :: r,b' :: r',h=>by
  obtain⟨h1,h2⟩:=MBx.get h.2
  grind [MBx]
 | .f :: aS,b :: r,b' :: r',h=>by
  obtain⟨h1,h2⟩:=MBx.get h.2
  grind [MBx]
 | .d :: aS,b :: r,b' :: r',h=>by
  obtain⟨h1,h2⟩:=MBx.get h.2
  grind [MBx]
 | [],_,_ :: _,h=>h.elim
 | .k :: _,[],_ :: _,h=>h.elim
 | .f :: _,[],_ :: _,h=>h.elim
 | .d :: _,[],_ :: _,h=>h.elim
variable{E:List (Nat×D)}{L:List LB}
theorem zbi.zBG{k0 N:Nat}{E':List (Nat×D)}{L1 X Y:List LB}(aS:List Lx.Act)(hn:L.length=n)(hk:k0<=n)(hl:L1.length=n)(hb:∀(j:Nat) b b',L[j]? = some b->L1[j]? = some b'->MB (L ++ X) (isF (zeH n aS)) (isK (zeH n aS)) b b')(hX:MBx (L ++ X) (isF (zeH n aS)) (isK (zeH n aS)) aS X Y)(hY:zjE aS Y.length=true)(hE:MEs (L ++ X) (zeH n aS) E E'):zbi k0 ⟨N,E,L ++ X⟩ ⟨N,E',L1 ++ Y⟩:=by
 obtain⟨g1,g2⟩:=hX.get;refine zbi.zeK (zeH n aS) (λβ h=>zfX (by omega)) (λβ h=>?_) hE (MBs.of (by rw[qaz,qaz]; omega) λj b b' h1 h2=>?_)
 .rw[qaz,hl];rcases qa0 β n with hβ | hβ
  .omega
  obtain⟨j,rfl⟩:∃ j,β=n+j:=⟨β - n,by omega⟩;have:isK aS j=true:=by
   grind [isK,zeH]
  have:=zha hY j this;omega
 rw[qaO];rcases qa0 j n with hj | hj
 .rw[zsq hj];rw[qar (by omega)]at h1 h2;exact hb j b b' h1 h2
 obtain⟨m,rfl⟩:∃ m,j=n+m:=⟨j - n,by omega⟩;rw[qaV (by omega),hn,qbL]at h1;rw[qaV (by omega),hl,qbL]at h2;rw[zmZ];exact g2 m b b' h1 h2
variable{L0:List LB}
theorem zmU(hsc:zdo n L):∀(j:Nat) b b',L[j]? = some b->L[j]? = some b'->MB L0 (isF (zeH n aS)) (isK (zeH n aS)) b b':=by
 intro j b b' h1 h2;rw[h1]at h2;cases h2;exact .same (zyp (λβ hβ=>zfX hβ) (zk6 hsc h1))
theorem zCh{κ:Nat}{g g':LB}(hsc:zdo n L)(hg:MB L0 (isF (zeH n aS)) (isK (zeH n aS)) g g'):∀(j:Nat) b b',(L.set κ g)[j]? = some b->(L.set κ g')[j]? = some b'->MB L0 (isF (zeH n aS)) (isK (zeH n aS)) b b':=by
 grind [zmU]
theorem zbi.pad{k0 N:Nat}{X:List LB}(hX:∀ b∈X,b=.gone):zbi k0 ⟨N,E,L⟩ ⟨N,E,L ++ X⟩:=by
 intro c M h;refine⟨c,⟨h.env,h.len,⟨h.heap.base,h.heap.za,h.heap.zf,h.heap.own,h.heap.inj,λβ x hx=>?_,λβ o ho=>?_⟩⟩,Step.refl _ _,Cx.leK.refl _ _⟩
 .have:=h.heap.scope β x hx
  grind
 rcases qa0 β L.length with hβ | hβ
 .rw[qar hβ]at ho;exact h.heap.obj β o ho
 rw[qaV hβ]at ho;rw[hX o (qaC ho)];show c.ρ β=none;cases hr:c.ρ β with
 | none=>rfl
 | some x=>have:=h.heap.scope β x hr; simp only at this; omega
end Go.Dc
