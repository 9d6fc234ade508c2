/-
 Trees: ranges over functions that keep a cell of their own between the rounds. Conditions: none.
-/
import Derived.Test.YtbjogdohfhdaiaaEkLy16
set_option linter.unusedSimpArgs false
set_option linter.unusedVariables false
namespace Go.Lx
open Go Go.Mx
section
variable {fns:Mach} {k0:Nat} {Q:LX→LSt→Prop} {c:Cx} {L:List LB} {S S':LSt} {M:St} {H:zas} {B:Nat} {rd:Option Nat} {bar top e:Bool}
theorem zg8{n:Nat}:∀ {A B:List LB},zcH n A→zcH n B→zcH n (A ++ B)
 | [],B,_,h=>h
 | a :: A,B,h1,h2=>⟨h1.1,zg8 h1.2 h2⟩
def ztG(fns:Mach)(gf:Nat)(first cap:List D){α:Type}(xs:List α)(Y:α→Nat→List D→List LB→Prop)(κ:Nat)(Gs:Nat→LB):Prop:=
 ∀(n0 β:Nat) (P:Nat→LB→List LB→Prop) (Ps:List LB→Prop),β<n0→κ<n0→κ≠β→(∀ i g L,P i g L→L.length=n0∧L[κ]? = some g∧((∀ n,LB.sc n g)→zcH n0 L))→(∀ i g g' L,P i g L→P i g' (L.set κ g'))→
  (∀ i x L args G,xs[i]? = some x→P i (Gs i) L→Y x n0 args G→ziK fns β args (L ++ G) fun b L'=>∃ L1,L'=L1 ++ G∧L1.length=n0∧(match b with | true=>P (i+1) (Gs i) L1 | false=>Ps L1))→
  ∀ L,P 0 (Gs 0) L→zdD fns false gf (first ++ [.yld β]++ cap) L (fun _ L'=>∃ L1 G,L'=L1 ++ G∧L1.length=n0∧((∃ i,P xs.length (Gs i) L1)∨Ps L1)) (fun _ _=>False)
theorem EvL.zsH{α γ:Type}{k:List K}{x:X}{ps:List Nat}{asg body:C}{gf:Nat}{first cap:List D}{xs:List α}{Y:α→Nat→List D→List LB→Prop}{N n0 κ:Nat}{Gs:Nat→LB}{E:List (Nat×D)}
  (hx:evD E x=some (.clo gf first cap)) (hg:ztG fns gf first cap xs Y κ Gs) (T:γ→LB→List LB) (P:Nat→γ→Prop) (R:LX→List LB→Prop) (a0:γ)
  (hκ:κ<n0) (hlen:∀ a g,(T a g).length=n0) (hget:∀ a g,(T a g)[κ]? = some g) (hset:∀ a g g',(T a g).set κ g'=T a g') (hk0:k0≤n0) (hE:∀ k d,lk E k=some d→d.sc (n0+1)) (hgs:∀ i n,LB.sc n (Gs i)) (hsc:∀ a g,(∀ n,LB.sc n g)→zcH (n0+1) (T a g)) (hR:∀ x L1,R x L1→L1.length=n0∧zcH (n0+1) L1) (hpan:∀ d L1,¬ R (.panic d) L1)
  (hp:P 0 a0)
  (hstep:∀ i a y args G,xs[i]? = some y→P i a→Y y (n0+1) args G→∃ E',zqw N E ps args=some E' ∧
   EvL fns (n0+1+G.length) [.code asg] ⟨N,E',T a (Gs i)++ .lp true none N E ps asg body :: G⟩ fun x S1=>x=.normal∧S1.N=N∧S1.heap[n0]? = some (.lp true none N E ps asg body)∧
    EvL fns (n0+1+G.length) [.code body] ⟨N,S1.env,S1.heap.set n0 (.lp false none N E ps asg body)⟩ fun x2 S2=>∃ L1,L1.length=n0∧zaV (n0+1+G.length) S2 ⟨S2.N,[],L1 ++ .lp false none N E ps asg body :: G⟩∧(match x2 with | .normal=>∃ a',P (i+1) a'∧L1=T a' (Gs i)| x2=>R x2 L1))
  (hend:∀ a i,P xs.length a→R .normal (T a (Gs i)))
  (hk:∀ L1,R .normal L1→EvL fns k0 k ⟨N,E,L1 ++ [.lost]⟩ Q)
  (hke:∀ id L1,R (.exit id) L1→EvL fns k0 (.ex id :: k) ⟨N,E,L1 ++ [.lost]⟩ Q)
  (hkr:∀ L1,R .ret L1→Q .ret ⟨N,E,L1 ++ [.lost]⟩):EvL fns k0 (.code (.zem x ps asg body):: k) ⟨N,E,T a0 (Gs 0)⟩ Q:=by
 intro c0 H0 c B rd M hd hway hr hB;obtain⟨u,g3,g4⟩:=zaf hr hx;cases g4 with
 | clo q1 q2 q3 q4=>
 rename_i us ws;have hrd:zpO rd M.heap=true:=by
  cases rd with
  | none=>rfl
  | some l=>
   obtain⟨_,_,_,_,_,_,h9⟩:=hway.step.lp l (hd l rfl);simp[zpO,h9]
 have hT0:=hlen a0 (Gs 0);obtain⟨H1,hH1,r1,s1,hdfr⟩:∃ H1,zcl rd M=H1∧RelH c (T a0 (Gs 0)) H1∧Step c M.heap c H1∧(rd=none→H1[M.heap.length]? = some .dfr):=by
  cases rd with
  | none=>
   obtain⟨h1,h2⟩:=hr.heap.pad .dfr;exact⟨_,rfl,h1,h2,fun _=>by show(M.heap ++ [Ob.dfr])[M.heap.length]? = some .dfr; rw[qam (qae _)]; simp⟩
  | some l=>exact⟨_,rfl,hr.heap,Step.refl _ _,fun h=>by cases h⟩
 have henv:zck c E M.env:=hr.env;obtain⟨r2,s2,le2⟩:=r1.ztK (x:=.cell H1.length) (lb:=.lp true none N E ps asg body) (ob:=.loop true none M.env ps asg body) rfl
  fun c' hle hρ=>⟨H1.length,M.env,hρ,by simp,hr.len,henv.mono hle⟩
 rw[hT0]at r2 s2 le2;have hρ1:(c.put n0 (.cell H1.length)).ρ n0=some (.cell H1.length):=zaA _ _ _;have hrs:Rs (c.put n0 (.cell H1.length)) (first ++ [.yld n0]++ cap) (us ++ [.yld H1.length]++ ws):=
  (Rs.append (Rs.mono ⟨q1,q3⟩ le2) ((Rs.nil _).cons (.yld hρ1))).append (Rs.mono ⟨q2,q4⟩ le2)
 have hcall:=hg (n0+1) n0 (fun i g L=>∃ a,P i a∧L=T a g ++ [.lp true none N E ps asg body]) (fun L=>∃ j L1,R (zmM j) L1∧L=L1 ++ [.lp false (some j) N E ps asg body]) (qa5 _) (Nat.lt_succ_of_lt hκ) (Nat.ne_of_lt hκ)
  (fun i g L ⟨a,_,h⟩=>by rw[h]; exact⟨by simp[hlen a g],by rw[qaj (by rw[hlen a g]; exact hκ)]; exact hget a g,fun hg=>zg8 (hsc a g hg) ⟨hE,qb1⟩⟩)
  (fun i g g' L ⟨a,hP,h⟩=>⟨a,hP,by rw[h,List.set_append_left _ _ (by rw[hlen a g]; exact hκ),hset]⟩) (by
   rintro i y L args G hy ⟨a,hPa,rfl⟩ hY;obtain⟨E',hs,hev⟩:=hstep i a y args G hy hPa hY;have hround:=ziK.of (RQ:=fun x2 L1=>match x2 with | .normal=>∃ a',P (i+1) a'∧L1=T a' (Gs i)| x2=>R x2 L1) (hlen a (Gs i)) hs hpan hev;rw[qa7,qbs];intro c B H l vs hH hB hρ hr;obtain⟨Nn,b,h',k1,c',L',k2,k3,k4,L1,k5,k6⟩:=hround c B H l vs hH hB hρ hr;refine⟨Nn,b,h',k1,c',L',k2,k3,k4,?_⟩;rcases k6 with⟨rfl,rfl,a',hPa',rfl⟩| ⟨rfl,j,rfl,hj⟩
   ·exact⟨T a' (Gs i)++ [.lp true none N E ps asg body],by simp,by simp[k5],a',hPa',rfl⟩
   refine⟨L1 ++ [.lp false (some j) N E ps asg body],by simp,by simp[k5],j,L1,?_,rfl⟩
   cases j<;>exact hj)
  (T a0 (Gs 0)++ [.lp true none N E ps asg body]) ⟨a0,hp,rfl⟩
 have hB1:B≤(c.put n0 (.cell H1.length)).base:=hB;refine EvC.zem g3 hrd ?_;rw[hH1];refine EvF.mono (hcall _ B _ _ r2 hB1 hrs) ?_;rintro cr h' ⟨c2,d,L',s3,r3,le3,hpost⟩;cases cr with
 | pan v=>exact hpost.2.elim
 | ret v=>
 obtain⟨hrd',L1,G,rfl,hL1,hP⟩:=hpost;have hscL:zcH (n0+1) L1:=by
  rcases hP with⟨i,a,_,rfl⟩| ⟨j,L2,hj,rfl⟩
  ·exact zg8 (hsc a (Gs i) (hgs i)) ⟨hE,qb1⟩
  exact zg8 (hR _ _ hj).2 ⟨hE,qb1⟩
 obtain⟨c3,r4,_,s4,le4⟩:=zpg (v:=v) r3 (.any v) trivial (by rw[hL1]; exact hscL);rw[hL1]at le4;have hρ3:c3.ρ n0=some (.cell H1.length):=by
  obtain⟨y1,f1,f2⟩:=le3.ρ n0 _ hρ1;have:=zgt f2;subst this;obtain⟨y2,f3,f4⟩:=le4.ρ n0 _ (qa5 _) f1;have:=zgt f4;subst this;exact f3
 have hstep4:Step c M.heap c3 h':=((s1.trans s2).trans s3).trans s4;have hMl:M.heap.length≤H1.length:=s1.len;have hfin:Step c M.heap c3 (h'.set H1.length .dead):=hstep4.kill hMl
 have hlek:c.leK n0 c3:=⟨fun b cs hb=>le4.za b cs (le3.za b cs (le2.za b cs hb)),fun b cs hb=>le4.zf b cs (le3.zf b cs (le2.zf b cs hb)),fun β y hβ hy=>by
  obtain⟨y1,v1,v2⟩:=le2.ρ β y hy;obtain⟨y2,v3,v4⟩:=le3.ρ β y1 v1;obtain⟨y3,v5,v6⟩:=le4.ρ β y2 (by omega) v3
  exact⟨y3,v5,(v2.trans v4).trans v6⟩⟩
 have hle:c.le c3:=⟨hlek.za,hlek.zf,fun β y hy=>hlek.ρ β y (by rw[← hT0]; exact hr.heap.scope β y hy) hy,r4.apart⟩;have hdfs:zhk H0.length (zgv rd M) (h'.set H1.length .dead):=by
  have hold:zhk H0.length M.dfs (h'.set H1.length .dead):=hway.dfs.step hr.heap hfin;cases hrdc:rd with
  | some l=>exact hold
  | none=>
   obtain⟨l,e1,e2,e3⟩:=hold;obtain⟨l',e1',e2',e3'⟩:=hway.dfs;have hll:l=l':=by
    have:=e1.symm.trans e1';exact List.map_inj_right (fun a b hab=>by injection hab)|>.1 this
   subst hll;refine⟨M.heap.length :: l,by simp[zgv,e1],qb0.2 ⟨fun hmem=>?_,e2⟩,fun d hdm=>?_⟩
   ·have:=(qab.1 (e3' _ hmem).2).1;omega
   rcases qa0.1 hdm with rfl | hdm
   ·refine⟨hway.step.len,?_⟩;have hd1:=hdfr hrdc;have hlt:=(qab.1 hd1).1;rw[qak (by omega)];have hd2:(H1 ++ [Ob.loop true none M.env ps asg body])[M.heap.length]? = some .dfr:=by rw[qaj hlt]; exact hd1
    have hd3:h'[M.heap.length]? = some .dfr:=(s3.zfF _ (by simp; omega) (r2.dfr hd2)).trans hd2;exact hd3
   exact e3 d hdm
 have hway':Way k0 c0 H0 c3 ⟨M.env,zgv rd M,h'.set H1.length .dead⟩:=⟨hway.step.trans hfin,hway.le.trans ⟨hlek.za,hlek.zf,fun β y hβ hy=>hlek.ρ β y (by omega) hy⟩,hdfs⟩;have hB3:B≤c3.base:=by rw[hfin.base]; exact hB
 have hrel:∀(L2:List LB) st pend,L2.length=n0→L1=L2 ++ [.lp st pend N E ps asg body]→(∃ env,h'[H1.length]? = some (.loop st pend env ps asg body))∧Rel c3 ⟨N,E,L2 ++ [.lost]⟩ ⟨M.env,zgv rd M,h'.set H1.length .dead⟩:=by
  rintro L2 st pend hL2 rfl;obtain⟨b,env,w1,w2,_⟩:=r4.obj n0 _ (zhi hL2);rw[hρ3]at w1;cases w1;refine⟨⟨env,w2⟩,⟨fun j d hj=>by obtain⟨v,e1,e2⟩:=hr.env j d hj; exact⟨v,e1,e2.mono hle⟩,hr.len,?_⟩⟩;have:=r4.zoX (lb:=.lost) (ob:=.dead) hρ3 rfl fun H' hH'=>⟨_,hρ3,hH'⟩
  rw[ziD hL2]at this;exact this
 rcases hP with⟨i,a,hPa,rfl⟩| ⟨j,L2,hj,rfl⟩
 ·obtain⟨⟨env,w1⟩,w2⟩:=hrel (T a (Gs i)) true none (hlen a _) rfl;exact⟨v,rfl,_,_,_,_,_,_,w1,.inl ⟨rfl,rfl,hk (T a (Gs i)) (hend a i hPa) c0 H0 c3 B rd _ hd hway' w2 hB3⟩⟩
 obtain⟨⟨env,w1⟩,w2⟩:=hrel L2 false (some j) (hR _ _ hj).1 rfl;refine⟨v,rfl,_,_,_,_,_,_,w1,.inr ⟨j,rfl,rfl,?_⟩⟩;cases j with
 | ret=>
  show(sem fns B rd (znB k0 c0 H0 Q) (k.map (toM k0 c0 H0))).2 .ret _;rw[zmB];exact⟨c3,_,.ret,hway',w2,qb1,hkr L2 hj⟩
 | exit id=>exact EvC.zey (hke id L2 hj c0 H0 c3 B rd _ hd hway' w2 hB3)
end
end Go.Lx
