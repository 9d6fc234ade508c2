/-
 Trees: ranges over functions. A generator by the list of what it yields; a round; the loop over it. Conditions: none.
-/
import Derived.Test.YtbjogdohfhdaiaaGreatErJ30
set_option linter.unusedSimpArgs false
set_option linter.unusedVariables false
namespace Go.Lx
open Go Go.Mx
section
variable {m:Mach} {B:Nat} {rd:Option Nat}
theorem zu0(S:St)(d:Option Nat)(v:V):(S.put d v).dfs=S.dfs:=by cases d<;>rfl
theorem zmi{r:Rec}{bar e:Bool}:∀ {l:List O} {S S':St} {ex:Ex},zbg r B bar false e l S=some (ex,S')->S'.dfs=S.dfs
 | [],S,S',ex,h=>by
  grind [zbg]
 | o :: l,S,S',ex,h=>by
  have ih:∀ {S1:St},zbg r B bar false e l S1=some (ex,S')->S1.dfs=S.dfs->S'.dfs=S.dfs:=λh1 h2=>(zmi h1).trans h2
  have fin:∀ {x:Option (CR×zam)},zpM e o S x (zbg r B bar false e l)=some (ex,S')->S'.dfs=S.dfs:=by
   intro x hx;unfold zpM at hx
   grind [zu0]
  grind [zbg,zdv,zu0]
variable{l:Nat}
theorem zzS:∀(n:Nat) (c:C) (S S':St) (ex:Ex),exec (m.run n) B (some l) c S=some (ex,S')->S'.dfs=S.dfs:=by
 have one:∀ {S S':St} {ex ex':Ex},some (ex',S)=some (ex,S')->S'.dfs=S.dfs:=by
  simp_all
 have key:∀ n,(∀(c:C) (S S':St) (ex:Ex),(m.run n).code B (some l) c S=some (ex,S')->S'.dfs=S.dfs)->∀(c:C) (S S':St) (ex:Ex),exec (m.run n) B (some l) c S=some (ex,S')->S'.dfs=S.dfs:=by
  intro n hc c;induction c with
  | skip=>intro S S' ex h; exact one h
  | label t=>intro S S' ex h; exact one h
  | reg dr bar os=>intro S S' ex h; exact zmi h
  | seq a b iha ihb=>
   grind [exec]
  | cond x a b iha ihb=>
   grind [exec]
  | block id c ih=>
   grind [exec]
  | loop c ih=>
   grind [exec]
  | scope c ih=>intro S S' ex h; exact ih _ _ _ h
  | exit id=>intro S S' ex h; exact one h
  | ret=>intro S S' ex h; exact one h
  | zey x ps asg body _ _=>
   intro S S' ex h;simp only[exec]at h
   grind [Go.Mx.zfY]
  | bad=>intro S S' ex h; cases h
 intro n;induction n with
 | zero=>exact key 0 λc S S' ex h=>(by cases h)
 | succ n ih=>exact key (n+1) λc S S' ex h=>ih c S S' ex h
theorem EvC.dfs{c:C}{S:St}{Q:Ex->St->Prop}(h:EvC m B (some l) c S Q):EvC m B (some l) c S λex S'=>Q ex S'/\S'.dfs=S.dfs:=by
 obtain⟨N,ex,S',h1,h2⟩:=h;exact⟨N,ex,S',h1,h2,zzS N c S S' ex (h1 N (qap _))⟩
variable{ps:List Nat}
theorem EvC.zey{x:X}{asg body:C}{S:St}{Q:Ex->St->Prop}{gf:Nat}{first cap:List V}(hx:ev S.env x=some (.clo gf first cap))(hrd:zuh rd S.heap=true)(h:EvF m B gf (first ++ [.yld (zca rd S).length]++ cap) (zca rd S ++ [.loop true none S.env ps asg body]) λcr h'=>∃ v,cr=.ret v/\∃ st pend e1 p1 a1 b1,h'[(zca rd S).length]? = some (.loop st pend e1 p1 a1 b1)/\
   ((st=true/\pend=none/\Q .normal ⟨S.env,zfY rd S,h'.set (zca rd S).length .dead⟩)\/∃ j,st=false/\pend=some j/\Q (zvE j) ⟨S.env,zfY rd S,h'.set (zca rd S).length .dead⟩)):
  EvC m B rd (.zey x ps asg body) S Q:=by
 obtain⟨N,cr,h',h1,v,rfl,st,pend,e1,p1,a1,b1,h2,h3⟩:=h;rcases h3 with⟨rfl,rfl,h3⟩| ⟨j,rfl,rfl,h3⟩
 .refine⟨N,_,_,λn hn=>?_,h3⟩<;> grind [exec]
 refine⟨N,_,_,λn hn=>?_,h3⟩<;> grind [exec]
theorem zzo{vs:List V}{H:zam}{env env':List V}{asg body:C}{QR:Bool->zam->Prop}(hl:H[l]? = some (.loop true none env ps asg body))(hB:Nat.ble B l=true)(hs:zgd env ps vs=some env')(h:EvC m B (some l) asg ⟨env',[],H⟩ λex M1=>ex=.normal/\∃ e1 p1 a1 b1,M1.heap[l]? = some (.loop true none e1 p1 a1 b1)/\
   EvC m B (some l) body ⟨M1.env,[],M1.heap.set l (.loop false none e1 p1 a1 b1)⟩ λex2 M2=>∃ st2 pend2 e2 p2 a2 b2,M2.heap[l]? = some (.loop st2 pend2 e2 p2 a2 b2)/\match ex2 with
    | .normal=>QR true (M2.heap.set l (.loop true none e2 p2 a2 b2))
    | .ret=>QR false (M2.heap.set l (.loop false (some .ret) e2 p2 a2 b2))
    | .exit id=>QR false (M2.heap.set l (.loop false (some (.exit id)) e2 p2 a2 b2))
    | .panic _ _=>False):
  ∃ N b h',(∀ n,N<=n->round (m.run n) B l vs H=some (.ret (.lit (.bool b)),h'))/\QR b h':=by
 obtain⟨N1,ex1,M1,k1,⟨rfl,e1,p1,a1,b1,k2,k3⟩,k4⟩:=EvC.dfs h;obtain⟨N2,ex2,M2,g1,⟨st2,pend2,e2,p2,a2,b2,g2,g3⟩,g4⟩:=EvC.dfs k3;obtain⟨env1,dfs1,h1⟩:=M1;obtain⟨env2,dfs2,h2⟩:=M2;simp only at k2 k3 k4 g1 g2 g3 g4;subst k4;subst g4;have run:∀ n,max N1 N2+1<=n->round (m.run n) B l vs H=zco l (some (ex2,⟨env2,[],h2⟩)):=by
  intro n hn;obtain⟨n,rfl⟩:∃ k,n=k+1:=⟨n - 1,by omega⟩;have c1:(m.run (n+1)).code B (some l) asg ⟨env',[],H⟩=some (.normal,⟨env1,[],h1⟩):=k1 n (by omega);have c2:(m.run (n+1)).code B (some l) body ⟨env1,[],h1.set l (.loop false none e1 p1 a1 b1)⟩=some (ex2,⟨env2,[],h2⟩):=g1 n (by omega)
  grind [round]
 cases ex2 with
 | normal=>exact⟨max N1 N2+1,_,_,λn hn=>by rw[run n hn]; simp only[zco,zeQ,g2,qbe],g3⟩
 | ret=>exact⟨max N1 N2+1,_,_,λn hn=>by rw[run n hn]; simp only[zco,zeQ,g2,qbe],g3⟩
 | exit id=>exact⟨max N1 N2+1,_,_,λn hn=>by rw[run n hn]; simp only[zco,zeQ,g2,qbe],g3⟩
 | panic v e=>exact g3.elim
end
section
variable {fns:Mach} {k0:Nat} {Q:LX->LSt->Prop} {c:Cx} {L:List LB} {S S':LSt} {M:St} {H:zam} {B:Nat} {rd:Option Nat} {bar top e:Bool}
theorem RelH.zHK(h:RelH c L H){x:Lc}{lb:LB}{ob:Ob}(hx:x.blk=some H.length)
  (hb:∀ c',c.le c'->c'.ρ L.length=some x->ze4 c' (H ++ [ob]) L.length lb):
  RelH (c.put L.length x) (L ++ [lb]) (H ++ [ob])/\Step c H (c.put L.length x) (H ++ [ob])/\c.le (c.put L.length x):=by
 have hne:∀ β y,c.ρ β=some y->β≠L.length:=λβ y hy=>Nat.ne_of_lt (h.scope β y hy)
 have hle:c.le (c.put L.length x):=⟨λ_ _ h=>h,λ_ _ h=>h,λβ y hy=>⟨y,by rw[zjy c x (hne β y hy)]; exact hy,Lc.up.refl y⟩,h.apart⟩;have hgrow:∀ b,b<H.length->(H ++ [ob])[b]? = H[b]?:=λb hb=>qar hb
 have hblk:∀ b,x.blk=some b->b=H.length/\H.length<(H ++ [ob]).length:=by
  simp_all
 refine⟨⟨?_,?_,?_,?_,?_,?_,?_⟩,⟨by simp,rfl,rfl,λ_ _ h=>h,λb hb' _=>hgrow b hb',?_,λb hb'=>hb'.zgl (hgrow b hb'.lt)⟩,hle⟩
 .grind [Go.Lx.Cx.put,Go.Lx.RelH]
 .intro b cs hz;obtain⟨h1,h2⟩:=h.za b cs hz
  grind [Go.Lx.Cx.put]
 .grind [Go.Lx.Cx.put,Go.Lx.RelH]
 .intro β y b hy hyb;by_cases hβ:β=L.length
  .subst hβ;rw[zbd]at hy;cases hy;obtain⟨rfl,h2⟩:=hblk b hyb;refine⟨h.base,h2,?_⟩;cases hz:c.zf H.length with
   | none=>exact hz
   | some cs=>grind [Go.Lx.RelH]
  grind [Go.Lx.Cx.put,Go.Lx.RelH]
 .grind [Go.Lx.Cx.put,Go.Lx.RelH]
 .grind [Go.Lx.Cx.put,Go.Lx.RelH]
 .intro β lb' hlb;by_cases hβ:β<L.length
  .rw[qar hβ]at hlb;refine(h.obj β lb' hlb).mono hle (zjy c x (by omega)) λy b hy hyb=>hgrow b (h.own β y b hy hyb).2.1
  grind [zbd]
 grind [zbd,zjy]
theorem RelH.pad(h:RelH c L H)(ob:Ob):RelH c L (H ++ [ob])/\Step c H c (H ++ [ob]):=by
 have hgrow:∀ b,b<H.length->(H ++ [ob])[b]? = H[b]?:=λb hb=>qar hb
 refine⟨⟨?_,?_,?_,?_,h.inj,h.scope,?_⟩,⟨by simp,rfl,rfl,λ_ _ h=>h,λb hb' _=>hgrow b hb',λβ x b hx hb=>.inl ⟨β,x,hx,hb⟩,λb hb'=>hb'.zgl (hgrow b hb'.lt)⟩⟩
 .grind [Go.Lx.RelH]
 .grind [Go.Lx.RelH]
 .grind [Go.Lx.RelH]
 .grind [Go.Lx.RelH]
 intro β lb' hlb;exact(h.obj β lb' hlb).mono ⟨λ_ _ h=>h,λ_ _ h=>h,λβ y hy=>⟨y,hy,Lc.up.refl y⟩,h.apart⟩ rfl λy b hy hyb=>hgrow b (h.own β y b hy hyb).2.1
variable{b:Nat}
theorem RelH.zuK(h:RelH c L H){β:Nat}{x:Lc}(hx:c.ρ β=some x)(hxb:x.blk=some b){lb:LB}{ob:Ob}(hb:∀ H':zam,H'[b]? = some ob->ze4 c H' β lb):
  RelH c (L.set β lb) (H.set b ob):=by
 obtain⟨o1,o2,o3⟩:=h.own β x b hx hxb;have hself:(H.set b ob)[b]? = some ob:=by rw[qa1 o2]
 refine⟨by rw[qaw]; exact h.base,?_,?_,?_,h.inj,?_,?_⟩
 .grind [Go.Lx.RelH]
 .grind [Go.Lx.RelH]
 .grind [Go.Lx.RelH]
 .grind [Go.Lx.RelH]
 intro β' lb' hlb;by_cases hβ:β=β'
 .grind
 rw[qaD hβ]at hlb;refine(h.obj β' lb' hlb).mono ⟨λ_ _ h=>h,λ_ _ h=>h,λβ y hy=>⟨y,hy,Lc.up.refl y⟩,h.apart⟩ rfl λy b' hy hyb=>?_
 grind [Go.Lx.RelH]
variable{E:List (Nat×D)}{ps:List Nat}
theorem RelH.zFE(h:RelH c L H){β:Nat}{st:Bool}{pend:Option Jump}{N:Nat}{asg body:C}(hL:L[β]? = some (.lp st pend N E ps asg body))(hβ:c.ρ β=some (.cell b))(st':Bool)(pend':Option Jump):
  ∃ env,H[b]? = some (.loop st pend env ps asg body)/\env.length=N/\zcq c E env/\RelH c (L.set β (.lp st' pend' N E ps asg body)) (H.set b (.loop st' pend' env ps asg body))/\Step c H c (H.set b (.loop st' pend' env ps asg body)):=by
 obtain⟨b',env,h1,h2,h3,h4⟩:=h.obj β _ hL;rw[hβ]at h1;cases h1;refine⟨env,h2,h3,h4,h.zuK hβ rfl λH' hH'=>⟨b,env,hβ,hH',h3,h4⟩,⟨by simp,rfl,rfl,λ_ _ h=>h,?_,λβ' y b' hy hyb=>.inl ⟨β',y,hy,hyb⟩,λb' hb'=>?_⟩⟩
 .grind [Go.Lx.Lc.blk]
 grind [Go.Lx.ztp]
theorem Step.kill{c':Cx}{H':zam}{l:Nat}{o:Ob}(h:Step c H c' H')(hl:H.length<=l):Step c H c' (H'.set l o):=
 ⟨by rw[qaw]; exact h.len,h.za,h.base,h.zf,λb hb hn=>by rw[qaD (by omega)]; exact h.zgl b hb hn,h.own,λb hb=>(h.lp b hb).zgl (qaD (by have:=hb.lt; omega))⟩
def zks(fns:Mach)(β:Nat)(args:List D)(L:List LB)(Q:Bool->List LB->Prop):Prop:=
 ∀(c:Cx) (B:Nat) (H:zam) (l:Nat) (vs:List V),RelH c L H->B<=c.base->c.ρ β=some (.cell l)->Rs c args vs ->
  ∃ N b h',(∀ n,N<=n->round (fns.run n) B l vs H=some (.ret (.lit (.bool b)),h'))/\∃ c' L',Step c H c' h'/\RelH c' L' h'/\c.le c'/\Q b L'
variable{QM:Ex->St->Prop}
theorem EvO.yield{S:St}{o:O}{l:List O}{x:X}{xs:List X}{vs:List V}(hw:wanted S.env o.g=true)(hi:o.i=.zd8 x xs)(hx:ev S.env x=some (.yld b))(hv:evs S.env xs=some vs)(h:∃ N t h',(∀ n,N<=n->round (fns.run n) B b vs S.heap=some (.ret (.lit (.bool t)),h'))/\EvO fns B false top e l ({ S with heap:=h' }.put o.dst (.lit (.bool t))) QM):EvO fns B false top e (o :: l) S QM:=by
 obtain⟨N,t,h',h1,N2,ex,S',h3,h4⟩:=h;refine⟨max N N2,ex,S',λn hn=>?_,h4⟩<;> grind [zbg,zdv,zno,zpM]
theorem EvL.yield{k:List K}{d:Option Nat}{x:X}{xs:List X}{g:Option (Nat×Bool)}{l:List O}{ds:List D}{β:Nat}{Qr:Bool->List LB->Prop}(hw:zbB S.env g=some true)(hf:evD S.env x=some (.yld β))(hx:zhj S.env xs=some ds)
  (hc:zks fns β ds S.heap Qr)
  (hk:∀ b L',Qr b L'->wp fns k0 (.ops false e l :: k) (LSt.put ⟨S.N,S.env,L'⟩ d (.lit (.bool b))) Q):EvL fns k0 (.ops false e (⟨d,.zd8 x xs,g⟩:: l):: k) S Q:=by
 intro c0 H0 c B rd M hd hway hr hB;obtain⟨vs,g1,g2⟩:=zcJ hr hx;obtain⟨u,g3,g4⟩:=zae hr hf;cases g4 with
 | yld q1=>
  obtain⟨N,t,h',k1,c',L',h1,h2,h3,h4⟩:=hc c B M.heap _ vs hr.heap hB q1 g2;refine EvO.yield (zcZ hr hw) rfl g3 g1 ⟨N,t,h',k1,?_⟩;have hk':=hk t L' h4;cases hs:LSt.put ⟨S.N,S.env,L'⟩ d (.lit (.bool t))with
  | none=>rw[hs,wp]at hk'; exact hk'.elim
  | some S1=>
   rw[hs]at hk';exact zad hk' c0 H0 c' B rd _ hd (by cases d<;>exact hway.go h1 h3 hr.heap rfl) (zeB hr h3 h2 (.lit _) hs) (by rw[h1.base]; exact hB)
def Gen(fns:Mach)(gf:Nat)(first cap:List D){α:Type}(xs:List α)(Y:α->Nat->List D->List LB->Prop):Prop:=
 ∀(n0 β:Nat) (P:Nat->List LB->Prop) (Ps:List LB->Prop),β<n0->(∀ i L,P i L->L.length=n0)->
  (∀ i x L args G,xs[i]? = some x->P i L->Y x n0 args G->zks fns β args (L ++ G) λb L'=>∃ L1,L'=L1 ++ G/\L1.length=n0/\(match b with | true=>P (i+1) L1 | false=>Ps L1))->
  ∀ L,P 0 L->zdD fns false gf (first ++ [.yld β]++ cap) L (λ_ L'=>∃ L1 G,L'=L1 ++ G/\L1.length=n0/\(P xs.length L1\/Ps L1)) (λ_ _=>False)
def zzD(N:Nat)(E:List (Nat×D)):List Nat->List D->Option (List (Nat×D))
 | [],[]=>some E
 | p :: ps,d :: ds=>if p<N then zzD N ((p,d):: E) ps ds else none
 | _,_=>none
theorem zlK{N:Nat}:∀ {ps:List Nat} {ds:List D} {vs:List V} {E E':List (Nat×D)} {env:List V},zzD N E ps ds=some E'->zcq c E env->env.length=N->Rs c ds vs->∃ env',zgd env ps vs=some env'/\zcq c E' env'/\env'.length=N
 | [],[],vs,E,E',env,h,hE,hN,hr=>by
  grind [zzD,Go.Mx.zgd,Go.Lx.Rs]
 | p :: ps,d :: ds,vs,E,E',env,h,hE,hN,hr=>by
  obtain⟨v,vs',rfl,h1,h2⟩:=hr.inv;simp only[zzD]at h;split at h
  .rename_i hp;refine zlK h (env:=env.set p v) (λk d' hk=>?_) (by simpa using hN) h2
   grind [lk,Go.Lx.zcq]
  .cases h
 | [],_ :: _,_,_,_,_,h,_,_,_=>by cases h
 | _ :: _,[],_,_,_,_,h,_,_,_=>by cases h
def zsK:Jump->LX
 | .ret=>.ret
 | .exit id=>.exit id
theorem zhx{x:Lc}(h:(Lc.cell b).up x):x=.cell b:=by cases h; rfl
theorem znu{α:Type}{A B:List α}{x:α}{n:Nat}(h:A.length=n):(A ++ x :: B)[n]? = some x:=by subst h; simp
theorem znw{α:Type}{A B:List α}{x y:α}{n:Nat}(h:A.length=n):(A ++ x :: B).set n y=A ++ y :: B:=by subst h; simp
theorem zks.of{n0 N:Nat}{T0:List LB}{E':List (Nat×D)}{asg body:C}{args:List D}{G:List LB}{RQ:LX->List LB->Prop}(hT:T0.length=n0)(hs:zzD N E ps args=some E')(hpan:∀ d L1,¬ RQ (.panic d) L1)(h:EvL fns (n0+1+G.length) [.code asg] ⟨N,E',T0 ++ .lp true none N E ps asg body :: G⟩ λx S1=>x=.normal/\S1.N=N/\S1.heap[n0]? = some (.lp true none N E ps asg body)/\
   EvL fns (n0+1+G.length) [.code body] ⟨N,S1.env,S1.heap.set n0 (.lp false none N E ps asg body)⟩ λx2 S2=>∃ L1,L1.length=n0/\zbi (n0+1+G.length) S2 ⟨S2.N,[],L1 ++ .lp false none N E ps asg body :: G⟩/\RQ x2 L1):
  zks fns n0 args (T0 ++ .lp true none N E ps asg body :: G) λb L'=>∃ L1,L1.length=n0/\((b=true/\L'=L1 ++ .lp true none N E ps asg body :: G/\RQ .normal L1)\/(b=false/\∃ j,L'=L1 ++ .lp false (some j) N E ps asg body :: G/\RQ (zsK j) L1)):=by
 intro c B H l vs hH hB hρ hr;have hK:(T0 ++ LB.lp true none N E ps asg body :: G).length=n0+1+G.length:=by simp[hT]; omega
 obtain⟨b',env,g1,g2,g3,g4⟩:=hH.obj n0 _ (znu hT);rw[hρ]at g1;cases g1;obtain⟨env',q1,q2,q3⟩:=zlK hs g4 g3 hr;have hbl:Nat.ble B l=true:=qat (qaq hB (hH.own n0 _ l hρ rfl).1);have hlp:ztp H l:=⟨_,_,_,_,_,_,g2⟩;obtain⟨Nn,b,h',k1,k2⟩:=zzo (QR:=λb h'=>∃ c' L',Step c H c' h'/\RelH c' L' h'/\c.le c'/\∃ L1,L1.length=n0/\((b=true/\L'=L1 ++ .lp true none N E ps asg body :: G/\RQ .normal L1)\/(b=false/\∃ j,L'=L1 ++ .lp false (some j) N E ps asg body :: G/\RQ (zsK j) L1))) g2 hbl q1
  (EvC.mono (h c H c B (some l) ⟨env',[],H⟩ (λl' h=>by cases h; exact hlp) (Way.start _ _ _ _) ⟨q2,q3,hH⟩ hB) (by
   intro ex M1 hx;obtain⟨c1,S1,x,way1,rel1,xr,rfl,hN1,hget,hbody⟩:=zg9 hx;have hex:ex=.normal:=by cases ex<;>first | rfl | exact xr.elim
   refine⟨hex,?_⟩;obtain⟨x1,e1,e2⟩:=way1.le.ρ n0 _ (by omega) hρ;have:=zhx e2;subst this;obtain⟨env1,m1,m2,m3,m4,m5⟩:=rel1.heap.zFE hget e1 false none;refine⟨env1,ps,asg,body,m1,?_⟩;have hB1:B<=c1.base:=by rw[way1.step.base]; exact hB
   refine EvC.mono (hbody c1 (M1.heap.set l (.loop false none env1 ps asg body)) c1 B (some l) ⟨M1.env,[],M1.heap.set l (.loop false none env1 ps asg body)⟩ (λl' h=>by cases h; exact⟨_,_,_,_,_,_,qa1 (qab.1 m1).1⟩) (Way.start _ _ _ _) ⟨rel1.env,by rw[rel1.len]; exact hN1,m4⟩ hB1) ?_;intro ex2 M2 hx2;obtain⟨c2,S2,x2,way2,rel2,xr2,L1,hL1,hweak,hRQ⟩:=zg9 hx2;obtain⟨c3,rel3,step3,le3⟩:=hweak c2 M2 rel2;obtain⟨y1,f1,f2⟩:=way2.le.ρ n0 _ (by omega) e1;have:=zhx f2;subst this;obtain⟨y2,f3,f4⟩:=le3.ρ n0 _ (by omega) f1;have:=zhx f4;subst this
   have hle:∀ {L':List LB} {H':zam},RelH c3 L' H'->c.le c3:=λhr'=>⟨λb cs hb=>le3.za b cs (way2.le.za b cs (way1.le.za b cs hb)),λb cs hb=>le3.zf b cs (way2.le.zf b cs (way1.le.zf b cs hb)),λβ y hy=>(by
    obtain⟨w1,v1,v2⟩:=((way1.le.trans way2.le).trans le3).ρ β y (by have:=hH.scope β y hy; omega) hy
    exact⟨w1,v1,v2⟩),hr'.apart⟩
   have hst:Step c H c3 M2.heap:=((way1.step.trans m5).trans way2.step).trans step3;have fin:∀ st pend,∃ env2,M2.heap[l]? = some (.loop false none env2 ps asg body)/\RelH c3 (L1 ++ .lp st pend N E ps asg body :: G) (M2.heap.set l (.loop st pend env2 ps asg body))/\Step c H c3 (M2.heap.set l (.loop st pend env2 ps asg body)):=by
    intro st pend;obtain⟨env2,r1,r2,r3,r4,r5⟩:=rel3.heap.zFE (znu hL1) f3 st pend;rw[znw hL1]at r4;exact⟨env2,r1,r4,hst.trans r5⟩
   cases x2 with
   | normal=>
    cases ex2<;>first | (exact xr2.elim)| skip
    obtain⟨env2,r1,r2,r3⟩:=fin true none;exact⟨_,_,_,_,_,_,r1,c3,_,r3,r2,hle r2,L1,hL1,.inl ⟨rfl,rfl,hRQ⟩⟩
   | ret=>
    cases ex2<;>first | (exact xr2.elim)| skip
    obtain⟨env2,r1,r2,r3⟩:=fin false (some .ret);exact⟨_,_,_,_,_,_,r1,c3,_,r3,r2,hle r2,L1,hL1,.inr ⟨rfl,.ret,rfl,hRQ⟩⟩
   | exit id=>
    cases ex2<;>first | (exact xr2.elim)| skip
    have:_=_:=xr2;subst this;obtain⟨env2,r1,r2,r3⟩:=fin false (some (.exit id));exact⟨_,_,_,_,_,_,r1,c3,_,r3,r2,hle r2,L1,hL1,.inr ⟨rfl,.exit id,rfl,hRQ⟩⟩
   | panic d=>exact(hpan d L1 hRQ).elim))
 exact⟨Nn,b,h',k1,k2⟩
theorem zqh(k:List KM):(sem fns B rd QM k).2 .ret M=QM .ret M:=by
 induction k with
 | nil=>rfl
 | cons x k ih=>cases x<;>exact ih
theorem EvL.zey{α γ:Type}{k:List K}{x:X}{ps:List Nat}{asg body:C}{gf:Nat}{first cap:List D}{xs:List α}{Y:α->Nat->List D->List LB->Prop}{N n0:Nat}{E:List (Nat×D)}
  (hx:evD E x=some (.clo gf first cap)) (hg:Gen fns gf first cap xs Y) (T:γ->List LB) (P:Nat->γ->Prop) (R:LX->List LB->Prop) (a0:γ)
  (hlen:∀ a,(T a).length=n0) (hk0:k0<=n0) (hE:∀ k d,lk E k=some d->d.sc (n0+1)) (hsc:∀ a,zdo (n0+1) (T a)) (hR:∀ x L1,R x L1->L1.length=n0/\zdo (n0+1) L1) (hpan:∀ d L1,¬ R (.panic d) L1)
  (hp:P 0 a0)
  (hstep:∀ i a y args G,xs[i]? = some y->P i a->Y y (n0+1) args G->∃ E',zzD N E ps args=some E' /\
   EvL fns (n0+1+G.length) [.code asg] ⟨N,E',T a ++ .lp true none N E ps asg body :: G⟩ λx S1=>x=.normal/\S1.N=N/\S1.heap[n0]? = some (.lp true none N E ps asg body)/\
    EvL fns (n0+1+G.length) [.code body] ⟨N,S1.env,S1.heap.set n0 (.lp false none N E ps asg body)⟩ λx2 S2=>∃ L1,L1.length=n0/\zbi (n0+1+G.length) S2 ⟨S2.N,[],L1 ++ .lp false none N E ps asg body :: G⟩/\(match x2 with | .normal=>∃ a',P (i+1) a'/\L1=T a' | x2=>R x2 L1))
  (hend:∀ a,P xs.length a->R .normal (T a))
  (hk:∀ L1,R .normal L1->EvL fns k0 k ⟨N,E,L1 ++ [.lost]⟩ Q)
  (hke:∀ id L1,R (.exit id) L1->EvL fns k0 (.ex id :: k) ⟨N,E,L1 ++ [.lost]⟩ Q)
  (hkr:∀ L1,R .ret L1->Q .ret ⟨N,E,L1 ++ [.lost]⟩):EvL fns k0 (.code (.zey x ps asg body):: k) ⟨N,E,T a0⟩ Q:=by
 intro c0 H0 c B rd M hd hway hr hB;obtain⟨u,g3,g4⟩:=zae hr hx;cases g4 with
 | clo q1 q2 q3 q4=>
 rename_i us ws;have hrd:zuh rd M.heap=true:=by
  cases rd with
  | none=>rfl
  | some l=>
   obtain⟨_,_,_,_,_,_,h9⟩:=hway.step.lp l (hd l rfl);simp[zuh,h9]
 have hT0:=hlen a0;obtain⟨H1,hH1,r1,s1,hdfr⟩:∃ H1,zca rd M=H1/\RelH c (T a0) H1/\Step c M.heap c H1/\(rd=none->H1[M.heap.length]? = some .dfr):=by
  cases rd with
  | none=>
   grind [RelH.pad,Go.Mx.zca,Go.Lx.Rel]
  | some l=>exact⟨_,rfl,hr.heap,Step.refl _ _,λh=>by cases h⟩
 have henv:zcq c E M.env:=hr.env;obtain⟨r2,s2,le2⟩:=r1.zHK (x:=.cell H1.length) (lb:=.lp true none N E ps asg body) (ob:=.loop true none M.env ps asg body) rfl
  λc' hle hρ=>⟨H1.length,M.env,hρ,by simp,hr.len,henv.mono hle⟩
 rw[hT0]at r2 s2 le2;have hρ1:(c.put n0 (.cell H1.length)).ρ n0=some (.cell H1.length):=zbd _ _ _;have hrs:Rs (c.put n0 (.cell H1.length)) (first ++ [.yld n0]++ cap) (us ++ [.yld H1.length]++ ws):=
  (Rs.append (Rs.mono ⟨q1,q3⟩ le2) ((Rs.nil _).cons (.yld hρ1))).append (Rs.mono ⟨q2,q4⟩ le2)
 have hcall:=hg (n0+1) n0 (λi L=>∃ a,P i a/\L=T a ++ [.lp true none N E ps asg body]) (λL=>∃ j L1,R (zsK j) L1/\L=L1 ++ [.lp false (some j) N E ps asg body]) (qbo _)
  (λi L ⟨a,_,h⟩=>by rw[h]; simp[hlen a]) (by
   rintro i y L args G hy ⟨a,hPa,rfl⟩ hY;obtain⟨E',hs,hev⟩:=hstep i a y args G hy hPa hY;have hround:=zks.of (RQ:=λx2 L1=>match x2 with | .normal=>∃ a',P (i+1) a'/\L1=T a' | x2=>R x2 L1) (hlen a) hs hpan hev;rw[qaE,qaN];intro c B H l vs hH hB hρ hr;obtain⟨Nn,b,h',k1,c',L',k2,k3,k4,L1,k5,k6⟩:=hround c B H l vs hH hB hρ hr;refine⟨Nn,b,h',k1,c',L',k2,k3,k4,?_⟩;rcases k6 with⟨rfl,rfl,a',hPa',rfl⟩| ⟨rfl,j,rfl,hj⟩
   .grind
   refine⟨L1 ++ [.lp false (some j) N E ps asg body],by simp,by simp[k5],j,L1,?_,rfl⟩
   cases j<;>exact hj)
  (T a0 ++ [.lp true none N E ps asg body]) ⟨a0,hp,rfl⟩
 have hB1:B<=(c.put n0 (.cell H1.length)).base:=hB;refine EvC.zey g3 hrd ?_;rw[hH1];refine EvF.mono (hcall _ B _ _ r2 hB1 hrs) ?_;rintro cr h' ⟨c2,d,L',s3,r3,le3,hpost⟩;cases cr with
 | pan v=>exact hpost.2.elim
 | ret v=>
 obtain⟨hrd',L1,G,rfl,hL1,hP⟩:=hpost;have hscL:zdo (n0+1) L1:=by
  have app:∀ {A B:List LB},zdo (n0+1) A->zdo (n0+1) B->zdo (n0+1) (A ++ B):=by
   intro A;induction A with
   | nil=>intro B _ h; exact h
   | cons a A ih=>intro B h1 h2; exact⟨h1.1,ih h1.2 h2⟩
  rcases hP with⟨a,_,rfl⟩| ⟨j,L2,hj,rfl⟩
  .exact app (hsc a) ⟨hE,qds⟩
  exact app (hR _ _ hj).2 ⟨hE,qds⟩
 obtain⟨c3,r4,_,s4,le4⟩:=zrk (v:=v) r3 (.any v) trivial (by rw[hL1]; exact hscL);rw[hL1]at le4;have hρ3:c3.ρ n0=some (.cell H1.length):=by
  obtain⟨y1,f1,f2⟩:=le3.ρ n0 _ hρ1;have:=zhx f2;subst this;obtain⟨y2,f3,f4⟩:=le4.ρ n0 _ (qbo _) f1;have:=zhx f4;subst this;exact f3
 have hstep4:Step c M.heap c3 h':=((s1.trans s2).trans s3).trans s4;have hMl:M.heap.length<=H1.length:=s1.len;have hfin:Step c M.heap c3 (h'.set H1.length .dead):=hstep4.kill hMl
 have hlek:c.leK n0 c3:=⟨λb cs hb=>le4.za b cs (le3.za b cs (le2.za b cs hb)),λb cs hb=>le4.zf b cs (le3.zf b cs (le2.zf b cs hb)),λβ y hβ hy=>by
  obtain⟨y1,v1,v2⟩:=le2.ρ β y hy;obtain⟨y2,v3,v4⟩:=le3.ρ β y1 v1;obtain⟨y3,v5,v6⟩:=le4.ρ β y2 (by omega) v3
  exact⟨y3,v5,(v2.trans v4).trans v6⟩⟩
 have hle:c.le c3:=⟨hlek.za,hlek.zf,λβ y hy=>hlek.ρ β y (by rw[<- hT0]; exact hr.heap.scope β y hy) hy,r4.apart⟩;have hdfs:ziM H0.length (zfY rd M) (h'.set H1.length .dead):=by
  have hold:ziM H0.length M.dfs (h'.set H1.length .dead):=hway.dfs.step hr.heap hfin;cases hrdc:rd with
  | some l=>exact hold
  | none=>
   obtain⟨l,e1,e2,e3⟩:=hold;obtain⟨l',e1',e2',e3'⟩:=hway.dfs;have hll:l=l':=by
    have:=e1.symm.trans e1';exact List.map_inj_right (λa b hab=>by injection hab)|>.1 this
   subst hll;refine⟨M.heap.length :: l,by simp[zfY,e1],qaR.2 ⟨λhmem=>?_,e2⟩,λd hdm=>?_⟩
   .have:=(qab.1 (e3' _ hmem).2).1;omega
   rcases qav.1 hdm with rfl | hdm
   .refine⟨hway.step.len,?_⟩;have hd1:=hdfr hrdc;have hlt:=(qab.1 hd1).1;rw[qaD (by omega)];have hd2:(H1 ++ [Ob.loop true none M.env ps asg body])[M.heap.length]? = some .dfr:=by rw[qar hlt]; exact hd1
    have hd3:h'[M.heap.length]? = some .dfr:=(s3.zgl _ (by simp; omega) (r2.dfr hd2)).trans hd2;exact hd3
   exact e3 d hdm
 have hway':Way k0 c0 H0 c3 ⟨M.env,zfY rd M,h'.set H1.length .dead⟩:=⟨hway.step.trans hfin,hway.le.trans ⟨hlek.za,hlek.zf,λβ y hβ hy=>hlek.ρ β y (by omega) hy⟩,hdfs⟩;have hB3:B<=c3.base:=by rw[hfin.base]; exact hB
 have hrel:∀(L2:List LB) st pend,L2.length=n0->L1=L2 ++ [.lp st pend N E ps asg body]->(∃ env,h'[H1.length]? = some (.loop st pend env ps asg body))/\Rel c3 ⟨N,E,L2 ++ [.lost]⟩ ⟨M.env,zfY rd M,h'.set H1.length .dead⟩:=by
  rintro L2 st pend hL2 rfl;obtain⟨b,env,w1,w2,_⟩:=r4.obj n0 _ (znu hL2);rw[hρ3]at w1;cases w1;refine⟨⟨env,w2⟩,⟨λj d hj=>by obtain⟨v,e1,e2⟩:=hr.env j d hj; exact⟨v,e1,e2.mono hle⟩,hr.len,?_⟩⟩;have:=r4.zuK (lb:=.lost) (ob:=.dead) hρ3 rfl λH' hH'=>⟨_,hρ3,hH'⟩
  rw[znw hL2]at this;exact this
 rcases hP with⟨a,hPa,rfl⟩| ⟨j,L2,hj,rfl⟩
 .obtain⟨⟨env,w1⟩,w2⟩:=hrel (T a) true none (hlen a) rfl;exact⟨v,rfl,_,_,_,_,_,_,w1,.inl ⟨rfl,rfl,hk (T a) (hend a hPa) c0 H0 c3 B rd _ hd hway' w2 hB3⟩⟩
 obtain⟨⟨env,w1⟩,w2⟩:=hrel L2 false (some j) (hR _ _ hj).1 rfl;refine⟨v,rfl,_,_,_,_,_,_,w1,.inr ⟨j,rfl,rfl,?_⟩⟩;cases j with
 | ret=>
  show(sem fns B rd (zuk k0 c0 H0 Q) (k.map (toM k0 c0 H0))).2 .ret _;rw[zqh];exact⟨c3,_,.ret,hway',w2,qds,hkr L2 hj⟩
 | exit id=>exact EvC.zfk (hke id L2 hj c0 H0 c3 B rd _ hd hway' w2 hB3)
end
end Go.Lx
