/-
 Trees: loops that are unrolled, calls after which what they made is forgotten. Conditions: none.
-/
import Derived.Test.YtbjogdohfhdaiaaGreatErJ28
set_option linter.unusedSimpArgs false
set_option linter.unusedVariables false
namespace Go.Lx
open Go Go.Mx
section
variable {fns:Mach} {k0:Nat} {Q:LX->LSt->Prop} {c:Cx} {L:List LB} {S S':LSt} {M:St} {H:zam} {B:Nat} {rd:Option Nat} {bar top e:Bool}
theorem zrk{c:Cx}{d:D}{v:V}{H:zam}{R':List LB}(hH:RelH c (L ++ R') H)(hr:R c d v)(hd:d.sc L.length)(hs:zdo L.length L):∃ c',RelH c' L H/\R c' d v/\Step c H c' H/\c.leK L.length c':=by
 have hw:=zbi.cut (k0:=L.length) (N:=1) (E:=[(0,d)]) (E':=[(0,d)]) (L:=L) (R':=R') (qap _) ⟨⟨rfl,hd⟩,qds⟩ hs;have hrel:Rel c ⟨1,[(0,d)],L ++ R'⟩ ⟨[v],[],H⟩:=by
  grind [lk,Go.Lx.Rel]
 obtain⟨c',h1,h2,h3⟩:=hw c ⟨[v],[],H⟩ hrel;obtain⟨u,g1,g2⟩:=h1.env 0 d rfl
 grind [Go.Lx.Rel]
theorem zdD.cut{f:Nat}{args:List D}{Q1 Qp1 Q2 Qp2:D->List LB->Prop}(h:zdD fns bar f args L Q1 Qp1)
  (h1:∀ d L',Q1 d L'->∃ L2 R',L'=L2 ++ R'/\L.length<=L2.length/\d.sc L2.length/\zdo L2.length L2/\Q2 d L2) (h2:∀ d L',Qp1 d L'->Qp2 d L'):zdD fns bar f args L Q2 Qp2:=by
 intro c B H vs hH hB hr;refine EvF.mono (h c B H vs hH hB hr) ?_;rintro cr H' ⟨c',d,L',g1,g2,g3,g4⟩;cases cr with
 | ret v=>
  obtain⟨L2,R',rfl,k1,k2,k3,k4⟩:=h1 d L' g4.2;obtain⟨c2,q1,q2,q3,q4⟩:=zrk g2 g4.1 k2 k3;refine⟨c2,d,L2,g1.trans q3,q1,⟨λb cs hb=>q4.za b cs (g3.za b cs hb),λb cs hb=>q4.zf b cs (g3.zf b cs hb),λβ x hx=>?_,q1.apart⟩,q2,k4⟩;obtain⟨x',w1,w2⟩:=g3.ρ β x hx;obtain⟨x'',w3,w4⟩:=q4.ρ β x' (qb2 (hH.scope β x hx) k1) w1;exact⟨x'',w3,w2.trans w4⟩
 | pan v=>exact⟨c',d,L',g1,g2,g3,g4.1,h2 d L' g4.2⟩
theorem zdD.mono{f:Nat}{args:List D}{Q1 Qp1 Q2 Qp2:D->List LB->Prop}(h:zdD fns bar f args L Q1 Qp1)(h1:∀ d L',Q1 d L'->Q2 d L')(h2:∀ d L',Qp1 d L'->Qp2 d L'):zdD fns bar f args L Q2 Qp2:=by
 grind [EvF.mono,Go.Lx.zdD]
theorem zdD.code{f:Nat}{fn:Mx.Fn}{args:List D}{Q1 Qp1:D->List LB->Prop}(hf:fns.has f fn)(hp:fn.p=false)(hN:args.length<=fn.N)
  (h:wp fns L.length [.code fn.c] (some ⟨fn.N,zeY 0 args,L⟩) λx S'=>match x with
   | .ret=>∃ ds,zfQ S'.heap S'.env fn.rs=some ds/\Q1 (zdX ds) S'.heap
   | .normal=>∃ ds,zfQ S'.heap S'.env fn.rs=some ds/\Q1 (zdX ds) S'.heap
   | .panic d=>Qp1 d S'.heap
   | .exit _=>False):zdD fns false f args L Q1 Qp1:=zdD.intro hf hp hN (zad h)
end
mutual
def D.av(β:Nat):D->Prop
 | .ptr b _=>b≠β
 | .eptr b _ _ _ _=>b≠β
 | .sl b _ _ _ _ _=>b≠β
 | .yld b=>b≠β
 | .clo _ xs ys=>D.avs β xs/\D.avs β ys
 | .ifc _ d=>d.av β
 | .agg ds=>D.avs β ds
 | .tup ds=>D.avs β ds
 | .any=>True
 | .lit _=>True
 | .fptr _ _=>True
 | .fz _ _ _=>True
 | .z0 _ _=>True
def D.avs(β:Nat):List D->Prop
 | []=>True
 | d :: r=>d.av β/\D.avs β r
end
theorem ziP{β:Nat}:∀ {ds:List D},D.avs β ds->∀ {i:Nat} {d:D},ds[i]? = some d->d.av β
 | [],_,i,d,h=>by simp at h
 | e :: r,hs,0,d,h=>by simp at h; subst h; exact hs.1
 | e :: r,hs,i+1,d,h=>ziP hs.2 (by simpa using h)
theorem zvc{β:Nat}{ds:List D}(h:D.avs β ds){d:D}(hd:d∈ds):d.av β:=by
 grind [qcw,ziP]
def LB.av(β:Nat):LB->Prop
 | .cells ds=>D.avs β ds
 | .els _ es=>∀ cells,cells∈es->D.avs β cells
 | .grow _ es=>∀ cells,cells∈es->D.avs β cells
 | .gone=>True
 | .lp _ _ _ E _ _ _=>∀ k d,lk E k=some d->d.av β
 | .lost=>True
section
variable {k0:Nat} {c:Cx} {L:List LB} {H:zam}
structure Cx.but (β:Nat) (c c':Cx):Prop where
 za:c'.za=c.za
 zf:∀ b cs,c.zf b=some cs->c'.zf b=some cs
 ρ:∀ k,k≠β->c'.ρ k=c.ρ k
 base:c'.base=c.base
 apart:∀ b cs cs',c'.zf b=some cs->c'.za b=some cs'->cs=cs'
theorem Cx.but.look{β:Nat}{c c':Cx}(h:c.but β c'){t:Bool}{b:Nat}{cs:List V}(hl:c.look t b=some cs):c'.look t b=some cs:=by
 grind [Cx.look,Go.Lx.Cx.but]
theorem Cx.but.frz{β:Nat}{c c':Cx}(h:c.but β c')(t:Bool):(c.frz t).le (c'.frz t) where
 za b cs hb:=by
  grind [Cx.frz,Go.Lx.Cx.but]
 zf b cs hb:=h.zf b cs hb
 ρ β x hx:=by simp[Cx.frz]at hx
 apart b cs cs' h1 h2:=by
  grind [Cx.frz,Go.Lx.Cx.but]
theorem R.but{β:Nat}{d:D}{v:V}(hr:R c d v):∀ {c':Cx},c.but β c'->d.av β->R c' d v:=by
 induction hr with
 | any v=>intro c' _ _; exact .any v
 | lit v=>intro c' _ _; exact .lit v
 | ptr h1=>grind [Go.Lx.Cx.but,Go.Lx.D.av,Go.Lx.R]
 | eptr h1 h2=>grind [Go.Lx.Cx.but,Go.Lx.D.av,Go.Lx.R]
 | sl h1 h2=>grind [Go.Lx.Cx.but,Go.Lx.D.av,Go.Lx.R]
 | slg h1=>grind [Go.Lx.Cx.but,Go.Lx.D.av,Go.Lx.R]
 | fz h1 h2 h3 h4 h5 h6 ih=>intro c' h _; exact .fz (h.look h1) h2 h3 h4 h5 λi cells k d v g1 g2 g3=>(h6 i cells k d v g1 g2 g3).mono (h.frz _)
 | fz0=>intro c' _ _; exact .fz0
 | fzn=>intro c' _ _; exact .fzn
 | z0 h1 h2=>intro c' h _; exact .z0 (h.look h1) h2
 | z0n=>intro c' _ _; exact .z0n
 | fptr h1 h2 h3 ih=>intro c' h _; exact .fptr (h.look h1) h2 λk d v g1 g2=>(h3 k d v g1 g2).mono (h.frz _)
 | clo h1 h2 _ _ ih1 ih2=>grind [ziP,Go.Lx.D.av,Go.Lx.R]
 | yld h1=>grind [Go.Lx.Cx.but,Go.Lx.D.av,Go.Lx.R]
 | ifc _ ih=>intro c' h hs; exact .ifc (ih h hs)
 | agg h1 _ ih=>grind [ziP,Go.Lx.D.av,Go.Lx.R]
 | tup h1 _ ih=>grind [ziP,Go.Lx.D.av,Go.Lx.R]
def D.tr:D->Prop
 | .lit _=>True
 | .fz t _ _=>t=true
 | .any=>True
 | _=>False
theorem R.tr{d:D}{v:V}(hr:R c d v)(hd:d.tr){c':Cx}(hz:∀ b cs,c.zf b=some cs->c'.zf b=some cs):R (c'.frz true) d v:=by
 have hle:(c.frz true).le (c'.frz true):=⟨λb cs hb=>by simp[Cx.frz]at hb,λb cs hb=>hz b cs hb,λβ x hx=>by simp[Cx.frz]at hx,λb cs cs' _ h2=>by simp[Cx.frz]at h2⟩;cases d<;>first | (exact hd.elim)| skip
 .exact .any v
 .cases hr; exact .lit _
 cases hd;cases hr with
 | fz0=>exact .fz0
 | fzn=>exact .fzn
 | fz h1 h2 h3 h4 h5 h6=>
  rename_i b o cap cs;have hl:c'.zf b=some cs:=by
   grind [Cx.look]
  refine .fz (by simp[Cx.look,Cx.frz,hl]) h2 h3 h4 h5 λi cells k d v g1 g2 g3=>?_<;>grind [Cx.frz,mono]
inductive Frz (β n:Nat) (es:List (List D)):D->D->Prop
 | same {d:D}:d.av β->Frz β n es d d
 | sl {s len:Nat} {cap:Option Nat} {st:Nat}:st=es.length->s+len<=es.length->(∀ k,cap=some k->len<=k)->Frz β n es (.sl β s n len cap st) (.fz true n ((es.drop s).take len))
 | nil {m:Nat}:Frz β n es (.lit (.slice none 0 0)) (.fz true m [])
inductive FrzB (β n:Nat) (es:List (List D)):LB->LB->Prop
 | same {b:LB}:b.av β->FrzB β n es b b
 | cells {ds ds':List D}:ds.length=ds'.length->(∀(i:Nat) d d',ds[i]? = some d->ds'[i]? = some d'->Frz β n es d d')->FrzB β n es (.cells ds) (.cells ds')
 | grow {m:Nat} {e e':List (List D)}:e.length=e'.length->(∀(i:Nat) x x',e[i]? = some x->e'[i]? = some x'->x.length=x'.length/\∀(j:Nat) d d',x[j]? = some d->x'[j]? = some d'->Frz β n es d d')->FrzB β n es (.grow m e) (.grow m e')
theorem zpF{e e':List (List D)}(h1:e.length=e'.length)(h2:∀(i:Nat) x x',e[i]? = some x->e'[i]? = some x'->x.length=x'.length):e.flatten.length=e'.flatten.length:=by
 induction e generalizing e' with
 | nil=>grind
 | cons a r ih=>
  cases e' with
  | nil=>simp at h1
  | cons b s=>
   have:=ih (by simpa using h1) (λi x x' q1 q2=>h2 (i+1) x x' (by simpa using q1) (by simpa using q2));have:=h2 0 a b rfl rfl
   simp_all
theorem zsQ{e e':List (List D)}{P:D->D->Prop}(h1:e.length=e'.length)(h2:∀(i:Nat) x x',e[i]? = some x->e'[i]? = some x'->x.length=x'.length/\∀(j:Nat) d d',x[j]? = some d->x'[j]? = some d'->P d d'):
  ∀(i:Nat) d d',e.flatten[i]? = some d->e'.flatten[i]? = some d'->P d d':=by
 induction e generalizing e' with
 | nil=>intro i d d' q1; simp at q1
 | cons a r ih=>
  cases e' with
  | nil=>simp at h1
  | cons b s=>
   have hab:=h2 0 a b rfl rfl;intro i d d' q1 q2;rw[qbl]at q1 q2;by_cases hi:i<a.length
   .rw[qar hi]at q1;rw[qar (by omega)]at q2;exact hab.2 i d d' q1 q2
   rw[qaV (by omega)]at q1;rw[qaV (by omega),<- hab.1]at q2;exact ih (by simpa using h1) (λi x x' q1 q2=>h2 (i+1) x x' (by simpa using q1) (by simpa using q2)) _ d d' q1 q2
theorem zbi.freeze{N β n:Nat}{E E':List (Nat×D)}{L L':List LB}{es:List (List D)}(hk:k0<=β)(hb:L[β]? = some (.els n es)\/L[β]? = some (.grow n es))(htr:∀ cells∈es,∀ d∈cells,d.tr)
  (hE:∀ k d',lk E' k=some d'->∃ d,lk E k=some d/\Frz β n es d d') (hL:L'.length=L.length) (hβ:L'[β]? = some .gone) (hLL:∀ i b b',i≠β->L[i]? = some b->L'[i]? = some b'->FrzB β n es b b'):zbi k0 ⟨N,E,L⟩ ⟨N,E',L'⟩:=by
 intro c M h;have hH:=h.heap;have hbr:0<n/\((es=[]/\c.ρ β=some .ghost)\/∃ b vs,c.ρ β=some (.list b es.length)/\M.heap[b]? = some (.blk vs)/\Els c n es vs):=by
  rcases hb with hb | hb
  .exact hH.obj β _ hb
  obtain⟨h0,h1 | ⟨_,h1⟩⟩:=hH.obj β _ hb
  .simp_all
  simp_all
 obtain⟨hn,hcase⟩:=hbr;have key:∃ c',c.but β c'/\c'.ρ β=none/\Step c M.heap c' M.heap/\(∀ b cs,c'.zf b=some cs->c.base<=b/\M.heap[b]? = some (.blk cs))/\(∀ k x b,k≠β->c.ρ k=some x->x.blk=some b->c'.zf b=none)/\
   (∀ d d' v,Frz β n es d d'->R c d v->R c' d' v):=by
  rcases hcase with⟨rfl,hρ⟩| ⟨b,vs,hρ,hv,hels⟩
  .refine⟨{ c with ρ:=λk=>if k=β then none else c.ρ k },⟨rfl,λ_ _ h=>h,λk hk=>by simp[hk],rfl,hH.apart⟩,by simp,⟨qap _,rfl,rfl,λ_ _ h=>h,λ_ _ _=>rfl,λk x b hx hxb=>?_,λ_ h=>h⟩,hH.zf,λk x b hk hx hxb=>(hH.own k x b hx hxb).2.2,?_⟩
   .grind
   intro d d' v hf hr;cases hf with
   | same ha=>exact hr.but ⟨rfl,λ_ _ h=>h,λk hk=>by simp[hk],rfl,hH.apart⟩ ha
   | nil=>cases zob hr; exact .fzn
   | sl h1 h2 h3=>
    grind [Go.Lx.R]
  obtain⟨o1,o2,o3⟩:=hH.own β _ b hρ rfl;have hap:∀ b' cs cs',(if b'=b then some vs else c.zf b')=some cs->c.za b'=some cs'->cs=cs':=by
   grind [Go.Lx.RelH]
  have hbut:c.but β { c with ρ:=λk=>if k=β then none else c.ρ k,zf:=λb'=>if b'=b then some vs else c.zf b' }:=by
   grind [Go.Lx.Cx.but]
  refine⟨_,hbut,by simp,⟨qap _,rfl,rfl,hbut.zf,λ_ _ _=>rfl,λk x b hx hxb=>?_,λ_ h=>h⟩,λb' cs hz=>?_,λk x b' hk hx hxb=>?_,?_⟩
  .grind
  .grind [Go.Lx.RelH]
  .grind [Go.Lx.RelH,Go.Lx.Lc.blk]
  intro d d' v hf hr;cases hf with
  | same ha=>exact hr.but hbut ha
  | nil=>cases zob hr; exact .fzn
  | sl h1 h2 h3=>
   rename_i s len cap st;have hvv:v=.sl b (s * n) n len cap:=by
    grind [Go.Lx.R]
   subst hvv;have hlen:((es.drop s).take len).length=len:=by simp; omega
   have hget:∀(i:Nat) cells,((es.drop s).take len)[i]? = some cells->es[s+i]? = some cells:=by
    grind
   have hroom:s * n+((es.drop s).take len).length * n<=vs.length:=by
    rw[hels.zn9,hlen,<- qaQ]; exact qas n h2
   have:=R.fz (c:={ c with ρ:=λk=>if k=β then none else c.ρ k,zf:=λb'=>if b'=b then some vs else c.zf b' }) (t:=true) (n:=n) (els:=(es.drop s).take len) (b:=b) (o:=s * n) (cap:=cap) (cs:=vs) (by simp[Cx.look]) hn (by rw[hlen]; exact h3) hroom
    (λi cells hi=>hels.len cells (qaC (hget i cells hi))) λi cells k d u g1 g2 g3=>by
     have hi:=hget i cells g1;have hcl:=hels.len cells (qaC hi);have hkl:=(qab.1 g2).1
     have hrel:=(hels.at_ hi).2 k d u g2 (by
      grind)
     exact hrel.tr (htr cells (qaC hi) d (qaC g2)) hbut.zf
   simp_all
 obtain⟨c',hbut,hnone,hstep,hzf,hown,hfr⟩:=key;have hrs:∀ {ds ds':List D} {vs:List V},ds.length=ds'.length->(∀(i:Nat) d d',ds[i]? = some d->ds'[i]? = some d'->Frz β n es d d')->Rs c ds vs->Rs c' ds' vs:=by
  intro ds ds' vs h1 h2 h3;refine⟨by rw[<- h1]; exact h3.1,λi d' v q1 q2=>?_⟩;have hi:=(qab.1 q1).1;have hi0:ds[i]? = some (ds[i]'(by omega)):=qac _
  grind [Go.Lx.Rs]
 refine⟨c',⟨λk d' hkd=>?_,h.len,⟨by rw[hbut.base]; exact hH.base,λb cs hz=>by rw[hbut.za]at hz; rw[hbut.base]; exact hH.za b cs hz,λb cs hz=>by rw[hbut.base]; exact hzf b cs hz,?_,?_,?_,?_⟩⟩,hstep,⟨λb cs hz=>by rw[hbut.za]; exact hz,hbut.zf,λk x hk0 hx=>⟨x,by rw[hbut.ρ k (by omega)]; exact hx,Lc.up.refl x⟩⟩⟩
 .grind [Go.Lx.Rel]
 .grind [Go.Lx.RelH,Go.Lx.Cx.but]
 .grind [Go.Lx.RelH,Go.Lx.Cx.but]
 .grind [Go.Lx.RelH,Go.Lx.Cx.but]
 intro i b' hi;by_cases hiβ:i=β
 .grind [Go.Lx.ze4]
 have hlt:i<L.length:=by rw[<- hL]; exact(qab.1 hi).1
 have hi0:L[i]? = some L[i]:=qac hlt;have hfb:=hLL i L[i] b' hiβ hi0 hi;have hob:=hH.obj i L[i] hi0;generalize L[i]=b0 at hfb hob;have hρi:c'.ρ i=c.ρ i:=hbut.ρ i hiβ;cases hfb with
 | same ha=>
  cases b' with
  | cells ds=>
   obtain⟨b,vs,q1,q2,q3⟩:=hob
   grind [ziP,Frz,Go.Lx.ze4,Go.Lx.LB.av]
  | els m e=>
   obtain⟨q0,⟨r1,r2⟩| ⟨b,vs,q1,q2,q3⟩⟩:=hob
   .grind [Go.Lx.ze4]
   .refine⟨q0,.inr ⟨b,vs,by rw[hρi]; exact q1,q2,q3.len,q3.rel.1,λj d v w1 w2=>(q3.rel.2 j d v w1 w2).but hbut ?_⟩⟩;obtain⟨cells,r1,r2⟩:=qcM.1 (qaC w1);exact zvc (ha cells r1) r2
  | grow m e=>
   obtain⟨q0,⟨r1,r2⟩| ⟨r0,b,vs,q1,q2,q3⟩⟩:=hob
   .grind [Go.Lx.ze4]
   .refine⟨q0,.inr ⟨r0,b,vs,by rw[hρi]; exact q1,q2,q3.len,q3.rel.1,λj d v w1 w2=>(q3.rel.2 j d v w1 w2).but hbut ?_⟩⟩;obtain⟨cells,r1,r2⟩:=qcM.1 (qaC w1);exact zvc (ha cells r1) r2
  | gone=>exact hρi.trans hob
  | lp st pend N E ps asg body=>
   obtain⟨b,env,q1,q2,q3,q4⟩:=hob;refine⟨b,env,by rw[hρi]; exact q1,q2,q3,λk d hk=>?_⟩
   grind [Frz,Go.Lx.LB.av,Go.Lx.zcq]
  | lost=>
   grind [Go.Lx.ze4]
 | cells h1 h2=>
  obtain⟨b,vs,q1,q2,q3⟩:=hob;exact⟨b,vs,by rw[hρi]; exact q1,q2,hrs h1 h2 q3⟩
 | grow h1 h2=>
  rename_i m e e';obtain⟨q0,⟨r1,r2⟩| ⟨r0,b,vs,q1,q2,q3⟩⟩:=hob
  .subst r1;have:e'=[]:=qbf (by simpa using h1.symm);exact⟨q0,.inl ⟨this,by rw[hρi]; exact r2⟩⟩
  refine⟨q0,.inr ⟨λhe=>r0 (qbf (by rw[h1,he]; rfl)),b,vs,by rw[hρi,<- h1]; exact q1,q2,λcells hc=>?_,hrs (zpF h1 λi x x' w1 w2=>(h2 i x x' w1 w2).1) (zsQ h1 h2) q3.rel⟩⟩;obtain⟨j,hj⟩:=qcw.1 hc;have hjl:=(qab.1 hj).1;have hj0:e[j]? = some (e[j]'(by omega)):=qac _;rw[<-(h2 j _ cells hj0 hj).1];exact q3.len _ (qaC hj0)
theorem zbi.zpi{N n β o:Nat}{E:List (Nat×D)}{L:List LB}{ds:List D}(hn:0<n)(hb:L[β]? = some (.cells ds))(ho:ds[o]? = some (.lit (.slice none 0 0))):zbi k0 ⟨N,E,L⟩ ⟨N,E,L.set β (.cells (ds.set o (.sl L.length 0 n 0 none 0)))++ [.grow n []]⟩:=by
 intro c M h;obtain⟨g1,g2,g3⟩:=h.heap.new (x:=.ghost) (lb:=.grow n []) (o:=[]) (.inl ⟨rfl,rfl⟩) λc' hle hρ=>⟨hn,.inl ⟨rfl,hρ⟩⟩
 rw[qaP]at g1 g2;have hβ:β<L.length:=(qab.1 hb).1;refine⟨_,⟨λj d hj=>?_,h.len,⟨g1.base,g1.za,g1.zf,g1.own,g1.inj,λk x hx=>?_,λi lb hi=>?_⟩⟩,g2,g3.leK k0⟩
 .obtain⟨v,q1,q2⟩:=h.env j d hj;exact⟨v,q1,q2.mono g3⟩
 .grind [Go.Lx.RelH]
 by_cases hi':i=β
 .subst hi';rw[qar (by simpa using hβ),qa1 hβ]at hi;cases hi;obtain⟨b,vs,q1,q2,q3⟩:=g1.obj i (.cells ds) (by rw[qar hβ]; exact hb);refine⟨b,vs,q1,q2,by simpa using q3.1,λj d v w1 w2=>?_⟩
  grind [Go.Lx.R,Go.Lx.Cx.put,Go.Lx.Rs]
 grind [Go.Lx.RelH]
end
section
variable {k0:Nat}
def zyG(β:Nat):List (Nat×D)->Prop
 | []=>True
 |(_,d):: r=>d.av β/\zyG β r
theorem zzM{β:Nat}{E:List (Nat×D)}(h:zyG β E){k:Nat}{d:D}(hk:lk E k=some d):d.av β:=by
 induction E<;>grind [lk,zyG]
inductive FrzL (β n:Nat) (es:List (List D)):Nat->List LB->List LB->Prop
 | nil (i:Nat):FrzL β n es i [] []
 | here {b:LB} {r r':List LB}:FrzL β n es (β+1) r r'->FrzL β n es β (b :: r) (.gone :: r')
 | there {i:Nat} {b b':LB} {r r':List LB}:i≠β->FrzB β n es b b'->FrzL β n es (i+1) r r'->FrzL β n es i (b :: r) (b' :: r')
theorem FrzL.all{β n i0:Nat}{es:List (List D)}{L L':List LB}(h:FrzL β n es i0 L L'):L'.length=L.length/\(∀ i,i0+i=β->i<L.length->L'[i]? = some .gone)/\∀ i b b',i0+i≠β->L[i]? = some b->L'[i]? = some b'->FrzB β n es b b':=by
 induction h<;>grind
theorem zbi.frz{N β n:Nat}{E:List (Nat×D)}{L L':List LB}{es:List (List D)}(hk:k0<=β)(hb:L[β]? = some (.els n es)\/L[β]? = some (.grow n es))(htr:∀ cells∈es,∀ d∈cells,d.tr)
  (hE:zyG β E) (hL:FrzL β n es 0 L L'):zbi k0 ⟨N,E,L⟩ ⟨N,E,L'⟩:=by
 obtain⟨h1,h2,h3⟩:=hL.all;have hlt:β<L.length:=by
  grind
 exact zbi.freeze hk hb htr (λk d' hkd=>⟨d',hkd,.same (zzM hE hkd)⟩) h1 (h2 β (by omega) hlt) λi b b' hi=>h3 i b b' (by omega)
end
mutual
def D.fr:D->Prop
 | .lit _=>True
 | .any=>True
 | .fz t _ els=>t=false/\D.zFF els
 | .agg ds=>D.frs ds
 | .tup ds=>D.frs ds
 | .ptr _ _=>False
 | .eptr _ _ _ _ _=>False
 | .fptr t ds=>t=false/\D.frs ds
 | .sl _ _ _ _ _ _=>False
 | .z0 _ _=>False
 | .clo _ xs ys=>D.frs xs/\D.frs ys
 | .yld _=>False
 | .ifc _ d=>d.fr
def D.frs:List D->Prop
 | []=>True
 | d :: r=>d.fr/\D.frs r
def D.zFF:List (List D)->Prop
 | []=>True
 | l :: r=>D.frs l/\D.zFF r
end
theorem zeN:∀ {ds:List D},D.frs ds->∀ {i:Nat} {d:D},ds[i]? = some d->d.fr
 | [],_,i,d,h=>by simp at h
 | e :: r,hs,0,d,h=>by simp at h; subst h; exact hs.1
 | e :: r,hs,i+1,d,h=>zeN hs.2 (by simpa using h)
theorem zsB:∀ {es:List (List D)},D.zFF es->∀ {i:Nat} {d:List D},es[i]? = some d->D.frs d
 | [],_,i,d,h=>by simp at h
 | e :: r,hs,0,d,h=>by simp at h; subst h; exact hs.1
 | e :: r,hs,i+1,d,h=>zsB hs.2 (by simpa using h)
theorem zsW{α:Type}(f:α->List D):∀ {xs:List α},(∀ x∈xs,D.frs (f x))->D.zFF (xs.map f)
 | [],_=>trivial
 | x :: r,h=>⟨h x (by simp),zsW f λy hy=>h y (by simp[hy])⟩
theorem zwI:∀ {a b:List D},D.frs a->D.frs b->D.frs (a ++ b)
 | [],b,_,h=>h
 | x :: r,b,h1,h2=>⟨h1.1,zwI h1.2 h2⟩
theorem zry(c:Cx)(b:Nat):(c.frz false).look false b=c.look false b:=by simp[Cx.look,Cx.frz]
theorem R.fr{c:Cx}{d:D}{v:V}(hr:R c d v):∀ {c':Cx},d.fr->(∀ b cs,c.look false b=some cs->c'.look false b=some cs)->R c' d v:=by
 induction hr with
 | any v=>intro c' _ _; exact .any v
 | lit v=>intro c' _ _; exact .lit v
 | fz h1 h2 h3 h4 h5 _ ih=>
  intro c' hf h;obtain⟨rfl,hf⟩:=hf;exact .fz (h _ _ h1) h2 h3 h4 h5 λi cells k d v g1 g2 g3=>ih i cells k d v g1 g2 g3 (zeN (zsB hf g1) g2) λb cs hb=>by
   grind [zry]
 | fz0=>intro c' _ _; exact .fz0
 | fzn=>intro c' _ _; exact .fzn
 | fptr h1 h2 _ ih=>
  grind [zeN,zry,Go.Lx.D.fr,Go.Lx.R]
 | clo h1 h2 _ _ ih1 ih2=>intro c' hf h; exact .clo h1 h2 (λi d v g1 g2=>ih1 i d v g1 g2 (zeN hf.1 g1) h) λi d v g1 g2=>ih2 i d v g1 g2 (zeN hf.2 g1) h
 | ifc _ ih=>intro c' hf h; exact .ifc (ih hf h)
 | agg h1 _ ih=>grind [zeN,Go.Lx.D.fr,Go.Lx.R]
 | tup h1 _ ih=>grind [zeN,Go.Lx.D.fr,Go.Lx.R]
 | _=>intro c' hf _; exact hf.elim
section
variable {fns:Mach} {k0:Nat} {Q:LX->LSt->Prop} {c:Cx} {L:List LB} {S S':LSt} {M:St} {H:zam} {B:Nat} {rd:Option Nat} {bar top e:Bool}
def FnA(fns:Mach)(f:Nat)(args:List D)(res:D):Prop:=
 ∀(z:Nat->Option (List V)) (B:Nat) (H:zam) (vs:List V),(∀ b cs,z b=some cs->H[b]? = some (.blk cs))->B<=H.length->Rs ⟨z,λ_=>none,λ_=>none,H.length⟩ args vs ->
  EvF fns B f vs H λcr H'=>H.length<=H'.length/\(∀ b,b<H.length->H'[b]? = H[b]?)/\∃ v zf,cr=.ret v/\(∀ b cs,zf b=some cs->H.length<=b/\H'[b]? = some (.blk cs))/\R ⟨z,zf,λ_=>none,H.length⟩ res v
theorem FnA.call{f:Nat}{args:List D}{res:D}(h:FnA fns f args res)(hfr:D.frs args)(hres:res.fr)(bar:Bool)(Qp:D->List LB->Prop):zdD fns bar f args L (λd L'=>d=res/\L'=L) Qp:=by
 intro c B H vs hH hB hr;have hBl:(bif bar then H.length else B)<=H.length:=by
  grind [Go.Lx.RelH]
 have hrs:Rs ⟨c.look false,λ_=>none,λ_=>none,H.length⟩ args vs:=⟨hr.1,λi d v h1 h2=>(hr.2 i d v h1 h2).fr (zeN hfr h1) λb cs hb=>by simpa [Cx.look]using hb⟩;refine EvF.mono (h (c.look false) _ H vs (λb cs hb=>hH.look hb) hBl hrs) ?_;rintro cr H' ⟨h1,h2,v,zf,rfl,h3,h4⟩;have hlt:∀ b cs,H[b]? = some (Ob.blk cs)->H'[b]? = some (Ob.blk cs):=λb cs hb=>(h2 b (qab.1 hb).1).trans hb
 let c':Cx:={ c with zf:=λb=>match c.zf b with | some cs=>some cs | none=>zf b }
 have hzf:∀ b cs,c'.zf b=some cs->(c.zf b=some cs)\/(c.zf b=none/\zf b=some cs):=by
  intro b cs hb;simp only[c']at hb;cases hz:c.zf b with
  | some x=>rw[hz]at hb; cases hb; exact .inl rfl
  | none=>rw[hz]at hb; exact .inr ⟨rfl,hb⟩
 have hnew:∀ b cs,zf b=some cs->c.zf b=none:=by
  intro b cs hb;cases hz:c.zf b with
  | none=>rfl
  | some x=>
   have h5:=(qab.1 (hH.zf b x hz).2).1;have h6:=(h3 b cs hb).1;omega
 have hap:∀ b cs cs',c'.zf b=some cs->c'.za b=some cs'->cs=cs':=by
  intro b cs cs' hb hb';have h5:=(hH.za b cs' hb').1;have h7:=hH.base;rcases hzf b cs hb with h6 | ⟨_,h6⟩
  .have:=(hH.zf b cs h6).1; omega
  have:=(h3 b cs h6).1; omega
 have hle:c.le c':=⟨λ_ _ h=>h,λb cs hb=>by simp only[c',hb],λβ x hx=>⟨x,hx,Lc.up.refl x⟩,hap⟩;refine⟨c',res,L,⟨h1,rfl,rfl,hle.zf,λb hb _=>h2 b hb,λβ x b hx hb=>.inl ⟨β,x,hx,hb⟩,λb hb=>hb.zgl (h2 b hb.lt)⟩,⟨?_,?_,?_,?_,hH.inj,hH.scope,?_⟩,hle,?_,rfl,rfl⟩
 .exact qaq hH.base h1
 .intro b cs hb;exact⟨(hH.za b cs hb).1,hlt b cs (hH.za b cs hb).2⟩
 .intro b cs hb;rcases hzf b cs hb with h6 | ⟨_,h6⟩
  .exact⟨(hH.zf b cs h6).1,hlt b cs (hH.zf b cs h6).2⟩
  exact⟨qaq hH.base (h3 b cs h6).1,(h3 b cs h6).2⟩
 .intro β x b hx hb;obtain⟨g1,g2,g3⟩:=hH.own β x b hx hb;refine⟨g1,qb2 g2 h1,?_⟩;cases hz:c'.zf b with
  | none=>rfl
  | some cs=>
   rcases hzf b cs hz with h6 | ⟨_,h6⟩
   .rw[g3]at h6; cases h6
   have:=(h3 b cs h6).1; omega
 .intro β o ho;exact(hH.obj β o ho).mono hle rfl λx b hx hb=>h2 b (hH.own β x b hx hb).2.1
 refine h4.fr hres λb cs hb=>?_
 unfold Cx.look at hb;simp only at hb;cases hz:zf b with
 | some x=>
  rw[hz]at hb;cases hb;simp only[Cx.look,c',hnew b _ hz,hz]
 | none=>
  rw[hz]at hb;simp only[qbv,if_false,Cx.look]at hb;cases hzc:c.zf b with
  | some x=>rw[hzc]at hb; cases hb; simp only[Cx.look,c',hzc]
  | none=>rw[hzc]at hb; simp only at hb; simp only[Cx.look,c',hzc,hz,hb,qbv,if_false]
def znm(c:Cx)(H:zam):Cx:=⟨c.za,λb=>if c.base<=b then zax H b else none,λ_=>none,H.length⟩
theorem zix(c:Cx)(H:zam):(znm c H).frz false=znm c H:=by simp[znm,Cx.frz]
theorem zhc{b:Nat}{cs:List V}(h:H[b]? = some (.blk cs))(hb:c.base<=b\/c.za b=some cs):(znm c H).look false b=some cs:=by
 have h1:zax H b=some cs:=by simp[zax,h]
 by_cases h2:c.base<=b
 .simp[Cx.look,znm,h1,h2]
 rcases hb with h3 | h3
 .exact absurd h3 h2
 simp[Cx.look,znm,h2,h3]
structure UnderA (c1 c:Cx) (H:zam):Prop where
 za:∀ b cs,c1.za b=some cs->H[b]? = some (.blk cs)/\c.za b=some cs
 zf:∀ b cs,c1.zf b=some cs->H[b]? = some (.blk cs)/\c.base<=b
 ρ:c1.ρ=c.ρ\/c1.ρ=λ_=>none
theorem UnderA.look{c1:Cx}(h:UnderA c1 c H){t:Bool}{b:Nat}{cs:List V}(hl:c1.look t b=some cs):H[b]? = some (.blk cs)/\(c.base<=b\/c.za b=some cs):=by
 grind [Cx.look,UnderA]
theorem UnderA.frz{c1:Cx}(h:UnderA c1 c H)(t:Bool):UnderA (c1.frz t) c H:=by
 refine⟨λb cs hb=>?_,h.zf,.inr rfl⟩<;> grind [Cx.frz,UnderA]
theorem R.zsZ{c1:Cx}(hu:UnderA c1 c H){β s n len st:Nat}{cap:Option Nat}{v:V}(hr:R c1 (.sl β s n len cap st) v):R c (.sl β s n len cap st) v:=by
 grind [UnderA,Go.Lx.R]
theorem RelH.zsZ(h:RelH c L H):UnderA c c H:=⟨λb cs hb=>⟨(h.za b cs hb).2,hb⟩,λb cs hb=>⟨(h.zf b cs hb).2,(h.zf b cs hb).1⟩,.inl rfl⟩
theorem ztJ(h:RelH c L H){t:Bool}{d d':D}(hs:Snp L t d d'):t=false->∀ {c1:Cx} {v:V},UnderA c1 c H->R c1 d v->R (znm c H) d' v:=by
 induction hs with
 | any=>intro _ c1 v _ _; exact .any v
 | lit v=>grind [Go.Lx.R]
 | nil n=>intro _ c1 v _ hr; cases hr; exact .fzn
 | same n els ht=>simp_all
 | fz0 t' n=>
  grind [Go.Lx.R]
 | z0 t' n=>
  grind [Go.Lx.R]
 | @fz t' n els els' ht hlen hc hd ih=>
  intro ht' c1 v hu hr;subst ht';cases hr with
  | fz0=>
   grind [Go.Lx.R]
  | fzn=>
   grind [Go.Lx.R]
  | fz h1 h2 h3 h4 h5 h6=>
   rename_i b o cap cs;obtain⟨g1,g2⟩:=hu.look h1;rw[hlen];have hel:∀(i:Nat) cells',els'[i]? = some cells'->∃ cells,els[i]? = some cells:=λi cells' hi=>by
    grind
   refine .fz (zhc g1 g2) h2 (by rw[<- hlen]; exact h3) (by rw[<- hlen]; exact h4) (λi cells' hi=>?_) λi cells' k d' v hi hk hv=>?_
   .grind
   .obtain⟨cells,hi0⟩:=hel i cells' hi;have hkl:=(qab.1 hk).1;have hk0:cells[k]? = some (cells[k]'(by rw[hc i cells cells' hi0 hi]; exact hkl)):=qac _;rw[zix];exact ih i k cells cells' _ d' hi0 hi hk0 hk rfl (hu.frz t') (h6 i cells k _ v hi0 hk0 hv)
 | @sl β s n len cap st es els' he hle hcap hlen hc hd ih=>
  intro ht' c1 v hu hr;subst ht';have hr0:=R.zsZ hu hr;subst hlen;rcases slR h he hr0 with⟨b,vs,q1,rfl,q2,q3⟩| ⟨rfl,rfl,h0,_,_,rfl,_⟩
  .obtain⟨e1,e2,_⟩:=ze3 h he;have hob:=(h.own β _ b q1 rfl).1;have hel:∀(i:Nat) cells',els'[i]? = some cells'->∃ cells,es[s+i]? = some cells:=λi cells' hi=>by
    grind
   have hroom:s * n+els'.length * n<=vs.length:=by rw[q3.zn9,<- qaQ]; exact qas n hle
   refine .fz (zhc q2 (.inl hob)) e1 hcap hroom (λi cells' hi=>?_) λi cells' k d' v hi hk hv=>?_
   .grind [Go.Lx.Els]
   obtain⟨cells,hi0⟩:=hel i cells' hi;have hcl:=q3.len cells (qaC hi0);have hkl:=(qab.1 hk).1;have hcc:=hc i cells cells' hi0 hi;have hk0:cells[k]? = some (cells[k]'(by omega)):=qac _;rw[zix]
   have hrel:=(q3.at_ hi0).2 k _ v hk0 (by
    rw[qbm,if_pos (by omega),qbp,<- hv];congr 1
    rw[qaQ])
   exact ih i k cells cells' _ d' hi0 hi hk0 hk rfl h.zsZ hrel
  .grind [Go.Lx.R]
 | @ptr β o ds ds' hL hle hd ih=>
  intro ht' c1 v hu hr;subst ht';cases hr with
  | ptr g1=>
   rename_i b0;have g2:c.ρ β=some (.cell b0):=by
    grind [UnderA]
   obtain⟨b,vs,k1,k2,k3⟩:=h.obj β _ hL;rw[g2]at k1;cases k1;have hob:=(h.own β _ _ g2 rfl).1
   grind [zhc,zix,UnderA,Go.Lx.R,Go.Lx.RelH,Go.Lx.Rs]
 | @clo f xs ys xs' ys' h1 h2 _ _ ih1 ih2=>
  grind [Go.Lx.R]
 | @fptr t' ds ds' ht hlen hd ih=>
  intro ht' c1 v hu hr;subst ht';cases hr with
  | fptr h1 h2 h3=>
   obtain⟨g1,g2⟩:=hu.look h1;refine .fptr (zhc g1 g2) (by rw[<- hlen]; exact h2) λk d' v hk hv=>?_
   have hkl:=(qab.1 hk).1;have hk0:ds[k]? = some (ds[k]'(by omega)):=qac _;rw[zix];exact ih k _ d' hk0 hk rfl (hu.frz t') (h3 k _ v hk0 hv)
 | ifc _ ih=>intro ht' c1 v hu hr; cases hr with | ifc g=>exact .ifc (ih ht' hu g)
 | @agg ds ds' h1 _ ih=>
  grind [Go.Lx.R]
 | @tup ds ds' h1 _ ih=>
  grind [Go.Lx.R]
def zv1(rs:List RX)(res:D):LX->LSt->Prop:=λx S'=>(x=.ret\/x=.normal)/\∃ ds,zfQ S'.heap S'.env rs=some ds/\Snp S'.heap false (zdX ds) res
theorem zv1.ret{rs:List RX}{res:D}{ds:List D}(h:zfQ S.heap S.env rs=some ds)(hs:Snp S.heap false (zdX ds) res):zv1 rs res .ret S:=⟨.inl rfl,ds,h,hs⟩
theorem FnA.intro{f:Nat}{fn:Mx.Fn}{args:List D}{res:D}(hf:fns.has f fn)(hN:args.length<=fn.N)(hp:fn.p=false)
  (h:EvL fns 0 [.code fn.c] ⟨fn.N,zeY 0 args,[]⟩ (zv1 fn.rs res)):FnA fns f args res:=by
 intro z B H vs hz hB hr;have hH:RelH ⟨z,λ_=>none,λ_=>none,H.length⟩ [] H:=⟨qap _,λb cs hb=>⟨(qab.1 (hz b cs hb)).1,hz b cs hb⟩,λb cs hb=>(by cases hb),λβ x b hx=>(by cases hx),λβ β' x x' b hx=>(by cases hx),λβ x hx=>(by cases hx),λβ o ho=>(by simp at ho)⟩;have hrel:=zjP hH hr hN;have hN':vs.length<=fn.N:=by rw[<- hr.1]; exact hN
 have post:EvC fns B none fn.c ⟨vs ++ List.replicate (fn.N - vs.length) zbc,[],H⟩ λex M'=>(ex=.ret\/ex=.normal)/\∃ H2:zam,Leaves B M'.dfs M'.heap H2/\∃ us,zcL H2 M'.env fn.rs=some us /\
   H.length<=H2.length/\(∀ b:Nat,b<H.length->H2[b]? = H[b]?)/\∃ zf:Nat->Option (List V),(∀ b cs,zf b=some cs->H.length<=b/\H2[b]? = some (.blk cs))/\R ⟨z,zf,λ_=>none,H.length⟩ res (zhB us):=by
  refine EvC.mono (h _ H _ B none _ (zCW.none _) (Way.start _ _ _ _) hrel hB) ?_;intro ex M' hx;have hx':=zg9 hx;obtain⟨c',S',x,h1,h2,h3,h4,ds,h5,h6⟩:=hx';have hex:ex=.ret\/ex=.normal:=by
   grind [Go.Lx.XR]
  obtain⟨H2,l1,l2,l3⟩:=h1.leave h2.heap hB;have h2':Rel c' S' { M' with heap:=H2 }:=⟨h2.env,h2.len,l2⟩;obtain⟨us,g1,g2⟩:=zen h2' h5;have hsn:=ztJ l2 h6 rfl l2.zsZ (zgx g2);have hbase:c'.base=H.length:=h1.step.base;have hza:c'.za=z:=h1.step.za;refine⟨hex,H2,l1,us,g1,l3.len,λb hb=>l3.zgl b hb λβ x hx=>(by cases hx),λb=>if H.length<=b then zax H2 b else none,λb cs hb=>?_,?_⟩
  .grind [zdF]
  refine hsn.mono ⟨λb cs hb=>(by simp only[znm,hza]at hb; exact hb),λb cs hb=>(by simp only[znm,hbase]at hb; exact hb),λβ x hx=>(by cases hx),λb cs cs' h1 h2=>?_⟩<;> grind
 grind [EvF.plain]
theorem zsy(L:List LB)(n:Nat)(lo hi mx:Option Int):zul L n lo hi mx (.lit (.slice none 0 0))=(match bounds 0 (some 0) lo hi mx with | some _=>some (.lit (.slice none 0 0))| none=>none):=rfl
theorem zwz(L:List LB)(n:Nat)(lo hi mx:Option Int)(β s n' len:Nat)(cap:Option Nat)(st:Nat):zul L n lo hi mx (.sl β s n' len cap st)=(if n=n' then(match zgP L β n st with
  | some _=>(match bounds len cap lo hi mx with
   | some (l,h,c)=>if mx=none then some (.sl β (s+l) n (h - l) c st)else none
   | none=>none)
  | none=>none)else none):=rfl
theorem zuI(L:List LB)(n:Nat)(lo hi mx:Option Int)(t:Bool)(n':Nat)(els:List (List D)):zul L n lo hi mx (.fz t n' els)=(if n=n' then zDC t n els lo hi mx else none):=rfl
end
end Go.Lx
