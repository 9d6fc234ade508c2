/-
 Rules for what the machine does, in steps as great as one likes. Conditions: none.
-/
import Derived.Test.YtbjogdohfhdaiaaGreatErMx22
set_option linter.unusedSimpArgs false
set_option linter.unusedVariables false
namespace Go.Lx
open Go Go.Mx
structure Mach where
 fns:Nat->Option Mx.Fn
 orc:Orc
def Mach.run(m:Mach)(n:Nat):Rec:=zvl m.orc m.fns n
def Mach.has(m:Mach)(f:Nat)(fn:Mx.Fn):Prop:=m.fns f=some fn/\∀ B args h,m.orc B f args h=none
theorem Mach.zni{m:Mach}{f:Nat}{fn:Mx.Fn}(h:m.has f fn)(n B:Nat)(args:List V)(hp:zam):(m.run (n+1)).call B f args hp=zi2 (m.run n) m.fns B f args hp:=by
 grind [zjH,zvl,Go.Lx.Mach.run,Go.Lx.Mach.has]
section
variable (fns:Mach)
def EvC(B:Nat)(rd:Option Nat)(c:C)(S:St)(Q:Ex->St->Prop):Prop:=∃ N ex S',(∀ n,N<=n->exec (fns.run n) B rd c S=some (ex,S'))/\Q ex S'
def EvO(B:Nat)(bar top e:Bool)(l:List O)(S:St)(Q:Ex->St->Prop):Prop:=∃ N ex S',(∀ n,N<=n->zbg (fns.run n) B bar top e l S=some (ex,S'))/\Q ex S'
def EvF(B f:Nat)(args:List V)(h:zam)(Q:CR->zam->Prop):Prop:=∃ N cr h',(∀ n,N<=n->(fns.run n).call B f args h=some (cr,h'))/\Q cr h'
end
section
variable {fns:Mach} {B:Nat} {rd:Option Nat} {bar top e:Bool} {S:St} {Q:Ex->St->Prop}
theorem EvC.mono{Q':Ex->St->Prop}{c:C}(h:EvC fns B rd c S Q)(hq:∀ ex S',Q ex S'->Q' ex S'):EvC fns B rd c S Q':=by
 obtain⟨N,ex,S',h1,h2⟩:=h;exact⟨N,ex,S',h1,hq _ _ h2⟩
variable{f:Nat}{args:List V}{h:zam}
theorem EvF.mono{Q Q':CR->zam->Prop}(hf:EvF fns B f args h Q)(hq:∀ cr h',Q cr h'->Q' cr h'):EvF fns B f args h Q':=by
 obtain⟨N,cr,h',h1,h2⟩:=hf;exact⟨N,cr,h',h1,hq _ _ h2⟩
theorem EvO.nil(h:Q .normal S):EvO fns B bar top e [] S Q:=⟨0,.normal,S,λ_ _=>rfl,h⟩
variable{l:List O}
theorem EvO.skip{o:O}(hw:wanted S.env o.g=false)(h:EvO fns B bar top e l (S.put o.dst zbc) Q):EvO fns B bar top e (o :: l) S Q:=by
 simp_all [zbg,zdv,EvO]
theorem EvO.quiet{o:O}{v:V}(hw:wanted S.env o.g=true)(hi:zak o.i=true)(hq:q S.heap S.env o.i=some v)(h:EvO fns B bar top e l (S.put o.dst v) Q):EvO fns B bar top e (o :: l) S Q:=by
 obtain⟨N,ex,S',h1,h2⟩:=h;refine⟨N,ex,S',λn hn=>?_,h2⟩<;> grind [zbg,zdv,zak]
theorem EvO.eff{o:O}{l:List O}{v:V}{hp:zam}(hw:wanted S.env o.g=true)(hi:zak o.i=false)(hq:Mx.eff B S.heap S.env o.i=some (v,hp))(h:EvO fns B bar top e l ({ S with heap:=hp }.put o.dst v) Q):EvO fns B bar top e (o :: l) S Q:=by
 obtain⟨N,ex,S',h1,h2⟩:=h;refine⟨N,ex,S',λn hn=>?_,h2⟩
 grind [zbg,zdv,Go.Mx.eff]
theorem EvO.call{o:O}{xs:List X}{vs:List V}(hw:wanted S.env o.g=true)(hi:o.i=.call f xs)(hv:evs S.env xs=some vs)(h:EvF fns (bif zrn bar f then S.heap.length else B) f vs S.heap λcr hp=>match cr with | .ret v=>EvO fns B bar top e l ({ S with heap:=hp }.put o.dst v) Q | .pan v=>Q (.panic v e) { S with heap:=hp }):EvO fns B bar top e (o :: l) S Q:=by
 obtain⟨N,cr,h',h1,h2⟩:=h;cases cr with
 | ret v=>
  obtain⟨N2,ex,S',h3,h4⟩:=h2;refine⟨max N N2,ex,S',λn hn=>?_,h4⟩<;> grind [zbg,zdv,zpM]
 | pan v=>
  refine⟨N,_,_,λn hn=>?_,h2⟩<;> grind [zbg,zdv,zpM]
theorem EvC.reg{dr:Bool}{os:List O}(h:EvO fns B bar rd.isNone (!dr) os S Q):EvC fns B rd (.reg dr bar os) S Q:=h
theorem EvC.skip(h:Q .normal S):EvC fns B rd .skip S Q:=⟨0,_,_,λ_ _=>rfl,h⟩
theorem EvC.label{t:Nat}(h:Q .normal S):EvC fns B rd (.label t) S Q:=⟨0,_,_,λ_ _=>rfl,h⟩
theorem EvC.ret(h:Q .ret S):EvC fns B rd .ret S Q:=⟨0,_,_,λ_ _=>rfl,h⟩
theorem EvC.exit{id:Nat}(h:Q (.exit id) S):EvC fns B rd (.exit id) S Q:=⟨0,_,_,λ_ _=>rfl,h⟩
theorem EvC.seq{a b:C}(h:EvC fns B rd a S λex S'=>match ex with | .normal=>EvC fns B rd b S' Q | ex=>Q ex S'):EvC fns B rd (.seq a b) S Q:=by
 obtain⟨N,ex,S',h1,h2⟩:=h;cases ex with
 | normal=>
  obtain⟨N2,ex,S2,h3,h4⟩:=h2;exact⟨max N N2,ex,S2,λn hn=>by rw[exec,h1 n (by omega)]; exact h3 n (by omega),h4⟩
 | _=>exact⟨N,_,S',λn hn=>by rw[exec,h1 n hn],h2⟩
theorem EvC.cond{x:X}{a b:C}{t:Bool}(hx:evB S.env x=some t)(h:EvC fns B rd (bif t then a else b) S Q):EvC fns B rd (.cond x a b) S Q:=by
 obtain⟨N,ex,S',h1,h2⟩:=h;refine⟨N,ex,S',λn hn=>?_,h2⟩<;> grind [exec]
theorem EvC.block{id:Nat}{c:C}(h:EvC fns B rd c S λex S'=>match ex with | .exit id'=>if id'=id then Q .normal S' else Q (.exit id') S' | ex=>Q ex S'):EvC fns B rd (.block id c) S Q:=by
 obtain⟨N,ex,S',h1,h2⟩:=h;cases ex with
 | exit id'=>
  simp only at h2;by_cases hid:id'=id
  .rw[if_pos hid]at h2;subst hid;exact⟨N,_,S',λn hn=>by rw[exec,h1 n hn]; simp,h2⟩
  .rw[if_neg hid]at h2;have hb:(id' == id)=false:=by simp[hid]
   exact⟨N,_,S',λn hn=>by rw[exec,h1 n hn]; simp only[hb,qdu],h2⟩
 | _=>exact⟨N,_,S',λn hn=>by rw[exec,h1 n hn],h2⟩
theorem EvC.loop{c:C}(h:EvC fns B rd c S λex S'=>match ex with | .normal=>EvC fns B rd (.loop c) S' Q | ex=>Q ex S'):EvC fns B rd (.loop c) S Q:=by
 obtain⟨N,ex,S',h1,h2⟩:=h;cases ex with
 | normal=>
  obtain⟨N2,ex,S2,h3,h4⟩:=h2;refine⟨max N (N2+1),ex,S2,λn hn=>?_,h4⟩;rw[exec,h1 n (by omega)];obtain⟨m,rfl⟩:∃ m,n=m+1:=⟨n - 1,by omega⟩;exact h3 m (by omega)
 | _=>exact⟨N,_,S',λn hn=>by rw[exec,h1 n hn],h2⟩
def Leaves(B:Nat)(dfs:List Df)(H H':zam):Prop:=∀ r pv,leave r B pv dfs H=some (pv,H')
def ziM(n:Nat)(dfs:List Df)(H:zam):Prop:=∃ l:List Nat,dfs=l.map .coll/\l.Nodup/\∀ d∈l,n<=d/\H[d]? = some .dfr
theorem ziM.nil(n:Nat)(H:zam):ziM n [] H:=⟨[],rfl,List.nodup_nil,λd h=>(by cases h)⟩
theorem ziM.leaves{n B:Nat}(hB:B<=n){dfs:List Df}{H:zam}(h:ziM n dfs H):∃ H',Leaves B dfs H H'/\H'.length=H.length/\(∀ b:Nat,H[b]?≠some Ob.dfr->H'[b]? = H[b]?)/\∀ b:Nat,b<n->H'[b]? = H[b]?:=by
 obtain⟨l,rfl,hn,hd⟩:=h;induction l generalizing H with
 | nil=>exact⟨H,λ_ _=>rfl,rfl,λ_ _=>rfl,λ_ _=>rfl⟩
 | cons d l ih=>
  obtain⟨h1,h2⟩:=qaR.1 hn;obtain⟨g1,g2⟩:=hd d (by simp)
  obtain⟨H',k1,k2,k3,k4⟩:=ih (H:=H.set d .dead) h2 λe he=>⟨(hd e (by simp[he])).1,by
   grind⟩
  grind [leave,qat,Leaves]
theorem EvF.pure{fn:Mx.Fn}{v:V}(hf:fns.has f fn)(hp:fn.p=true)(hN:args.length<=fn.N)(hB:B<=h.length)(hv:v.plain=true)(hb:EvC fns h.length none fn.c ⟨args ++ List.replicate (fn.N - args.length) zbc,[],h⟩ λex S'=>(ex=.ret\/ex=.normal)/\∃ H',Leaves h.length S'.dfs S'.heap H'/\(zcL H' S'.env fn.rs).map zhB=some v):
  EvF fns B f args h λcr h'=>cr=.ret v/\h'=h:=by
 obtain⟨N,ex,S',h1,h2,H',h3,h4⟩:=hb;refine⟨N+1,_,_,λn hn=>?_,rfl,rfl⟩;obtain⟨m,rfl⟩:∃ m,n=m+1:=⟨n - 1,by omega⟩;have h5:=h1 m (by omega);rw[Mach.zni hf];unfold zi2;rw[hf.1];simp only[hp,qdt,qat hB,body,qat hN,h5];cases hx:zcL H' S'.env fn.rs<;>grind [fin,forget,Leaves]
theorem EvF.plain{fn:Mx.Fn}{Q:CR->zam->Prop}(hf:fns.has f fn)(hp:fn.p=false)(hN:args.length<=fn.N)(hb:EvC fns B none fn.c ⟨args ++ List.replicate (fn.N - args.length) zbc,[],h⟩ λex S'=>(ex=.ret\/ex=.normal)/\∃ H',Leaves B S'.dfs S'.heap H'/\∃ vs,zcL H' S'.env fn.rs=some vs/\Q (.ret (zhB vs)) H'):
  EvF fns B f args h Q:=by
 obtain⟨N,ex,S',h1,h2,H',h3,vs,h4,h6⟩:=hb;refine⟨N+1,_,_,λn hn=>?_,h6⟩;obtain⟨m,rfl⟩:∃ m,n=m+1:=⟨n - 1,by omega⟩;have h5:=h1 m (by omega);rw[Mach.zni hf]
 grind [zi2,body,qat,fin,Leaves,Go.Lx.Mach.has]
end
inductive D where
 | any
 | lit (v:Value)
 | ptr (β o:Nat)
 | eptr (β n i off st:Nat)
 | fptr (t:Bool) (ds:List D)
 | sl (β s n len:Nat) (cap:Option Nat) (st:Nat)
 | fz (t:Bool) (n:Nat) (els:List (List D))
 | z0 (t:Bool) (n:Nat)
 | clo (f:Nat) (first cap:List D)
 | yld (l:Nat)
 | ifc (t:TypeId) (d:D)
 | agg (ds:List D)
 | tup (ds:List D)
 deriving Inhabited
inductive LB where
 | cells (ds:List D)
 | els (n:Nat) (es:List (List D))
 | grow (n:Nat) (es:List (List D))
 | gone
 | lp (st:Bool) (pend:Option Jump) (N:Nat) (E:List (Nat×D)) (ps:List Nat) (asg body:C)
 | lost
 deriving Inhabited
inductive Lc where
 | cell (b:Nat)
 | list (b m:Nat)
 | ghost
def Lc.blk:Lc->Option Nat
 | .cell b=>some b
 | .list b _=>some b
 | .ghost=>none
structure Cx where
 za:Nat->Option (List V)
 zf:Nat->Option (List V)
 ρ:Nat->Option Lc
 base:Nat
def Cx.frz(c:Cx)(t:Bool):Cx:={ c with za:=λb=>if t then none else c.za b,ρ:=λ_=>none }
def Cx.look(c:Cx)(t:Bool)(b:Nat):Option (List V):=
 match c.zf b with
 | some cs=>some cs
 | none=>if t then none else c.za b
inductive R:Cx->D->V->Prop
 | any {c} (v):R c .any v
 | lit {c} (v):R c (.lit v) (.lit v)
 | ptr {c β o b}:c.ρ β=some (.cell b)->R c (.ptr β o) (.ptr b o)
 | eptr {c β n i off st b m v}:c.ρ β=some (.list b m)->((st<m/\v.one=true)\/(st=m/\v=.ptr b (i * n+off)))->R c (.eptr β n i off st) v
 | sl {c β s n len cap st b m v}:c.ρ β=some (.list b m)->((st<m/\v.one=true)\/(st=m/\v=.sl b (s * n) n len cap))->R c (.sl β s n len cap st) v
 | slg {c β n}:c.ρ β=some .ghost->R c (.sl β 0 n 0 none 0) (.lit (.slice none 0 0))
 | fz {c t n els b o cap cs}:c.look t b=some cs->0<n->(∀ k,cap=some k->els.length<=k)->o+els.length * n<=cs.length ->
   (∀(i:Nat) (cells:List D),els[i]? = some cells->cells.length=n)->
   (∀(i:Nat) (cells:List D) (k:Nat) d v,els[i]? = some cells->cells[k]? = some d->cs[o+i * n+k]? = some v->R (c.frz t) d v)->R c (.fz t n els) (.sl b o n els.length cap)
 | fz0 {c t n b o cap}:R c (.fz t n []) (.sl b o n 0 cap)
 | fzn {c t n}:R c (.fz t n []) (.lit (.slice none 0 0))
 | z0 {c t n b o cs}:c.look t b=some cs->o<=cs.length->R c (.z0 t n) (.sl b o n 0 (some 0))
 | z0n {c t n}:R c (.z0 t n) (.lit (.slice none 0 0))
 | fptr {c t ds b o cs}:c.look t b=some cs->o+ds.length<=cs.length->(∀(k:Nat) d v,ds[k]? = some d->cs[o+k]? = some v->R (c.frz t) d v)->R c (.fptr t ds) (.ptr b o)
 | clo {c f xs ys vs us}:xs.length=vs.length->ys.length=us.length->(∀(i:Nat) d v,xs[i]? = some d->vs[i]? = some v->R c d v)->
   (∀(i:Nat) d v,ys[i]? = some d->us[i]? = some v->R c d v)->R c (.clo f xs ys) (.clo f vs us)
 | yld {c l b}:c.ρ l=some (.cell b)->R c (.yld l) (.yld b)
 | ifc {c t d v}:R c d v->R c (.ifc t d) (.ifc t v)
 | agg {c ds vs}:ds.length=vs.length->(∀(i:Nat) d v,ds[i]? = some d->vs[i]? = some v->R c d v)->R c (.agg ds) (.agg vs)
 | tup {c ds vs}:ds.length=vs.length->(∀(i:Nat) d v,ds[i]? = some d->vs[i]? = some v->R c d v)->R c (.tup ds) (.tup vs)
def Rs(c:Cx)(ds:List D)(vs:List V):Prop:=ds.length=vs.length/\∀(i:Nat) d v,ds[i]? = some d->vs[i]? = some v->R c d v
theorem Rs.nil(c:Cx):Rs c [] []:=⟨rfl,λi d v h=>by simp at h⟩
variable{c:Cx}{d:D}{ds:List D}{vs:List V}
theorem Rs.cons{v:V}(h:R c d v)(hs:Rs c ds vs):Rs c (d :: ds) (v :: vs):=by
 grind [Rs]
theorem Rs.inv(hs:Rs c (d :: ds) vs):∃ v vs',vs=v :: vs'/\R c d v/\Rs c ds vs':=by
 cases vs with
 | nil=>simp[Rs]at hs
 | cons v vs'=>exact⟨v,vs',rfl,hs.2 0 d v rfl rfl,⟨by simpa using hs.1,λi d' v' h1 h2=>hs.2 (i+1) d' v' (by simpa using h1) (by simpa using h2)⟩⟩
theorem Rs.get(hs:Rs c ds vs){i:Nat}(h:ds[i]? = some d):∃ v,vs[i]? = some v/\R c d v:=by
 have hi:i<vs.length:=by rw[<- hs.1]; exact(qab.1 h).1
 exact⟨vs[i],qac hi,hs.2 i d _ h (qac hi)⟩
theorem Rs.append{ds':List D}{vs':List V}(h:Rs c ds vs)(h':Rs c ds' vs'):Rs c (ds ++ ds') (vs ++ vs'):=by
 grind [Rs]
theorem Rs.take(h:Rs c ds vs)(k:Nat):Rs c (ds.take k) (vs.take k):=by
 grind [Rs]
theorem Rs.drop(h:Rs c ds vs)(k:Nat):Rs c (ds.drop k) (vs.drop k):=by
 grind [Rs]
theorem Rs.lits(l:List Value):Rs c (l.map .lit) (l.map .lit):=by
 refine⟨by simp,λi d v h1 h2=>?_⟩
 grind [Go.Lx.R]
def Lc.up:Lc->Lc->Prop
 | .cell b,x=>x=.cell b
 | .list b m,x=>x=.list b m\/∃ b' m',x=.list b' m'/\m<m'
 | .ghost,x=>x=.ghost\/∃ b' m',x=.list b' m'/\0<m'
theorem Lc.up.refl(x:Lc):x.up x:=by
 grind [Lc,Go.Lx.Lc.up]
structure Cx.le (c c':Cx):Prop where
 za:∀ b cs,c.za b=some cs->c'.za b=some cs
 zf:∀ b cs,c.zf b=some cs->c'.zf b=some cs
 ρ:∀ β x,c.ρ β=some x->∃ x',c'.ρ β=some x'/\x.up x'
 apart:∀ b cs cs',c'.zf b=some cs->c'.za b=some cs'->cs=cs'
theorem Cx.le.look{c c':Cx}(h:c.le c'){t:Bool}{b:Nat}{cs:List V}(hl:c.look t b=some cs):c'.look t b=some cs:=by
 grind [Cx.look,Go.Lx.Cx.le]
theorem Cx.le.frz{c c':Cx}(h:c.le c')(t:Bool):(c.frz t).le (c'.frz t) where
 za b cs hb:=by
  grind [Cx.frz,Go.Lx.Cx.le]
 zf b cs hb:=h.zf b cs hb
 ρ β x hx:=by simp[Cx.frz]at hx
 apart b cs cs' h1 h2:=by
  grind [Cx.frz,Go.Lx.Cx.le]
theorem R.mono{c':Cx}{v:V}(hr:R c d v)(h:c.le c'):R c' d v:=by
 induction hr generalizing c' with
 | any v=>exact .any v
 | lit v=>exact .lit v
 | ptr h1=>obtain⟨x',g1,g2⟩:=h.ρ _ _ h1; cases g2; exact .ptr g1
 | eptr h1 h2=>
  obtain⟨x',g1,g2⟩:=h.ρ _ _ h1
  grind [R,Go.Mx.V.one,Go.Lx.Lc.up]
 | sl h1 h2=>
  obtain⟨x',g1,g2⟩:=h.ρ _ _ h1
  grind [R,Go.Mx.V.one,Go.Lx.Lc.up]
 | slg h1=>
  obtain⟨x',g1,g2⟩:=h.ρ _ _ h1;rcases g2 with rfl | ⟨b',m',rfl,g2⟩
  .exact .slg g1
  .exact .sl g1 (.inl ⟨g2,rfl⟩)
 | fz h1 h2 h3 h4 h5 _ ih=>exact .fz (h.look h1) h2 h3 h4 h5 λi cells k d v g1 g2 g3=>ih i cells k d v g1 g2 g3 (h.frz _)
 | fz0=>exact .fz0
 | fzn=>exact .fzn
 | z0 h1 h2=>exact .z0 (h.look h1) h2
 | z0n=>exact .z0n
 | fptr h1 h2 _ ih=>exact .fptr (h.look h1) h2 λk d v g1 g2=>ih k d v g1 g2 (h.frz _)
 | clo h1 h2 _ _ ih1 ih2=>grind [R]
 | yld h1=>obtain⟨x',g1,g2⟩:=h.ρ _ _ h1; cases g2; exact .yld g1
 | ifc _ ih=>exact .ifc (ih h)
 | agg h1 _ ih=>grind [R]
 | tup h1 _ ih=>grind [R]
theorem Rs.mono{c c':Cx}{ds:List D}{vs:List V}(hr:Rs c ds vs)(h:c.le c'):Rs c' ds vs:=⟨hr.1,λi d v h1 h2=>(hr.2 i d v h1 h2).mono h⟩
theorem R.zu7(hap:∀ b cs cs',c.zf b=some cs->c.za b=some cs'->cs=cs'){t:Bool}{v:V}(hr:R (c.frz t) d v):R c d v:=by
 refine hr.mono ⟨λb cs hb=>?_,λb cs hb=>hb,λβ x hx=>(by simp[Cx.frz]at hx),hap⟩<;> grind [Cx.frz]
structure Els (c:Cx) (n:Nat) (es:List (List D)) (vs:List V):Prop where
 len:∀ cells,cells∈es->cells.length=n
 rel:Rs c es.flatten vs
theorem Els.mono{c c':Cx}{n:Nat}{es:List (List D)}{vs:List V}(h:Els c n es vs)(hl:c.le c'):Els c' n es vs:=⟨h.len,h.rel.mono hl⟩
def lk:List (Nat×D)->Nat->Option D
 | [],_=>none
 |(k,d):: r,j=>if k=j then some d else lk r j
def zcq(c:Cx)(E:List (Nat×D))(env:List V):Prop:=∀ k d,lk E k=some d->∃ v,env[k]? = some v/\R c d v
theorem zcq.mono{c c':Cx}{E:List (Nat×D)}{env:List V}(h:zcq c E env)(hl:c.le c'):zcq c' E env:=λk d hk=>by
 obtain⟨v,g1,g2⟩:=h k d hk;exact⟨v,g1,g2.mono hl⟩
def ze4(c:Cx)(H:zam)(β:Nat):LB->Prop
 | .cells ds=>∃ b vs,c.ρ β=some (.cell b)/\H[b]? = some (.blk vs)/\Rs c ds vs
 | .els n es=>0<n/\((es=[]/\c.ρ β=some .ghost)\/∃ b vs,c.ρ β=some (.list b es.length)/\H[b]? = some (.blk vs)/\Els c n es vs)
 | .grow n es=>0<n/\((es=[]/\c.ρ β=some .ghost)\/(es≠[]/\∃ b vs,c.ρ β=some (.list b es.length)/\H[b]? = some (.blk vs)/\Els c n es vs))
 | .gone=>c.ρ β=none
 | .lp st pend N E ps asg body=>∃ b env,c.ρ β=some (.cell b)/\H[b]? = some (.loop st pend env ps asg body)/\env.length=N/\zcq c E env
 | .lost=>∃ b,c.ρ β=some (.cell b)/\H[b]? = some .dead
structure RelH (c:Cx) (L:List LB) (H:zam):Prop where
 base:c.base<=H.length
 za:∀ b cs,c.za b=some cs->b<c.base/\H[b]? = some (.blk cs)
 zf:∀ b cs,c.zf b=some cs->c.base<=b/\H[b]? = some (.blk cs)
 own:∀ β x b,c.ρ β=some x->x.blk=some b->c.base<=b/\b<H.length/\c.zf b=none
 inj:∀ β β' x x' b,c.ρ β=some x->c.ρ β'=some x'->x.blk=some b->x'.blk=some b->β=β'
 scope:∀ β x,c.ρ β=some x->β<L.length
 obj:∀ β o,L[β]? = some o->ze4 c H β o
variable{H:zam}
theorem RelH.apart{L:List LB}(h:RelH c L H)(b:Nat)(cs cs':List V)(h1:c.zf b=some cs)(h2:c.za b=some cs'):cs=cs':=by
 grind [RelH]
theorem RelH.look{c:Cx}{L:List LB}{H:zam}(h:RelH c L H){t:Bool}{b:Nat}{cs:List V}(hl:c.look t b=some cs):H[b]? = some (.blk cs):=by
 grind [Cx.look,RelH]
def ztp(H:zam)(b:Nat):Prop:=∃ st pend env ps asg body,H[b]? = some (Ob.loop st pend env ps asg body)
theorem ztp.lt{b:Nat}(h:ztp H b):b<H.length:=by
 grind [ztp]
theorem ztp.zgl{H':zam}{b:Nat}(h:ztp H b)(e:H'[b]? = H[b]?):ztp H' b:=by
 grind [ztp]
structure Step (c:Cx) (H:zam) (c':Cx) (H':zam):Prop where
 len:H.length<=H'.length
 za:c'.za=c.za
 base:c'.base=c.base
 zf:∀ b cs,c.zf b=some cs->c'.zf b=some cs
 zgl:∀ b,b<H.length->(∀ β x,c.ρ β=some x->x.blk≠some b)->H'[b]? = H[b]?
 own:∀ β x b,c'.ρ β=some x->x.blk=some b->(∃ β0 x0,c.ρ β0=some x0/\x0.blk=some b)\/H.length<=b
 lp:∀ b,ztp H b->ztp H' b
theorem Step.refl(c:Cx)(H:zam):Step c H c H:=⟨qap _,rfl,rfl,λ_ _ h=>h,λ_ _ _=>rfl,λβ x b h hb=>.inl ⟨β,x,h,hb⟩,λ_ h=>h⟩
theorem Step.trans{c c1 c2:Cx}{H H1 H2:zam}(h:Step c H c1 H1)(h':Step c1 H1 c2 H2):Step c H c2 H2 where
 len:=qaq h.len h'.len
 za:=h'.za.trans h.za
 base:=h'.base.trans h.base
 zf b cs hb:=h'.zf b cs (h.zf b cs hb)
 zgl b hb hn:=by
  grind [Step]
 own β x b hx hb:=by
  grind [Step]
 lp b hb:=h'.lp b (h.lp b hb)
structure LSt where
 N:Nat
 env:List (Nat×D)
 heap:List LB
structure Rel (c:Cx) (S:LSt) (M:St):Prop where
 env:∀ k d,lk S.env k=some d->∃ v,M.env[k]? = some v/\R c d v
 len:M.env.length=S.N
 heap:RelH c S.heap M.heap
end Go.Lx
