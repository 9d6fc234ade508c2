/-
 Trees: calls. A function by what it makes of trees. Conditions: none.
-/
import Derived.Test.YtbjogdohfhdaiaaGreatErJ27
set_option linter.unusedSimpArgs false
set_option linter.unusedVariables false
namespace Go.Lx
open Go Go.Mx
inductive Snp (L:List LB) (t:Bool):D->D->Prop
 | any:Snp L t .any .any
 | lit (v):Snp L t (.lit v) (.lit v)
 | nil (n):Snp L t (.lit (.slice none 0 0)) (.fz t n [])
 | same (n els):t=true->Snp L t (.fz t n els) (.fz t n els)
 | fz0 (t' n):Snp L t (.fz t' n []) (.fz t n [])
 | z0 (t' n):Snp L t (.z0 t' n) (.fz t n [])
 | fz {t' n els els'}:(t=true->t'=true)->els.length=els'.length->(∀(i:Nat) cells cells',els[i]? = some cells->els'[i]? = some cells'->cells.length=cells'.length)->
   (∀(i k:Nat) cells cells' d d',els[i]? = some cells->els'[i]? = some cells'->cells[k]? = some d->cells'[k]? = some d'->Snp L t d d')->Snp L t (.fz t' n els) (.fz t n els')
 | sl {β s n len cap st es els'}:zgP L β n st=some es->s+len<=es.length->(∀ c,cap=some c->len<=c)->len=els'.length->(∀(i:Nat) cells cells',es[s+i]? = some cells->els'[i]? = some cells'->cells.length=cells'.length)->
   (∀(i k:Nat) cells cells' d d',es[s+i]? = some cells->els'[i]? = some cells'->cells[k]? = some d->cells'[k]? = some d'->Snp L t d d')->Snp L t (.sl β s n len cap st) (.fz t n els')
 | clo {f xs ys xs' ys'}:xs.length=xs'.length->ys.length=ys'.length->(∀(i:Nat) d d',xs[i]? = some d->xs'[i]? = some d'->Snp L t d d')->(∀(i:Nat) d d',ys[i]? = some d->ys'[i]? = some d'->Snp L t d d')->Snp L t (.clo f xs ys) (.clo f xs' ys')
 | ptr {β o ds ds'}:L[β]? = some (.cells ds)->o+ds'.length<=ds.length->(∀(k:Nat) d d',ds[o+k]? = some d->ds'[k]? = some d'->Snp L t d d')->Snp L t (.ptr β o) (.fptr t ds')
 | fptr {t' ds ds'}:(t=true->t'=true)->ds.length=ds'.length->(∀(k:Nat) d d',ds[k]? = some d->ds'[k]? = some d'->Snp L t d d')->Snp L t (.fptr t' ds) (.fptr t ds')
 | ifc {ty d d'}:Snp L t d d'->Snp L t (.ifc ty d) (.ifc ty d')
 | agg {ds ds'}:ds.length=ds'.length->(∀(i:Nat) d d',ds[i]? = some d->ds'[i]? = some d'->Snp L t d d')->Snp L t (.agg ds) (.agg ds')
 | tup {ds ds'}:ds.length=ds'.length->(∀(i:Nat) d d',ds[i]? = some d->ds'[i]? = some d'->Snp L t d d')->Snp L t (.tup ds) (.tup ds')
inductive Snps (L:List LB) (t:Bool):List D->List D->Prop
 | nil:Snps L t [] []
 | cons {d d' ds ds'}:Snp L t d d'->Snps L t ds ds'->Snps L t (d :: ds) (d' :: ds')
variable{t:Bool}{ds':List D}
theorem Snps.len{L:List LB}{ds:List D}(h:Snps L t ds ds'):ds.length=ds'.length:=by induction h with | nil=>rfl | cons _ _ ih=>simp[ih]
theorem Snps.get{L:List LB}{ds:List D}(h:Snps L t ds ds'):∀(i:Nat) d d',ds[i]? = some d->ds'[i]? = some d'->Snp L t d d':=by
 induction h<;>grind
def full(t:Bool)(H:zam)(base:Nat):Cx where
 za:=λb=>if t then none else zax H b
 zf:=λb=>if t && decide (base<=b)then zax H b else none
 ρ:=λ_=>none
 base:=H.length
theorem zic(t:Bool)(H:zam)(base:Nat):(full t H base).frz t=full t H base:=by
 cases t<;>simp[full,Cx.frz]
theorem zgz{H:zam}{base b:Nat}{cs:List V}(h:H[b]? = some (.blk cs))(hb:t=true->base<=b):(full t H base).look t b=some cs:=by
 have:zax H b=some cs:=by simp[zax,h]
 cases t with
 | false=>simp[Cx.look,full,this]
 | true=>simp[Cx.look,full,this,hb rfl]
section
variable {fns:Mach} {k0:Nat} {Q:LX->LSt->Prop} {c:Cx} {L:List LB} {S S':LSt} {M:St} {H:zam} {B:Nat} {rd:Option Nat}
structure Under (c1 c:Cx) (H:zam):Prop where
 look:∀ t b cs,c1.look t b=some cs->H[b]? = some (.blk cs)/\(t=true->c.base<=b)
 ρ:c1.ρ=c.ρ\/c1.ρ=λ_=>none
theorem Under.frz{c1:Cx}(h:Under c1 c H)(hz:∀ b cs,c1.zf b=some cs->c1.look true b=some cs)(t:Bool):Under (c1.frz t) c H:=by
 refine⟨λt' b cs hl=>?_,.inr rfl⟩;unfold Cx.look at hl;cases hzb:c1.zf b with
 | some x=>
  grind [Cx.frz,Under]
 | none=>
  simp only[Cx.frz,hzb]at hl;cases t' with
  | true=>simp at hl
  | false=>
   cases t with
   | true=>simp at hl
   | false=>exact⟨(h.look false b cs (by simpa [Cx.look,hzb]using hl)).1,λh=>by cases h⟩
theorem zxc(c1:Cx)(b:Nat)(cs:List V)(h:c1.zf b=some cs):c1.look true b=some cs:=by simp[Cx.look,h]
theorem R.under{c1:Cx}(hu:Under c1 c H){β s n len st:Nat}{cap:Option Nat}{v:V}(hr:R c1 (.sl β s n len cap st) v):R c (.sl β s n len cap st) v:=by
 grind [Under,Go.Lx.R]
theorem zoW(h:RelH c L H){t:Bool}{d d':D}(hs:Snp L t d d'):∀ {c1:Cx} {v:V},Under c1 c H->R c1 d v->R (full t H c.base) d' v:=by
 induction hs with
 | any=>intro c1 v _ _; exact .any v
 | lit v=>intro c1 v _ hr; cases hr; exact .lit _
 | nil n=>intro c1 v _ hr; cases hr; exact .fzn
 | same n els ht=>
  intro c1 v hu hr;subst ht;cases hr with
  | fz0=>exact .fz0
  | fzn=>exact .fzn
  | fz h1 h2 h3 h4 h5 h6=>
   rename_i b o cap cs;obtain⟨g1,g2⟩:=hu.look _ _ _ h1;refine .fz (zgz g1 λ_=>g2 rfl) h2 h3 h4 h5 λi cells k d v k1 k2 k3=>?_
   rw[zic];refine(h6 i cells k d v k1 k2 k3).mono ⟨λb cs hb=>?_,λb cs hb=>?_,λβ x hx=>by simp[Cx.frz]at hx,λb cs cs' _ h2=>by simp[full]at h2⟩<;> grind [Cx.frz,full,zbW,Cx.look,Under]
 | fz0 t' n=>
  grind [Go.Lx.R]
 | z0 t' n=>
  grind [Go.Lx.R]
 | @fz t' n els els' ht hlen hc hd ih=>
  intro c1 v hu hr;cases hr with
  | fz0=>
   grind [Go.Lx.R]
  | fzn=>
   grind [Go.Lx.R]
  | fz h1 h2 h3 h4 h5 h6=>
   rename_i b o cap cs;obtain⟨g1,g2⟩:=hu.look _ _ _ h1;rw[hlen];have hel:∀(i:Nat) cells',els'[i]? = some cells'->∃ cells,els[i]? = some cells:=λi cells' hi=>by
    grind
   refine .fz (zgz g1 λh=>g2 (ht h)) h2 (by rw[<- hlen]; exact h3) (by rw[<- hlen]; exact h4) (λi cells' hi=>?_) λi cells' k d' v hi hk hv=>?_
   .grind
   .obtain⟨cells,hi0⟩:=hel i cells' hi;have hkl:=(qab.1 hk).1;have hk0:cells[k]? = some (cells[k]'(by rw[hc i cells cells' hi0 hi]; exact hkl)):=qac _;rw[zic];exact ih i k cells cells' _ d' hi0 hi hk0 hk (hu.frz (zxc c1) t') (h6 i cells k _ v hi0 hk0 hv)
 | @sl β s n len cap st es els' he hle hcap hlen hc hd ih=>
  intro c1 v hu hr;have hr0:=R.under hu hr;subst hlen;rcases slR h he hr0 with⟨b,vs,q1,rfl,q2,q3⟩| ⟨rfl,rfl,h0,_,_,rfl,_⟩
  .obtain⟨e1,e2,_⟩:=ze3 h he;have hob:=(h.own β _ b q1 rfl).1;have hel:∀(i:Nat) cells',els'[i]? = some cells'->∃ cells,es[s+i]? = some cells:=λi cells' hi=>by
    grind
   have hroom:s * n+els'.length * n<=vs.length:=by rw[q3.zn9,<- qaQ]; exact qas n hle
   refine .fz (zgz q2 λ_=>hob) e1 hcap hroom (λi cells' hi=>?_) λi cells' k d' v hi hk hv=>?_
   .grind [Go.Lx.Els]
   obtain⟨cells,hi0⟩:=hel i cells' hi;have hcl:=q3.len cells (qaC hi0);have hkl:=(qab.1 hk).1;have hcc:=hc i cells cells' hi0 hi;have hk0:cells[k]? = some (cells[k]'(by omega)):=qac _;rw[zic]
   have hrel:=(q3.at_ hi0).2 k _ v hk0 (by
    grind)
   exact ih i k cells cells' _ d' hi0 hi hk0 hk ⟨λt b cs hl=>⟨h.look hl,λht=>by
    subst ht;unfold Cx.look at hl;cases hz:c.zf b with
    | none=>rw[hz]at hl; simp at hl
    | some x=>exact(h.zf b x hz).1⟩,.inl rfl⟩ hrel
  .grind [Go.Lx.R]
 | @clo f xs ys xs' ys' h1 h2 _ _ ih1 ih2=>
  grind [Go.Lx.R]
 | @ptr β o ds ds' hL hle hd ih=>
  intro c1 v hu hr;cases hr with
  | ptr g1=>
   rename_i b0;have g2:c.ρ β=some (.cell b0):=by
    grind [Under]
   obtain⟨b,vs,k1,k2,k3⟩:=h.obj β _ hL;rw[g2]at k1;cases k1;have hob:=(h.own β _ _ g2 rfl).1;refine .fptr (zgz k2 λ_=>hob) (by rw[<- k3.1]; exact hle) λk d' v hk hv=>?_
   have hkl:=(qab.1 hk).1;have hk0:ds[o+k]? = some (ds[o+k]'(by omega)):=qac _;rw[zic]
   exact ih k _ d' hk0 hk ⟨λt b cs hl=>⟨h.look hl,λht=>by
    subst ht;unfold Cx.look at hl;cases hz:c.zf b with
    | none=>rw[hz]at hl; simp at hl
    | some x=>exact(h.zf b x hz).1⟩,.inl rfl⟩ (k3.2 _ _ v hk0 hv)
 | @fptr t' ds ds' ht hlen hd ih=>
  intro c1 v hu hr;cases hr with
  | fptr h1 h2 h3=>
   obtain⟨g1,g2⟩:=hu.look _ _ _ h1;refine .fptr (zgz g1 λh=>g2 (ht h)) (by rw[<- hlen]; exact h2) λk d' v hk hv=>?_
   have hkl:=(qab.1 hk).1;have hk0:ds[k]? = some (ds[k]'(by omega)):=qac _;rw[zic];exact ih k _ d' hk0 hk (hu.frz (zxc c1) t') (h3 k _ v hk0 hv)
 | ifc _ ih=>intro c1 v hu hr; cases hr with | ifc g=>exact .ifc (ih hu g)
 | @agg ds ds' h1 _ ih=>
  grind [Go.Lx.R]
 | @tup ds ds' h1 _ ih=>
  grind [Go.Lx.R]
theorem RelH.under(h:RelH c L H):Under c c H:=⟨λt b cs hl=>⟨h.look hl,λht=>by
 subst ht;unfold Cx.look at hl;cases hz:c.zf b with
 | none=>rw[hz]at hl; simp at hl
 | some x=>exact(h.zf b x hz).1⟩,.inl rfl⟩
theorem ztg(h:RelH c L H){t:Bool}{ds ds':List D}{vs:List V}(hs:Snps L t ds ds')(hr:Rs c ds vs):Rs (full t H c.base) ds' vs:=by
 induction hs generalizing vs with
 | nil=>grind [Go.Lx.Rs]
 | cons h1 _ ih=>
  obtain⟨v,vs',rfl,g1,g2⟩:=hr.inv;exact(ih g2).cons (zoW h h1 h.under g1)
def zdD(fns:Mach)(bar:Bool)(f:Nat)(args:List D)(L:List LB)(Q Qp:D->List LB->Prop):Prop:=
 ∀(c:Cx) (B:Nat) (H:zam) (vs:List V),RelH c L H->B<=c.base->Rs c args vs ->
  EvF fns (bif bar then H.length else B) f vs H λcr H'=>∃ c' d L',Step c H c' H'/\RelH c' L' H'/\c.le c'/\match cr with | .ret v=>R c' d v/\Q d L' | .pan v=>R c' d v/\Qp d L'
def Fn(fns:Mach)(f:Nat)(args:List D)(res:D):Prop:=
 ∀(z:Nat->Option (List V)) (B:Nat) (H:zam) (vs:List V),(∀ b cs,z b=some cs->H[b]? = some (.blk cs))->B<=H.length->Rs ⟨z,λ_=>none,λ_=>none,H.length⟩ args vs ->
  EvF fns B f vs H λcr H'=>H.length<=H'.length/\(∀ b,b<H.length->H'[b]? = H[b]?)/\∃ v zf,cr=.ret v/\(∀ b cs,zf b=some cs->H.length<=b/\H'[b]? = some (.blk cs))/\R ⟨λ_=>none,zf,λ_=>none,H.length⟩ res v
theorem Fn.call{f:Nat}{args args':List D}{res:D}(h:Fn fns f args' res)(hs:Snps L false args args')(bar:Bool)(Qp:D->List LB->Prop):zdD fns bar f args L (λd L'=>d=res/\L'=L) Qp:=by
 intro c B H vs hH hB hr;have hfull:=ztg hH hs hr;have hBl:(bif bar then H.length else B)<=H.length:=by
  grind [Go.Lx.RelH]
 have hrs:Rs ⟨zax H,λ_=>none,λ_=>none,H.length⟩ args' vs:=by
  grind [full]
 refine EvF.mono (h (zax H) _ H vs (λb cs hb=>?_) hBl hrs) ?_
 .unfold zax at hb;split at hb
  .cases hb; assumption
  cases hb
 rintro cr H' ⟨h1,h2,v,zf,rfl,h3,h4⟩;have hlt:∀ b cs,H[b]? = some (Ob.blk cs)->H'[b]? = some (Ob.blk cs):=λb cs hb=>(h2 b (qab.1 hb).1).trans hb
 let c':Cx:={ c with zf:=λb=>match c.zf b with | some cs=>some cs | none=>zf b }
 have hzf:∀ b cs,c'.zf b=some cs->(c.zf b=some cs)\/(c.zf b=none/\zf b=some cs):=by
  intro b cs hb;simp only[c']at hb;cases hz:c.zf b with
  | some x=>rw[hz]at hb; cases hb; exact .inl rfl
  | none=>rw[hz]at hb; exact .inr ⟨rfl,hb⟩
 have hnew:∀ b cs,zf b=some cs->c.zf b=none:=by
  intro b cs hb;cases hz:c.zf b with
  | none=>rfl
  | some x=>
   have h5:=(qab.1 (hH.zf b x hz).2).1;have h6:=(h3 b cs hb).1;omega
 have hap:∀ b cs cs',c'.zf b=some cs->c'.za b=some cs'->cs=cs':=by
  intro b cs cs' hb hb';have h5:=(hH.za b cs' hb').1;have h7:=hH.base;rcases hzf b cs hb with h6 | ⟨_,h6⟩
  .have:=(hH.zf b cs h6).1; omega
  have:=(h3 b cs h6).1; omega
 have hle:c.le c':=⟨λ_ _ h=>h,λb cs hb=>by simp only[c',hb],λβ x hx=>⟨x,hx,Lc.up.refl x⟩,hap⟩;refine⟨c',res,L,⟨h1,rfl,rfl,hle.zf,λb hb _=>h2 b hb,λβ x b hx hb=>.inl ⟨β,x,hx,hb⟩,λb hb=>hb.zgl (h2 b hb.lt)⟩,⟨?_,?_,?_,?_,hH.inj,hH.scope,?_⟩,hle,?_,rfl,rfl⟩
 .exact qaq hH.base h1
 .intro b cs hb;exact⟨(hH.za b cs hb).1,hlt b cs (hH.za b cs hb).2⟩
 .intro b cs hb;rcases hzf b cs hb with h6 | ⟨_,h6⟩
  .exact⟨(hH.zf b cs h6).1,hlt b cs (hH.zf b cs h6).2⟩
  exact⟨qaq hH.base (h3 b cs h6).1,(h3 b cs h6).2⟩
 .intro β x b hx hb;obtain⟨g1,g2,g3⟩:=hH.own β x b hx hb;refine⟨g1,qb2 g2 h1,?_⟩;cases hz:c'.zf b with
  | none=>rfl
  | some cs=>
   rcases hzf b cs hz with h6 | ⟨_,h6⟩
   .rw[g3]at h6; cases h6
   have:=(h3 b cs h6).1; omega
 .intro β o ho;exact(hH.obj β o ho).mono hle rfl λx b hx hb=>h2 b (hH.own β x b hx hb).2.1
 exact h4.mono ⟨λb cs hb=>(by cases hb),λb cs hb=>(by simp only[c',hnew b cs hb]; exact hb),λβ x hx=>(by cases hx),hap⟩
end
section
variable {fns:Mach} {k0:Nat} {Q:LX->LSt->Prop} {c:Cx} {L:List LB} {S S':LSt} {M:St} {H:zam} {B:Nat} {rd:Option Nat} {bar top e:Bool}
variable{QM:Ex->St->Prop}{l:List O}{f:Nat}{xs:List X}{vs:List V}
theorem EvO.zd8{S:St}{o:O}{x:X}{first cap:List V}(hw:wanted S.env o.g=true)(hi:o.i=.zd8 x xs)(hx:ev S.env x=some (.clo f first cap))(hv:evs S.env xs=some vs)(h:EvF fns (bif bar then S.heap.length else B) f (first ++ vs ++ cap) S.heap λcr hp=>match cr with | .ret v=>EvO fns B bar top e l ({ S with heap:=hp }.put o.dst v) QM | .pan v=>QM (.panic v e) { S with heap:=hp }):EvO fns B bar top e (o :: l) S QM:=by
 obtain⟨N,cr,h',h1,h2⟩:=h;cases cr with
 | ret v=>
  obtain⟨N2,ex,S',h3,h4⟩:=h2;refine⟨max N N2,ex,S',λn hn=>?_,h4⟩<;> grind [zbg,zdv,zno,zpM]
 | pan v=>
  refine⟨N,_,_,λn hn=>?_,h2⟩<;> grind [zbg,zdv,zno,zpM]
theorem EvO.panic{S:St}{o:O}{x:X}{t:TypeId}{v:V}(hw:wanted S.env o.g=true)(hi:o.i=.panic x)(hx:ev S.env x=some (.ifc t v))(h:QM (.panic (.ifc t v) e) S):EvO fns B bar top e (o :: l) S QM:=by
 refine⟨0,_,_,λn hn=>?_,h⟩<;> grind [zbg,zdv]
theorem EvF.body{f:Nat}{fn:Mx.Fn}{args:List V}{h:zam}{QF:CR->zam->Prop}(hf:fns.has f fn)(hp:fn.p=false)(hN:args.length<=fn.N)
  (hb:EvC fns B none fn.c ⟨args ++ List.replicate (fn.N - args.length) zbc,[],h⟩ λex S'=>∃ H',Leaves B S'.dfs S'.heap H'/\match ex with
   | .ret=>∃ vs,zcL H' S'.env fn.rs=some vs/\QF (.ret (zhB vs)) H'
   | .normal=>∃ vs,zcL H' S'.env fn.rs=some vs/\QF (.ret (zhB vs)) H'
   | .panic v e=>QF (.pan v) H'
   | .exit _=>False):EvF fns B f args h QF:=by
 obtain⟨N,ex,S',h1,H',h3,h2⟩:=hb
 have key:∀ m,(fns.run (m+1)).call B f args h=(match exec (fns.run m) B none fn.c ⟨args ++ List.replicate (fn.N - args.length) zbc,[],h⟩with
  | some (.normal,S)=>fin (fns.run m) B fn none true S
  | some (.ret,S)=>fin (fns.run m) B fn none true S
  | some (.panic v e,S)=>fin (fns.run m) B fn (some v) e S
  | _=>none):=by
  grind [Mach.zni,zi2,Mx.body,qat,Go.Lx.Mach.has]
 cases ex with
 | exit id=>exact h2.elim
 | normal=>
  obtain⟨vs,h4,h6⟩:=h2;refine⟨N+1,_,_,λn hn=>?_,h6⟩;obtain⟨m,rfl⟩:∃ m,n=m+1:=⟨n - 1,by omega⟩
  grind [fin,Go.Lx.Leaves]
 | ret=>
  obtain⟨vs,h4,h6⟩:=h2;refine⟨N+1,_,_,λn hn=>?_,h6⟩;obtain⟨m,rfl⟩:∃ m,n=m+1:=⟨n - 1,by omega⟩
  grind [fin,Go.Lx.Leaves]
 | panic v e=>
  refine⟨N+1,_,_,λn hn=>?_,h2⟩;obtain⟨m,rfl⟩:∃ m,n=m+1:=⟨n - 1,by omega⟩
  grind [fin,Go.Lx.Leaves]
theorem zg9{ex:Ex}(h:ziU (sem fns B rd QM []) ex M):QM ex M:=by cases ex<;>exact h
theorem ziw{v:V}(k:List KM):(sem fns B rd QM k).2 (.panic v e) M=QM (.panic v e) M:=by
 induction k with
 | nil=>rfl
 | cons x k ih=>cases x<;>exact ih
theorem EvL.call{k:List K}{d:Option Nat}{f:Nat}{xs:List X}{g:Option (Nat×Bool)}{l:List O}{ds:List D}{Q1 Qp1:D->List LB->Prop}(hw:zbB S.env g=some true)(hx:zhj S.env xs=some ds)(hc:zdD fns (zrn bar f) f ds S.heap Q1 Qp1)
  (hk:∀ r L',Q1 r L'->wp fns k0 (.ops bar e l :: k) (LSt.put ⟨S.N,S.env,L'⟩ d r) Q) (hp:∀ r L',Qp1 r L'->Q (.panic r) ⟨S.N,S.env,L'⟩):EvL fns k0 (.ops bar e (⟨d,.call f xs,g⟩:: l):: k) S Q:=by
 intro c0 H0 c B rd M hd hway hr hB;obtain⟨vs,g1,g2⟩:=zcJ hr hx;refine EvO.call (zcZ hr hw) rfl g1 (EvF.mono (hc c B M.heap vs hr.heap hB g2) ?_);rintro cr H' ⟨c',r,L',h1,h2,h3,h4⟩;cases cr with
 | ret v=>
  have hk':=hk r L' h4.2;cases hs:LSt.put ⟨S.N,S.env,L'⟩ d r with
  | none=>rw[hs,wp]at hk'; exact hk'.elim
  | some S1=>
   rw[hs]at hk';exact zad hk' c0 H0 c' B rd _ hd (by cases d<;>exact hway.go h1 h3 hr.heap rfl) (zeB hr h3 h2 h4.1 hs) (by rw[h1.base]; exact hB)
 | pan v=>
  show(sem fns B rd (zuk k0 c0 H0 Q) (k.map (toM k0 c0 H0))).2 (.panic v e) _;rw[ziw];exact⟨c',⟨S.N,S.env,L'⟩,.panic r,hway.go h1 h3 hr.heap rfl,⟨λj d hj=>by obtain⟨v,q1,q2⟩:=hr.env j d hj; exact⟨v,q1,q2.mono h3⟩,hr.len,h2⟩,h4.1,hp r L' h4.2⟩
theorem EvL.zd8{k:List K}{d:Option Nat}{f:Nat}{x:X}{xs:List X}{g:Option (Nat×Bool)}{l:List O}{ds first cap:List D}{Q1 Qp1:D->List LB->Prop}(hw:zbB S.env g=some true)(hf:evD S.env x=some (.clo f first cap))(hx:zhj S.env xs=some ds)
  (hc:zdD fns bar f (first ++ ds ++ cap) S.heap Q1 Qp1)
  (hk:∀ r L',Q1 r L'->wp fns k0 (.ops bar e l :: k) (LSt.put ⟨S.N,S.env,L'⟩ d r) Q) (hp:∀ r L',Qp1 r L'->Q (.panic r) ⟨S.N,S.env,L'⟩):EvL fns k0 (.ops bar e (⟨d,.zd8 x xs,g⟩:: l):: k) S Q:=by
 intro c0 H0 c B rd M hd hway hr hB;obtain⟨vs,g1,g2⟩:=zcJ hr hx;obtain⟨u,g3,g4⟩:=zae hr hf;cases g4 with
 | clo q1 q2 q3 q4=>
  rename_i us ws;refine EvO.zd8 (zcZ hr hw) rfl g3 g1 (EvF.mono (hc c B M.heap (us ++ vs ++ ws) hr.heap hB ((Rs.append ⟨q1,q3⟩ g2).append ⟨q2,q4⟩)) ?_);rintro cr H' ⟨c',r,L',h1,h2,h3,h4⟩;cases cr with
  | ret v=>
   have hk':=hk r L' h4.2;cases hs:LSt.put ⟨S.N,S.env,L'⟩ d r with
   | none=>rw[hs,wp]at hk'; exact hk'.elim
   | some S1=>
    rw[hs]at hk';exact zad hk' c0 H0 c' B rd _ hd (by cases d<;>exact hway.go h1 h3 hr.heap rfl) (zeB hr h3 h2 h4.1 hs) (by rw[h1.base]; exact hB)
  | pan v=>
   show(sem fns B rd (zuk k0 c0 H0 Q) (k.map (toM k0 c0 H0))).2 (.panic v e) _;rw[ziw];exact⟨c',⟨S.N,S.env,L'⟩,.panic r,hway.go h1 h3 hr.heap rfl,⟨λj d hj=>by obtain⟨v,q1,q2⟩:=hr.env j d hj; exact⟨v,q1,q2.mono h3⟩,hr.len,h2⟩,h4.1,hp r L' h4.2⟩
theorem EvL.panic{k:List K}{d:Option Nat}{x:X}{g:Option (Nat×Bool)}{l:List O}{t:TypeId}{r:D}(hw:zbB S.env g=some true)(hx:evD S.env x=some (.ifc t r))(hp:Q (.panic (.ifc t r)) S):EvL fns k0 (.ops bar e (⟨d,.panic x,g⟩:: l):: k) S Q:=by
 intro c0 H0 c B rd M hd hway hr hB;obtain⟨u,g3,g4⟩:=zae hr hx;cases g4 with
 | ifc q=>
  refine EvO.panic (zcZ hr hw) rfl g3 ?_;show(sem fns B rd (zuk k0 c0 H0 Q) (k.map (toM k0 c0 H0))).2 (.panic _ e) _;rw[ziw];exact⟨c,S,.panic (.ifc t r),hway,hr,.ifc q,hp⟩
theorem EvL.skip{k:List K}{o:O}{l:List O}(hw:zbB S.env o.g=some false)(hk:wp fns k0 (.ops bar e l :: k) (S.put o.dst zmd) Q):EvL fns k0 (.ops bar e (o :: l):: k) S Q:=by
 intro c0 H0 c B rd M hd hway hr hB;cases hs:S.put o.dst zmd with
 | none=>rw[hs,wp]at hk; exact hk.elim
 | some S1=>
  rw[hs]at hk;have hput:=zeB (L:=S.heap) (H:=M.heap) hr hr.le0 hr.heap (.lit _) hs;refine EvO.skip (zcZ hr hw) (zad hk c0 H0 c B rd _ hd ?_ hput hB);obtain⟨od,oi,og⟩:=o;cases od<;>exact⟨hway.step,hway.le,hway.dfs⟩
variable{d:Option Nat}{g:Option (Nat×Bool)}{ds args:List D}
theorem EvL.fn{k:List K}{res:D}(hf:Fn fns f args res)(hw:zbB S.env g=some true)(hx:zhj S.env xs=some ds)(hs:Snps S.heap false ds args)(hk:wp fns k0 (.ops bar e l :: k) (LSt.put ⟨S.N,S.env,S.heap⟩ d res) Q):EvL fns k0 (.ops bar e (⟨d,.call f xs,g⟩:: l):: k) S Q:=
 EvL.call (Qp1:=λ_ _=>False) hw hx (hf.call hs (zrn bar _) _) (λr L' h=>by obtain⟨rfl,rfl⟩:=h; exact hk) λ_ _ h=>h.elim
theorem EvL.fnv{k:List K}{x:X}{first cap:List D}{res:D}(hw:zbB S.env g=some true)(hfv:evD S.env x=some (.clo f first cap))(hf:Fn fns f args res)(hx:zhj S.env xs=some ds)(hs:Snps S.heap false (first ++ ds ++ cap) args)(hk:wp fns k0 (.ops bar e l :: k) (LSt.put ⟨S.N,S.env,S.heap⟩ d res) Q):EvL fns k0 (.ops bar e (⟨d,.zd8 x xs,g⟩:: l):: k) S Q:=
 EvL.zd8 (Qp1:=λ_ _=>False) hw hfv hx (hf.call hs bar _) (λr L' h=>by obtain⟨rfl,rfl⟩:=h; exact hk) λ_ _ h=>h.elim
theorem zme(S:LSt)(d:Option Nat)(i:I):zpy S d i (some true)=doI S d i:=rfl
theorem zkb(S:LSt)(d:Option Nat)(i:I):zpy S d i (some false)=S.put d zmd:=rfl
theorem zmb(a b:C):zow (some true) a b=a:=rfl
theorem zkN(a b:C):zow (some false) a b=b:=rfl
theorem zvH(L:List LB)(t:Bool)(n:Nat)(els:List (List D)):zy8 L (.fz t n els)=some (.lit (.int .i64 els.length)):=rfl
theorem zw3(L:List LB)(β s n len:Nat)(cap:Option Nat)(st:Nat):zy8 L (.sl β s n len cap st)=(match zgP L β n st with | some _=>some (.lit (.int .i64 len))| none=>none):=rfl
theorem zsh(L:List LB):zy8 L (.lit (.slice none 0 0))=some (.lit (.int .i64 0)):=rfl
theorem zxT(L:List LB)(t:Bool)(n:Nat):zy8 L (.z0 t n)=some (.lit (.int .i64 0)):=rfl
theorem zxr(L:List LB)(n:Nat)(m:Int)(t:Bool)(n':Nat)(els:List (List D)):zy6 L n m (.fz t n' els)=(if n=n'/\0<=m then(match els[m.toNat]? with | some cells=>some (.fptr t cells)| none=>none)else none):=rfl
theorem zv8(L:List LB)(n:Nat)(m:Int)(β s n' len:Nat)(cap:Option Nat)(st:Nat):zy6 L n m (.sl β s n' len cap st)=(if n=n'/\0<=m/\m<len then(match zgP L β n st with | some _=>some (.eptr β n (s+m.toNat) 0 st)| none=>none)else none):=rfl
theorem zp0(L:List LB)(n:Option Nat)(β o:Nat):zmn L n (.ptr β o)=(match L[β]? with | some (.cells ds)=>ziJ ds o n | _=>none):=rfl
theorem zlJ(L:List LB)(n:Option Nat)(β n' i off st:Nat):zmn L n (.eptr β n' i off st)=(match zgP L β n' st with | some es=>(match es[i]? with | some cells=>ziJ cells off n | none=>none)| none=>none):=rfl
theorem zlw(L:List LB)(n:Option Nat)(t:Bool)(ds:List D):zmn L n (.fptr t ds)=ziJ ds 0 n:=rfl
theorem zoT(v:Value):D.cells (.lit v)=bif zhm v then some [.lit v]else none:=rfl
theorem zpb(ds:List D):D.cells (.agg ds)=some ds:=rfl
theorem zoZ(β o:Nat):D.cells (.ptr β o)=some [.ptr β o]:=rfl
theorem zrV(β s n len:Nat)(cap:Option Nat)(st:Nat):D.cells (.sl β s n len cap st)=some [.sl β s n len cap st]:=rfl
theorem zsS(t:Bool)(n:Nat)(els:List (List D)):D.cells (.fz t n els)=some [.fz t n els]:=rfl
theorem zoO(f:Nat)(xs ys:List D):D.cells (.clo f xs ys)=some [.clo f xs ys]:=rfl
theorem zoo(t:TypeId)(d:D):D.cells (.ifc t d)=some [.ifc t d]:=rfl
theorem zl0(β n i off st:Nat):D.cells (.eptr β n i off st)=some [.eptr β n i off st]:=rfl
theorem zxt(L:List LB)(n:Nat)(t:Bool)(n':Nat)(els:List (List D)):zp6 L n (.fz t n' els)=(if n=n' then some els else none):=rfl
theorem zrC(L:List LB)(n:Nat):zp6 L n (.lit (.slice none 0 0))=some []:=rfl
theorem zvo(L:List LB)(n β s n' len:Nat)(cap:Option Nat)(st:Nat):zp6 L n (.sl β s n' len cap st)=(if n=n' then(match zgP L β n st with | some es=>if s+len<=es.length then some ((es.drop s).take len)else none | none=>none)else none):=rfl
def zeY(i:Nat):List D->List (Nat×D)
 | []=>[]
 | d :: r=>(i,d):: zeY (i+1) r
theorem zsa:∀(ds:List D) (i k:Nat) (d:D),lk (zeY i ds) k=some d->i<=k/\ds[k - i]? = some d
 | [],i,k,d,h=>by cases h
 | e :: r,i,k,d,h=>by
  simp only[zeY,lk]at h;split at h
  .simp_all
  obtain⟨h1,h2⟩:=zsa r (i+1) k d h
  grind
theorem zjP(hH:RelH c L H)(hr:Rs c args vs){N:Nat}(hN:args.length<=N):Rel c ⟨N,zeY 0 args,L⟩ ⟨vs ++ List.replicate (N - vs.length) zbc,[],H⟩:=by
 refine⟨λk d hk=>?_,?_,hH⟩
 .obtain⟨_,h2⟩:=zsa args 0 k d hk
  grind [Rs.get]
 have:=hr.1; simp; omega
def zGd(L:List LB)(E:List (Nat×D)):RX->Option D
 | .tmp k=>lk E k
 | .cell k n=>match lk E k with
  | some d=>zmn L n d
  | none=>none
def zfQ(L:List LB)(E:List (Nat×D)):List RX->Option (List D)
 | []=>some []
 | x :: r=>match zGd L E x with
  | some d=>(match zfQ L E r with
   | some ds=>some (d :: ds)
   | none=>none)
  | none=>none
def zdX:List D->D
 | [d]=>d
 | ds=>.tup ds
theorem ztt(h:Rel c S M){x:RX}{d:D}(hd:zGd S.heap S.env x=some d):∃ v,zht M.heap M.env x=some v/\R c d v:=by
 cases x with
 | tmp k=>exact h.env k d hd
 | cell k n=>
  grind [zGd,zlO,zht,Go.Lx.Rel]
theorem zen(h:Rel c S M):∀ {xs:List RX} {ds:List D},zfQ S.heap S.env xs=some ds->∃ vs,zcL M.heap M.env xs=some vs/\Rs c ds vs
 | [],ds,hd=>by cases hd; exact⟨[],rfl,Rs.nil c⟩
 | x :: r,ds,hd=>by
  simp only[zfQ]at hd;cases h1:zGd S.heap S.env x with
  | none=>rw[h1]at hd; cases hd
  | some d=>
   cases h2:zfQ S.heap S.env r with
   | none=>rw[h1,h2]at hd; cases hd
   | some ds'=>
    rw[h1,h2]at hd;cases hd;obtain⟨v,g1,g2⟩:=ztt h h1;obtain⟨vs,g3,g4⟩:=zen h h2
    grind [zcL,Rs.cons]
theorem zgx(h:Rs c ds vs):R c (zdX ds) (zhB vs):=by
 have hl:=h.1
 match ds,vs,h with
 | [],[],h=>exact .tup h.1 h.2
 | [d],[v],h=>exact h.2 0 d v rfl rfl
 | _ :: _ :: _,_ :: _ :: _,h=>exact .tup h.1 h.2
 | [],_ :: _,_=>simp at hl
 | _ :: _,[],_=>simp at hl
 | [_],_ :: _ :: _,_=>simp at hl
 | _ :: _ :: _,[_],_=>simp at hl
theorem zdD.intro{f:Nat}{fn:Mx.Fn}{args:List D}{Q1 Qp1:D->List LB->Prop}(hf:fns.has f fn)(hp:fn.p=false)(hN:args.length<=fn.N)
  (h:EvL fns L.length [.code fn.c] ⟨fn.N,zeY 0 args,L⟩ λx S'=>match x with
   | .ret=>∃ ds,zfQ S'.heap S'.env fn.rs=some ds/\Q1 (zdX ds) S'.heap
   | .normal=>∃ ds,zfQ S'.heap S'.env fn.rs=some ds/\Q1 (zdX ds) S'.heap
   | .panic d=>Qp1 d S'.heap
   | .exit _=>False):zdD fns false f args L Q1 Qp1:=by
 intro c B H vs hH hB hr;have hrel:=zjP hH hr hN;refine EvF.body hf hp (by rw[<- hr.1]; exact hN) (EvC.mono (h c H c B none _ (zCW.none _) (Way.start _ _ _ _) hrel hB) ?_);intro ex M' hx;have hx':=zg9 hx;obtain⟨c',S',x,h1,h2,h3,h4⟩:=hx';have hle:c.le c':=⟨h1.le.za,h1.le.zf,λβ y hy=>h1.le.ρ β y (hH.scope β y hy) hy,h2.heap.apart⟩;obtain⟨H2,l1,l2,l3⟩:=h1.leave h2.heap (qaq hB hH.base);have h2':Rel c' S' { M' with heap:=H2 }:=⟨h2.env,h2.len,l2⟩;refine⟨H2,l1,?_⟩;cases x with
 | normal=>
  cases ex<;>first | (exact h3.elim)| skip
  obtain⟨ds,g1,g2⟩:=h4;obtain⟨vs',g3,g4⟩:=zen h2' g1;exact⟨vs',g3,c',zdX ds,S'.heap,l3,l2,hle,zgx g4,g2⟩
 | ret=>
  cases ex<;>first | (exact h3.elim)| skip
  obtain⟨ds,g1,g2⟩:=h4;obtain⟨vs',g3,g4⟩:=zen h2' g1;exact⟨vs',g3,c',zdX ds,S'.heap,l3,l2,hle,zgx g4,g2⟩
 | panic d=>
  grind [Go.Lx.XR]
 | exit id=>exact h4.elim
mutual
def D.pl:D->Bool
 | .lit _=>true
 | .tup ds=>D.pls ds
 | .agg ds=>D.pls ds
 | _=>false
def D.pls:List D->Bool
 | []=>true
 | .lit _ :: r=>D.pls r
 | _=>false
end
theorem zqI:∀ {ds:List D} {vs:List V},D.pls ds=true->Rs c ds vs->V.lits vs=true
 | [],vs,_,hr=>by have:=hr.1; cases vs with | nil=>rfl | cons _ _=>simp at this
 | d :: r,vs,hp,hr=>by
  obtain⟨v,vs',rfl,h1,h2⟩:=hr.inv;cases d<;>first | (cases hp; done)| skip
  cases zob h1;simp only[V.lits];exact zqI (by simpa [D.pls]using hp) h2
theorem zA3{d:D}{v:V}(hp:d.pl=true)(hr:R c d v):v.plain=true:=by
 cases d<;>first | (cases hp; done)| skip
 .cases zob hr; rfl
 .cases hr with | agg h1 h2=>exact zqI (by simpa [D.pl]using hp) ⟨h1,h2⟩
 cases hr with | tup h1 h2=>exact zqI (by simpa [D.pl]using hp) ⟨h1,h2⟩
def zjI(rs:List RX)(res:D):LX->LSt->Prop:=λx S'=>(x=.ret\/x=.normal)/\∃ ds,zfQ S'.heap S'.env rs=some ds/\Snp S'.heap true (zdX ds) res
variable{rs:List RX}{ds:List D}
theorem zjI.ret{res:D}(h:zfQ S.heap S.env rs=some ds)(hs:Snp S.heap true (zdX ds) res):zjI rs res .ret S:=⟨.inl rfl,ds,h,hs⟩
theorem Fn.intro{f:Nat}{fn:Mx.Fn}{args:List D}{res:D}(hf:fns.has f fn)(hN:args.length<=fn.N)(hpl:fn.p=true->res.pl=true)
  (h:EvL fns 0 [.code fn.c] ⟨fn.N,zeY 0 args,[]⟩ (zjI fn.rs res)):Fn fns f args res:=by
 intro z B H vs hz hB hr;have hH:RelH ⟨z,λ_=>none,λ_=>none,H.length⟩ [] H:=⟨qap _,λb cs hb=>⟨(qab.1 (hz b cs hb)).1,hz b cs hb⟩,λb cs hb=>(by cases hb),λβ x b hx=>(by cases hx),λβ β' x x' b hx=>(by cases hx),λβ x hx=>(by cases hx),λβ o ho=>(by simp at ho)⟩;have hrel:=zjP hH hr hN;have hN':vs.length<=fn.N:=by rw[<- hr.1]; exact hN
 have post:∀(B':Nat),B'<=H.length->EvC fns B' none fn.c ⟨vs ++ List.replicate (fn.N - vs.length) zbc,[],H⟩ λex M'=>(ex=.ret\/ex=.normal)/\∃ H2:zam,Leaves B' M'.dfs M'.heap H2/\∃ us,zcL H2 M'.env fn.rs=some us /\
   H.length<=H2.length/\(∀ b:Nat,b<H.length->H2[b]? = H[b]?)/\∃ zf:Nat->Option (List V),(∀ b cs,zf b=some cs->H.length<=b/\H2[b]? = some (.blk cs))/\R ⟨λ_=>none,zf,λ_=>none,H.length⟩ res (zhB us):=by
  intro B' hB';refine EvC.mono (h _ H _ B' none _ (zCW.none _) (Way.start _ _ _ _) hrel hB') ?_;intro ex M' hx;have hx':=zg9 hx;obtain⟨c',S',x,h1,h2,h3,h4,ds,h5,h6⟩:=hx';have hex:ex=.ret\/ex=.normal:=by
   grind [Go.Lx.XR]
  obtain⟨H2,l1,l2,l3⟩:=h1.leave h2.heap hB';have h2':Rel c' S' { M' with heap:=H2 }:=⟨h2.env,h2.len,l2⟩;obtain⟨us,g1,g2⟩:=zen h2' h5;have hsn:=zoW l2 h6 l2.under (zgx g2);have hbase:c'.base=H.length:=h1.step.base;refine⟨hex,H2,l1,us,g1,l3.len,λb hb=>l3.zgl b hb λβ x hx=>(by cases hx),λb=>if H.length<=b then zax H2 b else none,λb cs hb=>?_,?_⟩
  .grind [zax]
  refine hsn.mono ⟨λb cs hb=>(by simp[full]at hb),λb cs hb=>?_,λβ x hx=>(by cases hx),λb cs cs' _ h2=>(by cases h2)⟩<;> grind [full]
 cases hp:fn.p with
 | false=>
  grind [EvF.plain]
 | true=>
  obtain⟨N,ex,S',h1,h2,H2,h3,us,h4,h5,h6,zf,h7,h8⟩:=post H.length (qap _);refine EvF.mono (EvF.pure hf hp hN' hB (zA3 (hpl hp) h8) ⟨N,ex,S',h1,h2,H2,h3,by rw[h4]; rfl⟩) ?_;rintro cr h' ⟨rfl,rfl⟩;refine⟨qap _,λ_ _=>rfl,zhB us,λ_=>none,rfl,λb cs hb=>(by cases hb),?_⟩;have hpr:=zA3 (hpl hp) h8;have hpres:=hpl hp;have lits:∀ {ds:List D} {vs:List V} {c c':Cx},D.pls ds=true->Rs c ds vs->Rs c' ds vs:=by
   intro ds;induction ds with
   | nil=>grind [Go.Lx.Rs]
   | cons d r ih=>
    intro vs c c' hp hr;obtain⟨v,vs',rfl,h1,h2⟩:=hr.inv;cases d<;>first | (cases hp; done)| skip
    grind [D.pls,Rs.cons,Go.Lx.R]
  generalize zhB us=u at h8;cases res<;>first | (cases hpres; done)| skip
  .cases h8; exact .lit _
  .cases h8 with | agg q1 q2=>have:=lits (c':=⟨λ_=>none,λ_=>none,λ_=>none,h'.length⟩) (by simpa [D.pl]using hpres) ⟨q1,q2⟩; exact .agg this.1 this.2
  cases h8 with | tup q1 q2=>have:=lits (c':=⟨λ_=>none,λ_=>none,λ_=>none,h'.length⟩) (by simpa [D.pl]using hpres) ⟨q1,q2⟩; exact .tup this.1 this.2
theorem zFK{d:D}(h:d.pl=true)(L:List LB)(t:Bool):Snp L t d d:=by
 have aux:∀(ds:List D),D.pls ds=true->∀(i:Nat) d d',ds[i]? = some d->ds[i]? = some d'->Snp L t d d':=by
  intro ds;induction ds with
  | nil=>simp_all
  | cons e r ih=>
   intro hp i d d' h1 h2;cases e<;>first | (cases hp; done)| skip
   grind [D.pls,Go.Lx.Snp]
 cases d<;>first | (cases h; done)| skip
 .exact .lit _
 .grind [D.pl,Go.Lx.Snp]
 grind [D.pl,Go.Lx.Snp]
theorem zjI.pl{res:D}(h:(zfQ S.heap S.env rs).map zdX=some res)(hp:res.pl=true):zjI rs res .ret S:=by
 cases hr:zfQ S.heap S.env rs<;>grind [zFK,zjI]
variable{ds':List D}
theorem Snp.zDB{t:Bool}(h:Snps L t ds ds'):Snp L t (.tup ds) (.tup ds'):=.tup h.len h.get
theorem Snp.zyP{t:Bool}(h:Snps L t ds ds'):Snp L t (.agg ds) (.agg ds'):=.agg h.len h.get
end
end Go.Lx
