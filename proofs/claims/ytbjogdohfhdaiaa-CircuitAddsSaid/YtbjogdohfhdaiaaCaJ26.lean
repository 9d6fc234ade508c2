/-
 Trees: calls. A function by what it makes of trees. Conditions: none.
-/
import Derived.Test.YtbjogdohfhdaiaaCaJ25
set_option linter.unusedSimpArgs false
set_option linter.unusedVariables false
namespace Go.Lx
open Go Go.Mx
inductive Snp (L:List LB) (t:Bool):D->D->Prop
 | any:Snp L t .any .any
 | lit (v):Snp L t (.lit v) (.lit v)
 | nil (n):Snp L t (.lit (.slice none 0 0)) (.fz t n [])
 | same (n els):t=true->Snp L t (.fz t n els) (.fz t n els)
 | fz0 (t' n):Snp L t (.fz t' n []) (.fz t n [])
 | z0 (t' n):Snp L t (.z0 t' n) (.fz t n [])
 | fz {t' n els els'}:(t=true->t'=true)->els.length=els'.length->(∀(i:Nat) cells cells',els[i]? = some cells->els'[i]? = some cells'->cells.length=cells'.length)->
   (∀(i k:Nat) cells cells' d d',els[i]? = some cells->els'[i]? = some cells'->cells[k]? = some d->cells'[k]? = some d'->Snp L t d d')->Snp L t (.fz t' n els) (.fz t n els')
 | sl {β s n len cap st es els'}:zdm L β n st=some es->s+len<=es.length->(∀ c,cap=some c->len<=c)->len=els'.length->(∀(i:Nat) cells cells',es[s+i]? = some cells->els'[i]? = some cells'->cells.length=cells'.length)->
   (∀(i k:Nat) cells cells' d d',es[s+i]? = some cells->els'[i]? = some cells'->cells[k]? = some d->cells'[k]? = some d'->Snp L t d d')->Snp L t (.sl β s n len cap st) (.fz t n els')
 | clo {f xs ys xs' ys'}:xs.length=xs'.length->ys.length=ys'.length->(∀(i:Nat) d d',xs[i]? = some d->xs'[i]? = some d'->Snp L t d d')->(∀(i:Nat) d d',ys[i]? = some d->ys'[i]? = some d'->Snp L t d d')->Snp L t (.clo f xs ys) (.clo f xs' ys')
 | ptr {β o ds ds'}:L[β]? = some (.cells ds)->o+ds'.length<=ds.length->(∀(k:Nat) d d',ds[o+k]? = some d->ds'[k]? = some d'->Snp L t d d')->Snp L t (.ptr β o) (.fptr t ds')
 | fptr {t' ds ds'}:(t=true->t'=true)->ds.length=ds'.length->(∀(k:Nat) d d',ds[k]? = some d->ds'[k]? = some d'->Snp L t d d')->Snp L t (.fptr t' ds) (.fptr t ds')
 | ifc {ty d d'}:Snp L t d d'->Snp L t (.ifc ty d) (.ifc ty d')
 | agg {ds ds'}:ds.length=ds'.length->(∀(i:Nat) d d',ds[i]? = some d->ds'[i]? = some d'->Snp L t d d')->Snp L t (.agg ds) (.agg ds')
 | tup {ds ds'}:ds.length=ds'.length->(∀(i:Nat) d d',ds[i]? = some d->ds'[i]? = some d'->Snp L t d d')->Snp L t (.tup ds) (.tup ds')
inductive Snps (L:List LB) (t:Bool):List D->List D->Prop
 | nil:Snps L t [] []
 | cons {d d' ds ds'}:Snp L t d d'->Snps L t ds ds'->Snps L t (d :: ds) (d' :: ds')
variable{t:Bool}{ds':List D}
theorem Snps.len{L:List LB}{ds:List D}(h:Snps L t ds ds'):ds.length=ds'.length:=by induction h with | nil=>rfl | cons _ _ ih=>simp[ih]
theorem Snps.get{L:List LB}{ds:List D}(h:Snps L t ds ds'):∀(i:Nat) d d',ds[i]? = some d->ds'[i]? = some d'->Snp L t d d':=by
 induction h with
 | nil=>intro i d d' h1; simp at h1
 | cons h1 _ ih=>
  intro i d d' g1 g2;cases i with
  | zero=>simp at g1 g2; subst g1; subst g2; exact h1
  | succ i=>simp at g1 g2; exact ih i d d' g1 g2
def full(t:Bool)(H:zaf)(base:Nat):Cx where
 za:=λb=>if t then none else zak H b
 zf:=λb=>if t && decide (base<=b)then zak H b else none
 ρ:=λ_=>none
 base:=H.length
theorem zfr(t:Bool)(H:zaf)(base:Nat):(full t H base).frz t=full t H base:=by
 cases t<;>simp[full,Cx.frz]
theorem zdP{H:zaf}{base b:Nat}{cs:List V}(h:H[b]? = some (.blk cs))(hb:t=true->base<=b):(full t H base).look t b=some cs:=by
 have:zak H b=some cs:=by simp[zak,h]
 cases t with
 | false=>simp[Cx.look,full,this]
 | true=>simp[Cx.look,full,this,hb rfl]
section
variable {fns:Mach} {k0:Nat} {Q:LX->LSt->Prop} {c:Cx} {L:List LB} {S S':LSt} {M:St} {H:zaf} {B:Nat} {rd:Option Nat}
structure Under (c1 c:Cx) (H:zaf):Prop where
 look:∀ t b cs,c1.look t b=some cs->H[b]? = some (.blk cs)/\(t=true->c.base<=b)
 ρ:c1.ρ=c.ρ\/c1.ρ=λ_=>none
theorem Under.frz{c1:Cx}(h:Under c1 c H)(hz:∀ b cs,c1.zf b=some cs->c1.look true b=some cs)(t:Bool):Under (c1.frz t) c H:=by
 refine⟨λt' b cs hl=>?_,.inr rfl⟩;unfold Cx.look at hl;cases hzb:c1.zf b with
 | some x=>
  simp only[Cx.frz,hzb]at hl;cases hl;exact⟨(h.look true b _ (hz b _ hzb)).1,λ_=>(h.look true b _ (hz b _ hzb)).2 rfl⟩
 | none=>
  simp only[Cx.frz,hzb]at hl;cases t' with
  | true=>simp at hl
  | false=>
   cases t with
   | true=>simp at hl
   | false=>exact⟨(h.look false b cs (by simpa [Cx.look,hzb]using hl)).1,λh=>by cases h⟩
theorem zk5(c1:Cx)(b:Nat)(cs:List V)(h:c1.zf b=some cs):c1.look true b=some cs:=by simp[Cx.look,h]
variable{cap:Option Nat}
theorem zk0{c:Cx}{β s n len st:Nat}{v:V}(hr:R c (.sl β s n len cap st) v):(∃ x,c.ρ β=some x):=by
 cases hr with
 | sl g1 g2=>exact⟨_,g1⟩
 | slg g1=>exact⟨_,g1⟩
theorem R.under{c1:Cx}(hu:Under c1 c H){β s n len st:Nat}{v:V}(hr:R c1 (.sl β s n len cap st) v):R c (.sl β s n len cap st) v:=by
 rcases hu.ρ with h1 | h1
 .cases hr with
  | sl g1 g2=>exact .sl (by rw[<- h1]; exact g1) g2
  | slg g1=>exact .slg (by rw[<- h1]; exact g1)
 obtain⟨x,hx⟩:=zk0 hr;rw[h1]at hx;cases hx
theorem zjK(h:RelH c L H){t:Bool}{d d':D}(hs:Snp L t d d'):∀ {c1:Cx} {v:V},Under c1 c H->R c1 d v->R (full t H c.base) d' v:=by
 induction hs with
 | any=>intro c1 v _ _; exact .any v
 | lit v=>intro c1 v _ hr; cases hr; exact .lit _
 | nil n=>intro c1 v _ hr; cases hr; exact .fzn
 | same n els ht=>
  intro c1 v hu hr;subst ht;cases hr with
  | fz0=>exact .fz0
  | fzn=>exact .fzn
  | fz h1 h2 h3 h4 h5 h6=>
   rename_i b o cap cs;obtain⟨g1,g2⟩:=hu.look _ _ _ h1;refine .fz (zdP g1 λ_=>g2 rfl) h2 h3 h4 h5 λi cells k d v k1 k2 k3=>?_
   rw[zfr];refine(h6 i cells k d v k1 k2 k3).mono ⟨λb cs hb=>?_,λb cs hb=>?_,λβ x hx=>by simp[Cx.frz]at hx,λb cs cs' _ h2=>by simp[full]at h2⟩
   .simp[Cx.frz]at hb
   .obtain⟨g3,g4⟩:=hu.look true b cs (zk5 _ b cs hb);simp[full,g4 rfl,zbh g3]
 | fz0 t' n=>
  intro c1 v hu hr;cases hr with
  | fz0=>exact .fz0
  | fzn=>exact .fzn
  | fz h1 h2 h3 h4 h5 h6=>exact .fz0
 | z0 t' n=>
  intro c1 v hu hr;cases hr with
  | z0 h1 h2=>exact .fz0
  | z0n=>exact .fzn
 | @fz t' n els els' ht hlen hc hd ih=>
  intro c1 v hu hr;cases hr with
  | fz0=>
   have:els'=[]:=qaw (by simpa using hlen.symm);subst this;exact .fz0
  | fzn=>
   have:els'=[]:=qaw (by simpa using hlen.symm);subst this;exact .fzn
  | fz h1 h2 h3 h4 h5 h6=>
   rename_i b o cap cs;obtain⟨g1,g2⟩:=hu.look _ _ _ h1;rw[hlen];have hel:∀(i:Nat) cells',els'[i]? = some cells'->∃ cells,els[i]? = some cells:=λi cells' hi=>by
    have:=(qaa.1 hi).1;exact⟨els[i],qad (by omega)⟩
   refine .fz (zdP g1 λh=>g2 (ht h)) h2 (by rw[<- hlen]; exact h3) (by rw[<- hlen]; exact h4) (λi cells' hi=>?_) λi cells' k d' v hi hk hv=>?_
   .obtain⟨cells,hi0⟩:=hel i cells' hi;rw[<- hc i cells cells' hi0 hi];exact h5 i cells hi0
   .obtain⟨cells,hi0⟩:=hel i cells' hi;have hkl:=(qaa.1 hk).1;have hk0:cells[k]? = some (cells[k]'(by rw[hc i cells cells' hi0 hi]; exact hkl)):=qad _;rw[zfr];exact ih i k cells cells' _ d' hi0 hi hk0 hk (hu.frz (zk5 c1) t') (h6 i cells k _ v hi0 hk0 hv)
 | @sl β s n len cap st es els' he hle hcap hlen hc hd ih=>
  intro c1 v hu hr;have hr0:=R.under hu hr;subst hlen;rcases slR h he hr0 with⟨b,vs,q1,rfl,q2,q3⟩| ⟨rfl,rfl,h0,_,_,rfl,_⟩
  .obtain⟨e1,e2,_⟩:=zcB h he;have hob:=(h.own β _ b q1 rfl).1;have hel:∀(i:Nat) cells',els'[i]? = some cells'->∃ cells,es[s+i]? = some cells:=λi cells' hi=>by
    have:=(qaa.1 hi).1;exact⟨es[s+i],qad (by omega)⟩
   have hroom:s * n+els'.length * n<=vs.length:=by rw[q3.zjS,<- qaW]; exact qaE n hle
   refine .fz (zdP q2 λ_=>hob) e1 hcap hroom (λi cells' hi=>?_) λi cells' k d' v hi hk hv=>?_
   .obtain⟨cells,hi0⟩:=hel i cells' hi;rw[<- hc i cells cells' hi0 hi];exact q3.len cells (qay hi0)
   obtain⟨cells,hi0⟩:=hel i cells' hi;have hcl:=q3.len cells (qay hi0);have hkl:=(qaa.1 hk).1;have hcc:=hc i cells cells' hi0 hi;have hk0:cells[k]? = some (cells[k]'(by omega)):=qad _;rw[zfr]
   have hrel:=(q3.at_ hi0).2 k _ v hk0 (by
    rw[qax,if_pos (by omega),qaz,<- hv];congr 1
    rw[qaW])
   exact ih i k cells cells' _ d' hi0 hi hk0 hk ⟨λt b cs hl=>⟨h.look hl,λht=>by
    subst ht;unfold Cx.look at hl;cases hz:c.zf b with
    | none=>rw[hz]at hl; simp at hl
    | some x=>exact(h.zf b x hz).1⟩,.inl rfl⟩ hrel
  .have:els'=[]:=qaw h0;subst this;exact .fzn
 | @clo f xs ys xs' ys' h1 h2 _ _ ih1 ih2=>
  intro c1 v hu hr;cases hr with
  | clo g1 g2 g3 g4=>
   refine .clo (h1.symm.trans g1) (h2.symm.trans g2) (λi d' v k1 k2=>?_) λi d' v k1 k2=>?_
   .have hil:=(qaa.1 k1).1;have hi0:xs[i]? = some (xs[i]'(by omega)):=qad _;exact ih1 i _ d' hi0 k1 hu (g3 i _ v hi0 k2)
   .have hil:=(qaa.1 k1).1;have hi0:ys[i]? = some (ys[i]'(by omega)):=qad _;exact ih2 i _ d' hi0 k1 hu (g4 i _ v hi0 k2)
 | @ptr β o ds ds' hL hle hd ih=>
  intro c1 v hu hr;cases hr with
  | ptr g1=>
   rename_i b0;have g2:c.ρ β=some (.cell b0):=by
    rcases hu.ρ with h1 | h1
    .rw[<- h1]; exact g1
    rw[h1]at g1; cases g1
   obtain⟨b,vs,k1,k2,k3⟩:=h.obj β _ hL;rw[g2]at k1;cases k1;have hob:=(h.own β _ _ g2 rfl).1;refine .fptr (zdP k2 λ_=>hob) (by rw[<- k3.1]; exact hle) λk d' v hk hv=>?_
   have hkl:=(qaa.1 hk).1;have hk0:ds[o+k]? = some (ds[o+k]'(by omega)):=qad _;rw[zfr]
   exact ih k _ d' hk0 hk ⟨λt b cs hl=>⟨h.look hl,λht=>by
    subst ht;unfold Cx.look at hl;cases hz:c.zf b with
    | none=>rw[hz]at hl; simp at hl
    | some x=>exact(h.zf b x hz).1⟩,.inl rfl⟩ (k3.2 _ _ v hk0 hv)
 | @fptr t' ds ds' ht hlen hd ih=>
  intro c1 v hu hr;cases hr with
  | fptr h1 h2 h3=>
   obtain⟨g1,g2⟩:=hu.look _ _ _ h1;refine .fptr (zdP g1 λh=>g2 (ht h)) (by rw[<- hlen]; exact h2) λk d' v hk hv=>?_
   have hkl:=(qaa.1 hk).1;have hk0:ds[k]? = some (ds[k]'(by omega)):=qad _;rw[zfr];exact ih k _ d' hk0 hk (hu.frz (zk5 c1) t') (h3 k _ v hk0 hv)
 | ifc _ ih=>intro c1 v hu hr; cases hr with | ifc g=>exact .ifc (ih hu g)
 | @agg ds ds' h1 _ ih=>
  intro c1 v hu hr;cases hr with
  | agg g1 g2=>
   refine .agg (h1.symm.trans g1) λi d' v k1 k2=>?_
   have hil:=(qaa.1 k1).1;have hi0:ds[i]? = some (ds[i]'(by omega)):=qad _;exact ih i _ d' hi0 k1 hu (g2 i _ v hi0 k2)
 | @tup ds ds' h1 _ ih=>
  intro c1 v hu hr;cases hr with
  | tup g1 g2=>
   refine .tup (h1.symm.trans g1) λi d' v k1 k2=>?_
   have hil:=(qaa.1 k1).1;have hi0:ds[i]? = some (ds[i]'(by omega)):=qad _;exact ih i _ d' hi0 k1 hu (g2 i _ v hi0 k2)
theorem RelH.under(h:RelH c L H):Under c c H:=⟨λt b cs hl=>⟨h.look hl,λht=>by
 subst ht;unfold Cx.look at hl;cases hz:c.zf b with
 | none=>rw[hz]at hl; simp at hl
 | some x=>exact(h.zf b x hz).1⟩,.inl rfl⟩
theorem zng(h:RelH c L H){t:Bool}{ds ds':List D}{vs:List V}(hs:Snps L t ds ds')(hr:Rs c ds vs):Rs (full t H c.base) ds' vs:=by
 induction hs generalizing vs with
 | nil=>have:=hr.1; cases vs with | nil=>exact Rs.nil _ | cons _ _=>simp at this
 | cons h1 _ ih=>
  obtain⟨v,vs',rfl,g1,g2⟩:=hr.inv;exact(ih g2).cons (zjK h h1 h.under g1)
def zbs(fns:Mach)(bar:Bool)(f:Nat)(args:List D)(L:List LB)(Q Qp:D->List LB->Prop):Prop:=
 ∀(c:Cx) (B:Nat) (H:zaf) (vs:List V),RelH c L H->B<=c.base->Rs c args vs ->
  EvF fns (bif bar then H.length else B) f vs H λcr H'=>∃ c' d L',Step c H c' H'/\RelH c' L' H'/\c.le c'/\match cr with | .ret v=>R c' d v/\Q d L' | .pan v=>R c' d v/\Qp d L'
def Fn(fns:Mach)(f:Nat)(args:List D)(res:D):Prop:=
 ∀(z:Nat->Option (List V)) (B:Nat) (H:zaf) (vs:List V),(∀ b cs,z b=some cs->H[b]? = some (.blk cs))->B<=H.length->Rs ⟨z,λ_=>none,λ_=>none,H.length⟩ args vs ->
  EvF fns B f vs H λcr H'=>H.length<=H'.length/\(∀ b,b<H.length->H'[b]? = H[b]?)/\∃ v zf,cr=.ret v/\(∀ b cs,zf b=some cs->H.length<=b/\H'[b]? = some (.blk cs))/\R ⟨λ_=>none,zf,λ_=>none,H.length⟩ res v
theorem Fn.call{f:Nat}{args args':List D}{res:D}(h:Fn fns f args' res)(hs:Snps L false args args')(bar:Bool)(Qp:D->List LB->Prop):zbs fns bar f args L (λd L'=>d=res/\L'=L) Qp:=by
 intro c B H vs hH hB hr;have hfull:=zng hH hs hr;have hBl:(bif bar then H.length else B)<=H.length:=by
  cases bar
  .exact qaD hB hH.base
  exact qan _
 have hrs:Rs ⟨zak H,λ_=>none,λ_=>none,H.length⟩ args' vs:=by
  have:full false H c.base=⟨zak H,λ_=>none,λ_=>none,H.length⟩:=by simp[full]
  rw[this]at hfull;exact hfull
 refine EvF.mono (h (zak H) _ H vs (λb cs hb=>?_) hBl hrs) ?_
 .unfold zak at hb;split at hb
  .cases hb; assumption
  cases hb
 rintro cr H' ⟨h1,h2,v,zf,rfl,h3,h4⟩;have hlt:∀ b cs,H[b]? = some (Ob.blk cs)->H'[b]? = some (Ob.blk cs):=λb cs hb=>(h2 b (qaa.1 hb).1).trans hb
 let c':Cx:={ c with zf:=λb=>match c.zf b with | some cs=>some cs | none=>zf b }
 have hzf:∀ b cs,c'.zf b=some cs->(c.zf b=some cs)\/(c.zf b=none/\zf b=some cs):=by
  intro b cs hb;simp only[c']at hb;cases hz:c.zf b with
  | some x=>rw[hz]at hb; cases hb; exact .inl rfl
  | none=>rw[hz]at hb; exact .inr ⟨rfl,hb⟩
 have hnew:∀ b cs,zf b=some cs->c.zf b=none:=by
  intro b cs hb;cases hz:c.zf b with
  | none=>rfl
  | some x=>
   have h5:=(qaa.1 (hH.zf b x hz).2).1;have h6:=(h3 b cs hb).1;omega
 have hap:∀ b cs cs',c'.zf b=some cs->c'.za b=some cs'->cs=cs':=by
  intro b cs cs' hb hb';have h5:=(hH.za b cs' hb').1;have h7:=hH.base;rcases hzf b cs hb with h6 | ⟨_,h6⟩
  .have:=(hH.zf b cs h6).1; omega
  have:=(h3 b cs h6).1; omega
 have hle:c.le c':=⟨λ_ _ h=>h,λb cs hb=>by simp only[c',hb],λβ x hx=>⟨x,hx,Lc.up.refl x⟩,hap⟩;refine⟨c',res,L,⟨h1,rfl,rfl,hle.zf,λb hb _=>h2 b hb,λβ x b hx hb=>.inl ⟨β,x,hx,hb⟩,λb hb=>hb.zdn (h2 b hb.lt)⟩,⟨?_,?_,?_,?_,hH.inj,hH.scope,?_⟩,hle,?_,rfl,rfl⟩
 .exact qaD hH.base h1
 .intro b cs hb;exact⟨(hH.za b cs hb).1,hlt b cs (hH.za b cs hb).2⟩
 .intro b cs hb;rcases hzf b cs hb with h6 | ⟨_,h6⟩
  .exact⟨(hH.zf b cs h6).1,hlt b cs (hH.zf b cs h6).2⟩
  exact⟨qaD hH.base (h3 b cs h6).1,(h3 b cs h6).2⟩
 .intro β x b hx hb;obtain⟨g1,g2,g3⟩:=hH.own β x b hx hb;refine⟨g1,qbl g2 h1,?_⟩;cases hz:c'.zf b with
  | none=>rfl
  | some cs=>
   rcases hzf b cs hz with h6 | ⟨_,h6⟩
   .rw[g3]at h6; cases h6
   have:=(h3 b cs h6).1; omega
 .intro β o ho;exact(hH.obj β o ho).mono hle rfl λx b hx hb=>h2 b (hH.own β x b hx hb).2.1
 exact h4.mono ⟨λb cs hb=>(by cases hb),λb cs hb=>(by simp only[c',hnew b cs hb]; exact hb),λβ x hx=>(by cases hx),hap⟩
end
section
variable {fns:Mach} {k0:Nat} {Q:LX->LSt->Prop} {c:Cx} {L:List LB} {S S':LSt} {M:St} {H:zaf} {B:Nat} {rd:Option Nat} {bar top e:Bool}
variable{QM:Ex->St->Prop}{l:List O}{vs:List V}
theorem EvO.zc6{S:St}{o:O}{f:Nat}{x:X}{xs:List X}{first cap:List V}(hw:wanted S.env o.g=true)(hi:o.i=.zc6 x xs)(hx:ev S.env x=some (.clo f first cap))(hv:evs S.env xs=some vs)(h:EvF fns (bif bar then S.heap.length else B) f (first ++ vs ++ cap) S.heap λcr hp=>match cr with | .ret v=>EvO fns B bar top e l ({ S with heap:=hp }.put o.dst v) QM | .pan v=>QM (.panic v e) { S with heap:=hp }):EvO fns B bar top e (o :: l) S QM:=by
 obtain⟨N,cr,h',h1,h2⟩:=h;cases cr with
 | ret v=>
  obtain⟨N2,ex,S',h3,h4⟩:=h2;refine⟨max N N2,ex,S',λn hn=>?_,h4⟩;rw[zax,zbO,hw,hi];simp only[hx,hv,zhb,zjh,h1 n (by omega)];exact h3 n (by omega)
 | pan v=>
  refine⟨N,_,_,λn hn=>?_,h2⟩;rw[zax,zbO,hw,hi];simp only[hx,hv,zhb,zjh,h1 n hn]
theorem EvO.panic{S:St}{o:O}{x:X}{t:TypeId}{v:V}(hw:wanted S.env o.g=true)(hi:o.i=.panic x)(hx:ev S.env x=some (.ifc t v))(h:QM (.panic (.ifc t v) e) S):EvO fns B bar top e (o :: l) S QM:=by
 refine⟨0,_,_,λn hn=>?_,h⟩;rw[zax,zbO,hw,hi];simp only[hx]
theorem EvF.body{f:Nat}{fn:Mx.Fn}{args:List V}{h:zaf}{QF:CR->zaf->Prop}(hf:fns.has f fn)(hp:fn.p=false)(hN:args.length<=fn.N)
  (hb:EvC fns B none fn.c ⟨args ++ List.replicate (fn.N - args.length) zav,[],h⟩ λex S'=>∃ H',Leaves B S'.dfs S'.heap H'/\match ex with
   | .ret=>∃ vs,zbj H' S'.env fn.rs=some vs/\QF (.ret (zdJ vs)) H'
   | .normal=>∃ vs,zbj H' S'.env fn.rs=some vs/\QF (.ret (zdJ vs)) H'
   | .panic v e=>QF (.pan v) H'
   | .exit _=>False):EvF fns B f args h QF:=by
 obtain⟨N,ex,S',h1,H',h3,h2⟩:=hb
 have key:∀ m,(fns.run (m+1)).call B f args h=(match exec (fns.run m) B none fn.c ⟨args ++ List.replicate (fn.N - args.length) zav,[],h⟩with
  | some (.normal,S)=>fin (fns.run m) B fn none true S
  | some (.ret,S)=>fin (fns.run m) B fn none true S
  | some (.panic v e,S)=>fin (fns.run m) B fn (some v) e S
  | _=>none):=by
  intro m;rw[Mach.zg3 hf];unfold zfD;rw[hf.1];simp only[hp,qcS,Mx.body,qap hN,qcR];rfl
 cases ex with
 | exit id=>exact h2.elim
 | normal=>
  obtain⟨vs,h4,h6⟩:=h2;refine⟨N+1,_,_,λn hn=>?_,h6⟩;obtain⟨m,rfl⟩:∃ m,n=m+1:=⟨n - 1,by omega⟩;rw[key,h1 m (by omega)];simp[fin,h3 _ _,h4]
 | ret=>
  obtain⟨vs,h4,h6⟩:=h2;refine⟨N+1,_,_,λn hn=>?_,h6⟩;obtain⟨m,rfl⟩:∃ m,n=m+1:=⟨n - 1,by omega⟩;rw[key,h1 m (by omega)];simp[fin,h3 _ _,h4]
 | panic v e=>
  refine⟨N+1,_,_,λn hn=>?_,h2⟩;obtain⟨m,rfl⟩:∃ m,n=m+1:=⟨n - 1,by omega⟩;rw[key,h1 m (by omega)];simp[fin,h3 _ _]
theorem zel{ex:Ex}(h:zhc (sem fns B rd QM []) ex M):QM ex M:=by cases ex<;>exact h
theorem zgQ{v:V}(k:List KM):(sem fns B rd QM k).2 (.panic v e) M=QM (.panic v e) M:=by
 induction k with
 | nil=>rfl
 | cons x k ih=>cases x<;>exact ih
theorem EvL.call{k:List K}{d:Option Nat}{f:Nat}{xs:List X}{g:Option (Nat×Bool)}{l:List O}{ds:List D}{Q1 Qp1:D->List LB->Prop}(hw:za3 S.env g=some true)(hx:zfG S.env xs=some ds)(hc:zbs fns (zlx bar f) f ds S.heap Q1 Qp1)
  (hk:∀ r L',Q1 r L'->wp fns k0 (.ops bar e l :: k) (LSt.put ⟨S.N,S.env,L'⟩ d r) Q) (hp:∀ r L',Qp1 r L'->Q (.panic r) ⟨S.N,S.env,L'⟩):EvL fns k0 (.ops bar e (⟨d,.call f xs,g⟩:: l):: k) S Q:=by
 intro c0 H0 c B rd M hd hway hr hB;obtain⟨vs,g1,g2⟩:=zbM hr hx;refine EvO.call (zb1 hr hw) rfl g1 (EvF.mono (hc c B M.heap vs hr.heap hB g2) ?_);rintro cr H' ⟨c',r,L',h1,h2,h3,h4⟩;cases cr with
 | ret v=>
  have hk':=hk r L' h4.2;cases hs:LSt.put ⟨S.N,S.env,L'⟩ d r with
  | none=>rw[hs,wp]at hk'; exact hk'.elim
  | some S1=>
   rw[hs]at hk';exact zaa hk' c0 H0 c' B rd _ hd (by cases d<;>exact hway.go h1 h3 hr.heap rfl) (zcR hr h3 h2 h4.1 hs) (by rw[h1.base]; exact hB)
 | pan v=>
  show(sem fns B rd (zs1 k0 c0 H0 Q) (k.map (toM k0 c0 H0))).2 (.panic v e) _;rw[zgQ];exact⟨c',⟨S.N,S.env,L'⟩,.panic r,hway.go h1 h3 hr.heap rfl,⟨λj d hj=>by obtain⟨v,q1,q2⟩:=hr.env j d hj; exact⟨v,q1,q2.mono h3⟩,hr.len,h2⟩,h4.1,hp r L' h4.2⟩
theorem EvL.zc6{k:List K}{d:Option Nat}{f:Nat}{x:X}{xs:List X}{g:Option (Nat×Bool)}{l:List O}{ds first cap:List D}{Q1 Qp1:D->List LB->Prop}(hw:za3 S.env g=some true)(hf:evD S.env x=some (.clo f first cap))(hx:zfG S.env xs=some ds)
  (hc:zbs fns bar f (first ++ ds ++ cap) S.heap Q1 Qp1)
  (hk:∀ r L',Q1 r L'->wp fns k0 (.ops bar e l :: k) (LSt.put ⟨S.N,S.env,L'⟩ d r) Q) (hp:∀ r L',Qp1 r L'->Q (.panic r) ⟨S.N,S.env,L'⟩):EvL fns k0 (.ops bar e (⟨d,.zc6 x xs,g⟩:: l):: k) S Q:=by
 intro c0 H0 c B rd M hd hway hr hB;obtain⟨vs,g1,g2⟩:=zbM hr hx;obtain⟨u,g3,g4⟩:=zac hr hf;cases g4 with
 | clo q1 q2 q3 q4=>
  rename_i us ws;refine EvO.zc6 (zb1 hr hw) rfl g3 g1 (EvF.mono (hc c B M.heap (us ++ vs ++ ws) hr.heap hB ((Rs.append ⟨q1,q3⟩ g2).append ⟨q2,q4⟩)) ?_);rintro cr H' ⟨c',r,L',h1,h2,h3,h4⟩;cases cr with
  | ret v=>
   have hk':=hk r L' h4.2;cases hs:LSt.put ⟨S.N,S.env,L'⟩ d r with
   | none=>rw[hs,wp]at hk'; exact hk'.elim
   | some S1=>
    rw[hs]at hk';exact zaa hk' c0 H0 c' B rd _ hd (by cases d<;>exact hway.go h1 h3 hr.heap rfl) (zcR hr h3 h2 h4.1 hs) (by rw[h1.base]; exact hB)
  | pan v=>
   show(sem fns B rd (zs1 k0 c0 H0 Q) (k.map (toM k0 c0 H0))).2 (.panic v e) _;rw[zgQ];exact⟨c',⟨S.N,S.env,L'⟩,.panic r,hway.go h1 h3 hr.heap rfl,⟨λj d hj=>by obtain⟨v,q1,q2⟩:=hr.env j d hj; exact⟨v,q1,q2.mono h3⟩,hr.len,h2⟩,h4.1,hp r L' h4.2⟩
theorem EvL.panic{k:List K}{d:Option Nat}{x:X}{g:Option (Nat×Bool)}{l:List O}{t:TypeId}{r:D}(hw:za3 S.env g=some true)(hx:evD S.env x=some (.ifc t r))(hp:Q (.panic (.ifc t r)) S):EvL fns k0 (.ops bar e (⟨d,.panic x,g⟩:: l):: k) S Q:=by
 intro c0 H0 c B rd M hd hway hr hB;obtain⟨u,g3,g4⟩:=zac hr hx;cases g4 with
 | ifc q=>
  refine EvO.panic (zb1 hr hw) rfl g3 ?_;show(sem fns B rd (zs1 k0 c0 H0 Q) (k.map (toM k0 c0 H0))).2 (.panic _ e) _;rw[zgQ];exact⟨c,S,.panic (.ifc t r),hway,hr,.ifc q,hp⟩
theorem EvL.skip{k:List K}{o:O}{l:List O}(hw:za3 S.env o.g=some false)(hk:wp fns k0 (.ops bar e l :: k) (S.put o.dst zh0) Q):EvL fns k0 (.ops bar e (o :: l):: k) S Q:=by
 intro c0 H0 c B rd M hd hway hr hB;cases hs:S.put o.dst zh0 with
 | none=>rw[hs,wp]at hk; exact hk.elim
 | some S1=>
  rw[hs]at hk;have hput:=zcR (L:=S.heap) (H:=M.heap) hr hr.le0 hr.heap (.lit _) hs;refine EvO.skip (zb1 hr hw) (zaa hk c0 H0 c B rd _ hd ?_ hput hB);obtain⟨od,oi,og⟩:=o;cases od<;>exact⟨hway.step,hway.le,hway.dfs⟩
theorem EvL.fn{k:List K}{d:Option Nat}{f:Nat}{xs:List X}{g:Option (Nat×Bool)}{ds args:List D}{res:D}(hf:Fn fns f args res)(hw:za3 S.env g=some true)(hx:zfG S.env xs=some ds)(hs:Snps S.heap false ds args)(hk:wp fns k0 (.ops bar e l :: k) (LSt.put ⟨S.N,S.env,S.heap⟩ d res) Q):EvL fns k0 (.ops bar e (⟨d,.call f xs,g⟩:: l):: k) S Q:=
 EvL.call (Qp1:=λ_ _=>False) hw hx (hf.call hs (zlx bar _) _) (λr L' h=>by obtain⟨rfl,rfl⟩:=h; exact hk) λ_ _ h=>h.elim
theorem zhC(S:LSt)(d:Option Nat)(i:I):zkp S d i (some true)=doI S d i:=rfl
theorem zgl(S:LSt)(d:Option Nat)(i:I):zkp S d i (some false)=S.put d zh0:=rfl
theorem zhE(a b:C):zkT (some true) a b=a:=rfl
theorem zgR(a b:C):zkT (some false) a b=b:=rfl
theorem zob(L:List LB)(t:Bool)(n:Nat)(els:List (List D)):znP L (.fz t n els)=some (.lit (.int .i64 els.length)):=rfl
theorem zp3(L:List LB)(β s n len:Nat)(cap:Option Nat)(st:Nat):znP L (.sl β s n len cap st)=(match zdm L β n st with | some _=>some (.lit (.int .i64 len))| none=>none):=rfl
theorem zmH(L:List LB):znP L (.lit (.slice none 0 0))=some (.lit (.int .i64 0)):=rfl
theorem zo2(L:List LB)(t:Bool)(n:Nat):znP L (.z0 t n)=some (.lit (.int .i64 0)):=rfl
theorem zoA(L:List LB)(n:Nat)(m:Int)(t:Bool)(n':Nat)(els:List (List D)):zs5 L n m (.fz t n' els)=(if n=n'/\0<=m then(match els[m.toNat]? with | some cells=>some (.fptr t cells)| none=>none)else none):=rfl
theorem zqo(L:List LB)(n:Nat)(m:Int)(β s n' len:Nat)(cap:Option Nat)(st:Nat):zs5 L n m (.sl β s n' len cap st)=(if n=n'/\0<=m/\m<len then(match zdm L β n st with | some _=>some (.eptr β n (s+m.toNat) 0 st)| none=>none)else none):=rfl
theorem zkf(L:List LB)(n:Option Nat)(β o:Nat):zi6 L n (.ptr β o)=(match L[β]? with | some (.cells ds)=>zfi ds o n | _=>none):=rfl
theorem zhJ(L:List LB)(n:Option Nat)(β n' i off st:Nat):zi6 L n (.eptr β n' i off st)=(match zdm L β n' st with | some es=>(match es[i]? with | some cells=>zfi cells off n | none=>none)| none=>none):=rfl
theorem zhP(L:List LB)(n:Option Nat)(t:Bool)(ds:List D):zi6 L n (.fptr t ds)=zfi ds 0 n:=rfl
theorem zke(v:Value):D.cells (.lit v)=bif zec v then some [.lit v]else none:=rfl
theorem zjj(ds:List D):D.cells (.agg ds)=some ds:=rfl
theorem zjY(β o:Nat):D.cells (.ptr β o)=some [.ptr β o]:=rfl
theorem zlF(β s n len:Nat)(cap:Option Nat)(st:Nat):D.cells (.sl β s n len cap st)=some [.sl β s n len cap st]:=rfl
theorem zmM(t:Bool)(n:Nat)(els:List (List D)):D.cells (.fz t n els)=some [.fz t n els]:=rfl
theorem zj3(f:Nat)(xs ys:List D):D.cells (.clo f xs ys)=some [.clo f xs ys]:=rfl
theorem zjO(t:TypeId)(d:D):D.cells (.ifc t d)=some [.ifc t d]:=rfl
theorem zhR(β n i off st:Nat):D.cells (.eptr β n i off st)=some [.eptr β n i off st]:=rfl
theorem zo8(L:List LB)(n:Nat)(t:Bool)(n':Nat)(els:List (List D)):znW L n (.fz t n' els)=(if n=n' then some els else none):=rfl
theorem zlQ(L:List LB)(n:Nat):znW L n (.lit (.slice none 0 0))=some []:=rfl
theorem zot(L:List LB)(n β s n' len:Nat)(cap:Option Nat)(st:Nat):znW L n (.sl β s n' len cap st)=(if n=n' then(match zdm L β n st with | some es=>if s+len<=es.length then some ((es.drop s).take len)else none | none=>none)else none):=rfl
def zcO(i:Nat):List D->List (Nat×D)
 | []=>[]
 | d :: r=>(i,d):: zcO (i+1) r
theorem zmO:∀(ds:List D) (i k:Nat) (d:D),lk (zcO i ds) k=some d->i<=k/\ds[k - i]? = some d
 | [],i,k,d,h=>by cases h
 | e :: r,i,k,d,h=>by
  simp only[zcO,lk]at h;split at h
  .rename_i he; subst he; cases h; exact⟨qan _,by simp⟩
  obtain⟨h1,h2⟩:=zmO r (i+1) k d h;refine⟨by omega,?_⟩;rw[show k - i=(k - (i+1))+1 by omega];simpa using h2
theorem zgi(hH:RelH c L H){args:List D}(hr:Rs c args vs){N:Nat}(hN:args.length<=N):Rel c ⟨N,zcO 0 args,L⟩ ⟨vs ++ List.replicate (N - vs.length) zav,[],H⟩:=by
 refine⟨λk d hk=>?_,?_,hH⟩
 .obtain⟨_,h2⟩:=zmO args 0 k d hk;rw[qcG]at h2;obtain⟨v,g1,g2⟩:=hr.get h2;exact⟨v,by rw[qai (qaa.1 g1).1]; exact g1,g2⟩
 have:=hr.1; simp; omega
def zwz(L:List LB)(E:List (Nat×D)):RX->Option D
 | .tmp k=>lk E k
 | .cell k n=>match lk E k with
  | some d=>zi6 L n d
  | none=>none
def zdd(L:List LB)(E:List (Nat×D)):List RX->Option (List D)
 | []=>some []
 | x :: r=>match zwz L E x with
  | some d=>(match zdd L E r with
   | some ds=>some (d :: ds)
   | none=>none)
  | none=>none
def zca:List D->D
 | [d]=>d
 | ds=>.tup ds
theorem znd(h:Rel c S M){x:RX}{d:D}(hd:zwz S.heap S.env x=some d):∃ v,zdD M.heap M.env x=some v/\R c d v:=by
 cases x with
 | tmp k=>exact h.env k d hd
 | cell k n=>
  simp only[zwz]at hd;cases hl:lk S.env k with
  | none=>rw[hl]at hd; cases hd
  | some d0=>
   rw[hl]at hd;obtain⟨v,g1,g2⟩:=h.env k d0 hl;obtain⟨v',g3,g4⟩:=zhL h.heap g2 hd;refine⟨v',?_,g4⟩;simp only[zdD,g1];split at g3
   .exact g3
   cases g3
theorem zck(h:Rel c S M):∀ {xs:List RX} {ds:List D},zdd S.heap S.env xs=some ds->∃ vs,zbj M.heap M.env xs=some vs/\Rs c ds vs
 | [],ds,hd=>by cases hd; exact⟨[],rfl,Rs.nil c⟩
 | x :: r,ds,hd=>by
  simp only[zdd]at hd;cases h1:zwz S.heap S.env x with
  | none=>rw[h1]at hd; cases hd
  | some d=>
   cases h2:zdd S.heap S.env r with
   | none=>rw[h1,h2]at hd; cases hd
   | some ds'=>
    rw[h1,h2]at hd;cases hd;obtain⟨v,g1,g2⟩:=znd h h1;obtain⟨vs,g3,g4⟩:=zck h h2;exact⟨v :: vs,by simp only[zbj,g1,g3],g4.cons g2⟩
theorem zd2{ds:List D}(h:Rs c ds vs):R c (zca ds) (zdJ vs):=by
 have hl:=h.1
 match ds,vs,h with
 | [],[],h=>exact .tup h.1 h.2
 | [d],[v],h=>exact h.2 0 d v rfl rfl
 | _ :: _ :: _,_ :: _ :: _,h=>exact .tup h.1 h.2
 | [],_ :: _,_=>simp at hl
 | _ :: _,[],_=>simp at hl
 | [_],_ :: _ :: _,_=>simp at hl
 | _ :: _ :: _,[_],_=>simp at hl
theorem zbs.intro{f:Nat}{fn:Mx.Fn}{args:List D}{Q1 Qp1:D->List LB->Prop}(hf:fns.has f fn)(hp:fn.p=false)(hN:args.length<=fn.N)
  (h:EvL fns L.length [.code fn.c] ⟨fn.N,zcO 0 args,L⟩ λx S'=>match x with
   | .ret=>∃ ds,zdd S'.heap S'.env fn.rs=some ds/\Q1 (zca ds) S'.heap
   | .normal=>∃ ds,zdd S'.heap S'.env fn.rs=some ds/\Q1 (zca ds) S'.heap
   | .panic d=>Qp1 d S'.heap
   | .exit _=>False):zbs fns false f args L Q1 Qp1:=by
 intro c B H vs hH hB hr;have hrel:=zgi hH hr hN;refine EvF.body hf hp (by rw[<- hr.1]; exact hN) (EvC.mono (h c H c B none _ (ztS.none _) (Way.start _ _ _ _) hrel hB) ?_);intro ex M' hx;have hx':=zel hx;obtain⟨c',S',x,h1,h2,h3,h4⟩:=hx';have hle:c.le c':=⟨h1.le.za,h1.le.zf,λβ y hy=>h1.le.ρ β y (hH.scope β y hy) hy,h2.heap.apart⟩;obtain⟨H2,l1,l2,l3⟩:=h1.leave h2.heap (qaD hB hH.base);have h2':Rel c' S' { M' with heap:=H2 }:=⟨h2.env,h2.len,l2⟩;refine⟨H2,l1,?_⟩;cases x with
 | normal=>
  cases ex<;>first | (exact h3.elim)| skip
  obtain⟨ds,g1,g2⟩:=h4;obtain⟨vs',g3,g4⟩:=zck h2' g1;exact⟨vs',g3,c',zca ds,S'.heap,l3,l2,hle,zd2 g4,g2⟩
 | ret=>
  cases ex<;>first | (exact h3.elim)| skip
  obtain⟨ds,g1,g2⟩:=h4;obtain⟨vs',g3,g4⟩:=zck h2' g1;exact⟨vs',g3,c',zca ds,S'.heap,l3,l2,hle,zd2 g4,g2⟩
 | panic d=>
  cases ex<;>first | (exact h3.elim)| skip
  exact⟨c',d,S'.heap,l3,l2,hle,h3,h4⟩
 | exit id=>exact h4.elim
mutual
def D.pl:D->Bool
 | .lit _=>true
 | .tup ds=>D.pls ds
 | .agg ds=>D.pls ds
 | _=>false
def D.pls:List D->Bool
 | []=>true
 | .lit _ :: r=>D.pls r
 | _=>false
end
theorem zk2:∀ {ds:List D} {vs:List V},D.pls ds=true->Rs c ds vs->V.lits vs=true
 | [],vs,_,hr=>by have:=hr.1; cases vs with | nil=>rfl | cons _ _=>simp at this
 | d :: r,vs,hp,hr=>by
  obtain⟨v,vs',rfl,h1,h2⟩:=hr.inv;cases d<;>first | (cases hp; done)| skip
  cases zgg h1;simp only[V.lits];exact zk2 (by simpa [D.pls]using hp) h2
theorem zsz{d:D}{v:V}(hp:d.pl=true)(hr:R c d v):v.plain=true:=by
 cases d<;>first | (cases hp; done)| skip
 .cases zgg hr; rfl
 .cases hr with | agg h1 h2=>exact zk2 (by simpa [D.pl]using hp) ⟨h1,h2⟩
 cases hr with | tup h1 h2=>exact zk2 (by simpa [D.pl]using hp) ⟨h1,h2⟩
def zc7(rs:List RX)(res:D):LX->LSt->Prop:=λx S'=>(x=.ret\/x=.normal)/\∃ ds,zdd S'.heap S'.env rs=some ds/\Snp S'.heap true (zca ds) res
variable{rs:List RX}{ds:List D}
theorem zc7.ret{res:D}(h:zdd S.heap S.env rs=some ds)(hs:Snp S.heap true (zca ds) res):zc7 rs res .ret S:=⟨.inl rfl,ds,h,hs⟩
theorem Fn.intro{f:Nat}{fn:Mx.Fn}{args:List D}{res:D}(hf:fns.has f fn)(hN:args.length<=fn.N)(hpl:fn.p=true->res.pl=true)
  (h:EvL fns 0 [.code fn.c] ⟨fn.N,zcO 0 args,[]⟩ (zc7 fn.rs res)):Fn fns f args res:=by
 intro z B H vs hz hB hr;have hH:RelH ⟨z,λ_=>none,λ_=>none,H.length⟩ [] H:=⟨qan _,λb cs hb=>⟨(qaa.1 (hz b cs hb)).1,hz b cs hb⟩,λb cs hb=>(by cases hb),λβ x b hx=>(by cases hx),λβ β' x x' b hx=>(by cases hx),λβ x hx=>(by cases hx),λβ o ho=>(by simp at ho)⟩;have hrel:=zgi hH hr hN;have hN':vs.length<=fn.N:=by rw[<- hr.1]; exact hN
 have post:∀(B':Nat),B'<=H.length->EvC fns B' none fn.c ⟨vs ++ List.replicate (fn.N - vs.length) zav,[],H⟩ λex M'=>(ex=.ret\/ex=.normal)/\∃ H2:zaf,Leaves B' M'.dfs M'.heap H2/\∃ us,zbj H2 M'.env fn.rs=some us /\
   H.length<=H2.length/\(∀ b:Nat,b<H.length->H2[b]? = H[b]?)/\∃ zf:Nat->Option (List V),(∀ b cs,zf b=some cs->H.length<=b/\H2[b]? = some (.blk cs))/\R ⟨λ_=>none,zf,λ_=>none,H.length⟩ res (zdJ us):=by
  intro B' hB';refine EvC.mono (h _ H _ B' none _ (ztS.none _) (Way.start _ _ _ _) hrel hB') ?_;intro ex M' hx;have hx':=zel hx;obtain⟨c',S',x,h1,h2,h3,h4,ds,h5,h6⟩:=hx';have hex:ex=.ret\/ex=.normal:=by
   rcases h4 with rfl | rfl
   .cases ex<;>first | (exact h3.elim)| exact .inl rfl
   cases ex<;>first | (exact h3.elim)| exact .inr rfl
  obtain⟨H2,l1,l2,l3⟩:=h1.leave h2.heap hB';have h2':Rel c' S' { M' with heap:=H2 }:=⟨h2.env,h2.len,l2⟩;obtain⟨us,g1,g2⟩:=zck h2' h5;have hsn:=zjK l2 h6 l2.under (zd2 g2);have hbase:c'.base=H.length:=h1.step.base;refine⟨hex,H2,l1,us,g1,l3.len,λb hb=>l3.zdn b hb λβ x hx=>(by cases hx),λb=>if H.length<=b then zak H2 b else none,λb cs hb=>?_,?_⟩
  .simp only at hb;split at hb
   .rename_i hle;refine⟨hle,?_⟩;unfold zak at hb;split at hb
    .cases hb; assumption
    cases hb
   cases hb
  refine hsn.mono ⟨λb cs hb=>(by simp[full]at hb),λb cs hb=>?_,λβ x hx=>(by cases hx),λb cs cs' _ h2=>(by cases h2)⟩;simp only[full,qbr,decide_eq_true_eq,hbase]at hb;exact hb
 cases hp:fn.p with
 | false=>
  obtain⟨N,ex,S',h1,h2,H2,h3,us,h4,h5,h6,zf,h7,h8⟩:=post B hB;exact EvF.plain hf hp hN' ⟨N,ex,S',h1,h2,H2,h3,us,h4,h5,h6,zdJ us,zf,rfl,h7,h8⟩
 | true=>
  obtain⟨N,ex,S',h1,h2,H2,h3,us,h4,h5,h6,zf,h7,h8⟩:=post H.length (qan _);refine EvF.mono (EvF.pure hf hp hN' hB (zsz (hpl hp) h8) ⟨N,ex,S',h1,h2,H2,h3,by rw[h4]; rfl⟩) ?_;rintro cr h' ⟨rfl,rfl⟩;refine⟨qan _,λ_ _=>rfl,zdJ us,λ_=>none,rfl,λb cs hb=>(by cases hb),?_⟩;have hpr:=zsz (hpl hp) h8;have hpres:=hpl hp;have lits:∀ {ds:List D} {vs:List V} {c c':Cx},D.pls ds=true->Rs c ds vs->Rs c' ds vs:=by
   intro ds;induction ds with
   | nil=>intro vs c c' _ hr; exact⟨hr.1,λi d v h=>(by simp at h)⟩
   | cons d r ih=>
    intro vs c c' hp hr;obtain⟨v,vs',rfl,h1,h2⟩:=hr.inv;cases d<;>first | (cases hp; done)| skip
    cases zgg h1;exact(ih (by simpa [D.pls]using hp) h2).cons (.lit _)
  generalize zdJ us=u at h8;cases res<;>first | (cases hpres; done)| skip
  .cases h8; exact .lit _
  .cases h8 with | agg q1 q2=>have:=lits (c':=⟨λ_=>none,λ_=>none,λ_=>none,h'.length⟩) (by simpa [D.pl]using hpres) ⟨q1,q2⟩; exact .agg this.1 this.2
  cases h8 with | tup q1 q2=>have:=lits (c':=⟨λ_=>none,λ_=>none,λ_=>none,h'.length⟩) (by simpa [D.pl]using hpres) ⟨q1,q2⟩; exact .tup this.1 this.2
theorem zvk{d:D}(h:d.pl=true)(L:List LB)(t:Bool):Snp L t d d:=by
 have aux:∀(ds:List D),D.pls ds=true->∀(i:Nat) d d',ds[i]? = some d->ds[i]? = some d'->Snp L t d d':=by
  intro ds;induction ds with
  | nil=>intro _ i d d' h1; simp at h1
  | cons e r ih=>
   intro hp i d d' h1 h2;cases e<;>first | (cases hp; done)| skip
   cases i with
   | zero=>simp at h1 h2; subst h1; subst h2; exact .lit _
   | succ i=>exact ih (by simpa [D.pls]using hp) i d d' (by simpa using h1) (by simpa using h2)
 cases d<;>first | (cases h; done)| skip
 .exact .lit _
 .exact .agg rfl (aux _ (by simpa [D.pl]using h))
 exact .tup rfl (aux _ (by simpa [D.pl]using h))
theorem zc7.pl{res:D}(h:(zdd S.heap S.env rs).map zca=some res)(hp:res.pl=true):zc7 rs res .ret S:=by
 cases hr:zdd S.heap S.env rs with
 | none=>rw[hr]at h; cases h
 | some ds=>
  rw[hr]at h;simp only[qaF,qac]at h;exact⟨.inl rfl,ds,hr,by rw[h]; exact zvk hp _ _⟩
variable{ds':List D}
theorem Snp.ztX{t:Bool}(h:Snps L t ds ds'):Snp L t (.tup ds) (.tup ds'):=.tup h.len h.get
theorem Snp.zl2{t:Bool}(h:Snps L t ds ds'):Snp L t (.agg ds) (.agg ds'):=.agg h.len h.get
end
end Go.Lx
