/-
 Trees: code with places to stop at, ways that meet, what may be forgotten in one go. Conditions: none.
-/
import Derived.Test.YtbjogdohfhdaiaaGreatErJ29
set_option linter.unusedSimpArgs false
set_option linter.unusedVariables false
namespace Go.Lx
open Go Go.Mx
def zH4:List O->Bool
 | []=>false
 | o :: r=>bif o.g.isSome then true else zH4 r
def zjv:C->Bool
 | .seq a b=>zjv a && zjv b
 | .cond _ a b=>zjv a || zjv b
 | .loop _=>false
 | .scope c=>zjv c
 | .exit _=>false
 | .ret=>false
 | _=>true
def zis(id:Nat):C->Nat
 | .seq a b=>zis id a+zis id b
 | .cond _ a b=>zis id a+zis id b
 | .block _ c=>zis id c
 | .loop c=>zis id c
 | .scope c=>zis id c
 | .exit j=>bif j == id then 1 else 0
 | .zey _ _ _ b=>zis id b
 | _=>0
def zBu:C->Bool
 | .loop _=>true
 | _=>false
def zdm:Bool->C->C
 | f,.seq a b=>.seq (zdm true a) (zdm f b)
 | f,.cond x a b=>bif f && (zjv a && zjv b)then .scope (.cond x (zdm false a) (zdm false b))else .cond x (zdm f a) (zdm f b)
 | f,.block id c=>bif zBu c || (f && Nat.blt 1 (zis id c+(bif zjv c then 1 else 0)))then .scope (.block id (zdm false c))else .block id (zdm f c)
 | f,.loop c=>.loop (zdm false c)
 | f,.scope c=>.scope (zdm f c)
 | f,.reg dr bar l=>bif f && zH4 l then .scope (.reg dr bar l)else .reg dr bar l
 | _,c=>c
section
variable {m:Mach} {k0:Nat} {Q:LX->LSt->Prop} {S S':LSt} {B:Nat} {rd:Option Nat}
theorem zvY:∀(n:Nat) (c:C) (f:Bool) (S:St) (r:Ex×St),exec (m.run n) B rd (zdm f c) S=some r->exec (m.run n) B rd c S=some r:=by
 intro n;induction n with
 | zero=>
  intro c;induction c with
  | seq a b iha ihb=>
   grind [zdm,exec]
  | cond x a b iha ihb=>
   grind [exec,zdm]
  | block id c ih=>
   grind [exec,zdm]
  | loop c ih=>
   intro f S r h;simp only[zdm,exec]at h ⊢;cases ha:exec (m.run 0) B rd (zdm false c) S with
   | none=>rw[ha]at h; cases h
   | some x=>
    rw[ha]at h;rw[ih _ _ _ ha];obtain⟨ex,S1⟩:=x;cases ex with
    | normal=>cases h
    | _=>exact h
  | scope c ih=>intro f S r h; exact ih _ _ _ h
  | reg dr bar l=>
   grind [zdm,Go.Mx.exec]
  | _=>intro f S r h; exact h
 | succ n ihn=>
  intro c;induction c with
  | seq a b iha ihb=>
   grind [zdm,exec]
  | cond x a b iha ihb=>
   grind [exec,zdm]
  | block id c ih=>
   grind [exec,zdm]
  | loop c ih=>
   intro f S r h;simp only[zdm,exec]at h ⊢;cases ha:exec (m.run (n+1)) B rd (zdm false c) S with
   | none=>rw[ha]at h; cases h
   | some x=>
    rw[ha]at h;rw[ih _ _ _ ha];obtain⟨ex,S1⟩:=x;cases ex with
    | normal=>exact ihn (.loop c) f S1 r h
    | _=>exact h
  | scope c ih=>intro f S r h; exact ih _ _ _ h
  | reg dr bar l=>
   grind [zdm,Go.Mx.exec]
  | _=>intro f S r h; exact h
theorem EvC.zh0{c:C}{f:Bool}{M:St}{QM:Ex->St->Prop}(h:EvC m B rd (zdm f c) M QM):EvC m B rd c M QM:=by
 obtain⟨N,ex,S',h1,h2⟩:=h;exact⟨N,ex,S',λn hn=>zvY n c f M _ (h1 n hn),h2⟩
theorem EvL.zh0{c:C}{f:Bool}{k:List K}(h:EvL m k0 (.code (zdm f c):: k) S Q):EvL m k0 (.code c :: k) S Q:=by
 intro c0 H0 cx B rd M hd hw hr hB;exact EvC.zh0 (h c0 H0 cx B rd M hd hw hr hB)
theorem EvL.scope{c:C}{k:List K}(h:EvL m k0 (.code c :: k) S Q):EvL m k0 (.code (.scope c):: k) S Q:=λc0 H0 cx B rd M hd hw hr hB=>h c0 H0 cx B rd M hd hw hr hB
theorem EvL.join{α:Type}{c:C}{k:List K}(T:α->LSt)(P:α->Prop)(h1:EvL m k0 (.code c :: .inv (λS'=>∃ a,P a/\zbi k0 S' (T a)):: k) S Q)(h2:∀ a,P a->EvL m k0 k (T a) Q):EvL m k0 (.code (.scope c):: k) S Q:=by
 intro c0 H0 cx B rd M hd hw hr hB;have h:=h1 c0 H0 cx B rd M hd hw hr hB;show EvC m B rd c M _;refine EvC.mono h λex M' hx=>?_
 cases ex with
 | normal=>
  obtain⟨c',S1,g1,g2,a,g3,g4⟩:=hx;obtain⟨c2,k1,k2,k3⟩:=g4 c' M' g2;refine h2 a g3 c0 H0 c2 B rd M' hd ⟨g1.step.trans k2,g1.le.trans k3,g1.dfs⟩ k1 ?_
  grind [Go.Lx.Way,Go.Lx.Step]
 | exit id=>exact hx
 | ret=>exact hx
 | panic v e=>exact hx
end
structure Und (c1 c:Cx):Prop where
 za:∀ b cs,c1.za b=some cs->c.za b=some cs
 zf:∀ b cs,c1.zf b=some cs->c.zf b=some cs
 ρ:c1.ρ=c.ρ\/c1.ρ=λ_=>none
theorem Und.refl(c:Cx):Und c c:=⟨λ_ _ h=>h,λ_ _ h=>h,.inl rfl⟩
theorem Und.frz{c1 c:Cx}(h:Und c1 c)(t:Bool):Und (c1.frz t) c:=by
 refine⟨λb cs hb=>?_,h.zf,.inr rfl⟩<;> grind [Cx.frz,Und]
theorem zmu(c:Cx)(t t2:Bool):(c.frz t).frz t2=c.frz (t || t2):=by
 cases t<;>cases t2<;>simp[Cx.frz]
mutual
def D.kin(kp:Nat->Bool):D->Prop
 | .ptr β _=>kp β=true
 | .eptr β _ _ _ _=>kp β=true
 | .sl β _ _ _ _ _=>kp β=true
 | .yld β=>kp β=true
 | .clo _ xs ys=>D.zjh kp xs/\D.zjh kp ys
 | .ifc _ d=>d.kin kp
 | .agg ds=>D.zjh kp ds
 | .tup ds=>D.zjh kp ds
 | .any=>True
 | .lit _=>True
 | .fptr _ _=>True
 | .fz _ _ _=>True
 | .z0 _ _=>True
def D.zjh(kp:Nat->Bool):List D->Prop
 | []=>True
 | d :: r=>d.kin kp/\D.zjh kp r
end
theorem zh1{kp:Nat->Bool}:∀ {ds:List D},D.zjh kp ds->∀ {i:Nat} {d:D},ds[i]? = some d->d.kin kp
 | [],_,i,d,h=>by simp at h
 | e :: r,hs,0,d,h=>by simp at h; subst h; exact hs.1
 | e :: r,hs,i+1,d,h=>zh1 hs.2 (by simpa using h)
def LB.kin(kp:Nat->Bool):LB->Prop
 | .cells ds=>D.zjh kp ds
 | .els _ es=>∀ cells,cells∈es->D.zjh kp cells
 | .grow _ es=>∀ cells,cells∈es->D.zjh kp cells
 | .gone=>True
 | .lp _ _ _ E _ _ _=>∀ k d,lk E k=some d->d.kin kp
 | .lost=>True
inductive Mz (L:List LB) (F:Nat->Bool):Bool->D->D->Prop
 | any {t d}:Mz L F t d .any
 | lit {t} (v):Mz L F t (.lit v) (.lit v)
 | nil {t t2 n}:Mz L F t (.lit (.slice none 0 0)) (.fz t2 n [])
 | ghost {t β n}:L[β]? = some (.grow n [])->Mz L F t (.sl β 0 n 0 none 0) (.lit (.slice none 0 0))
 | fz {t t1 t2 n els els'}:(t=true\/t2=true->t1=true)->els.length=els'.length->(∀(i:Nat) cells cells',els[i]? = some cells->els'[i]? = some cells'->cells.length=cells'.length)->
   (∀(i k:Nat) cells cells' d d',els[i]? = some cells->els'[i]? = some cells'->cells[k]? = some d->cells'[k]? = some d'->Mz L F (t || t2) d d')->Mz L F t (.fz t1 n els) (.fz t2 n els')
 | sl {t t2 β s n len cap st es els'}:F β=true->zgP L β n st=some es->s+len<=es.length->(∀ c,cap=some c->len<=c)->len=els'.length->(∀(i:Nat) cells cells',es[s+i]? = some cells->els'[i]? = some cells'->cells.length=cells'.length)->
   (∀(i k:Nat) cells cells' d d',es[s+i]? = some cells->els'[i]? = some cells'->cells[k]? = some d->cells'[k]? = some d'->Mz L F (t || t2) d d')->Mz L F t (.sl β s n len cap st) (.fz t2 n els')
 | ptr {t t2 β o ds ds'}:F β=true->L[β]? = some (.cells ds)->o+ds'.length<=ds.length->(∀(k:Nat) d d',ds[o+k]? = some d->ds'[k]? = some d'->Mz L F (t || t2) d d')->Mz L F t (.ptr β o) (.fptr t2 ds')
 | fptr {t t1 t2 ds ds'}:(t=true\/t2=true->t1=true)->ds.length=ds'.length->(∀(k:Nat) d d',ds[k]? = some d->ds'[k]? = some d'->Mz L F (t || t2) d d')->Mz L F t (.fptr t1 ds) (.fptr t2 ds')
 | clo {t f xs ys xs' ys'}:xs.length=xs'.length->ys.length=ys'.length->(∀(i:Nat) d d',xs[i]? = some d->xs'[i]? = some d'->Mz L F t d d')->(∀(i:Nat) d d',ys[i]? = some d->ys'[i]? = some d'->Mz L F t d d')->Mz L F t (.clo f xs ys) (.clo f xs' ys')
 | ifc {t ty d d'}:Mz L F t d d'->Mz L F t (.ifc ty d) (.ifc ty d')
 | agg {t ds ds'}:ds.length=ds'.length->(∀(i:Nat) d d',ds[i]? = some d->ds'[i]? = some d'->Mz L F t d d')->Mz L F t (.agg ds) (.agg ds')
 | tup {t ds ds'}:ds.length=ds'.length->(∀(i:Nat) d d',ds[i]? = some d->ds'[i]? = some d'->Mz L F t d d')->Mz L F t (.tup ds) (.tup ds')
inductive Mo (L:List LB) (F kp:Nat->Bool):D->D->Prop
 | same {d}:d.kin kp->Mo L F kp d d
 | fr {d d'}:Mz L F false d d'->Mo L F kp d d'
 | clo {f xs ys xs' ys'}:xs.length=xs'.length->ys.length=ys'.length->(∀(i:Nat) d d',xs[i]? = some d->xs'[i]? = some d'->Mo L F kp d d')->(∀(i:Nat) d d',ys[i]? = some d->ys'[i]? = some d'->Mo L F kp d d')->Mo L F kp (.clo f xs ys) (.clo f xs' ys')
 | ifc {ty d d'}:Mo L F kp d d'->Mo L F kp (.ifc ty d) (.ifc ty d')
 | agg {ds ds'}:ds.length=ds'.length->(∀(i:Nat) d d',ds[i]? = some d->ds'[i]? = some d'->Mo L F kp d d')->Mo L F kp (.agg ds) (.agg ds')
 | tup {ds ds'}:ds.length=ds'.length->(∀(i:Nat) d d',ds[i]? = some d->ds'[i]? = some d'->Mo L F kp d d')->Mo L F kp (.tup ds) (.tup ds')
inductive MB (L:List LB) (F kp:Nat->Bool):LB->LB->Prop
 | same {b:LB}:b.kin kp->MB L F kp b b
 | cells {ds ds'}:ds.length=ds'.length->(∀(i:Nat) d d',ds[i]? = some d->ds'[i]? = some d'->Mo L F kp d d')->MB L F kp (.cells ds) (.cells ds')
 | els {n:Nat} {e e':List (List D)}:e.length=e'.length->(∀(i:Nat) x x',e[i]? = some x->e'[i]? = some x'->x.length=x'.length/\∀(j:Nat) d d',x[j]? = some d->x'[j]? = some d'->Mo L F kp d d')->MB L F kp (.els n e) (.els n e')
 | grow {n:Nat} {e e':List (List D)}:e.length=e'.length->(∀(i:Nat) x x',e[i]? = some x->e'[i]? = some x'->x.length=x'.length/\∀(j:Nat) d d',x[j]? = some d->x'[j]? = some d'->Mo L F kp d d')->MB L F kp (.grow n e) (.grow n e')
section
variable {L:List LB} {H:zam} {c:Cx} {F kp:Nat->Bool}
noncomputable def Cx.zeK (c:Cx) (H:zam) (F kp:Nat->Bool):Cx:=
 { za:=c.za,zf:=λb=>open Classical in if ∃ β x,F β=true/\c.ρ β=some x/\x.blk=some b then zax H b else c.zf b,ρ:=λβ=>if kp β=true then c.ρ β else none,base:=c.base }
variable{β b:Nat}{vs:List V}
theorem zkI{x:Lc}(hF:F β=true)(hρ:c.ρ β=some x)(hb:x.blk=some b)(hv:H[b]? = some (.blk vs)):(c.zeK H F kp).zf b=some vs:=by
 simp only[Cx.zeK];rw[if_pos ⟨β,x,hF,hρ,hb⟩];simp[zax,hv]
theorem zqN(h:RelH c L H){cs:List V}(hb:c.zf b=some cs):(c.zeK H F kp).zf b=some cs:=by
 grind [Cx.zeK,Go.Lx.RelH]
theorem zkH(h:RelH c L H){cs:List V}(hb:(c.zeK H F kp).zf b=some cs):c.base<=b/\H[b]? = some (.blk cs):=by
 simp only[Cx.zeK]at hb;split at hb
 .grind [Go.Lx.RelH,Go.Mx.zax]
 exact h.zf b cs hb
theorem zlz(h:RelH c L H)(b:Nat)(cs cs':List V)(h1:(c.zeK H F kp).zf b=some cs)(h2:(c.zeK H F kp).za b=some cs'):cs=cs':=by
 grind [zkH,Go.Lx.RelH,Go.Lx.Cx.zeK]
theorem zk5(h:RelH c L H){c1:Cx}(hu:Und c1 c){t t1 t2:Bool}(ht:t=true\/t2=true->t1=true){cs:List V}(hl:c1.look t1 b=some cs):((c.zeK H F kp).frz t).look t2 b=some cs:=by
 unfold Cx.look at hl ⊢;cases hz:c1.zf b with
 | some x=>
  grind [Cx.frz,Und,Go.Lx.Cx.zeK,Go.Lx.RelH]
 | none=>
  rw[hz]at hl;cases t1 with
  | true=>simp at hl
  | false=>
   have hza:=hu.za b cs (by simpa using hl);have ht':t=false/\t2=false:=by
    simp_all
   obtain⟨rfl,rfl⟩:=ht';cases hz':((c.zeK H F kp).frz false).zf b with
   | some y=>
    grind [Go.Lx.Cx.frz,Go.Lx.Cx.zeK,Go.Lx.RelH]
   | none=>simpa [Cx.frz,Cx.zeK]using hza
theorem zAY{c1:Cx}(hu:Und c1 c){s n len st:Nat}{cap:Option Nat}{v:V}(hr:R c1 (.sl β s n len cap st) v):R c (.sl β s n len cap st) v:=by
 grind [Und,Go.Lx.R]
theorem znM(h:RelH c L H){t:Bool}{d d':D}(hs:Mz L F t d d'):∀ {c1:Cx} {v:V},Und c1 c->R c1 d v->R ((c.zeK H F kp).frz t) d' v:=by
 induction hs with
 | any=>intro c1 v _ _; exact .any v
 | lit v=>intro c1 v _ hr; cases hr; exact .lit _
 | nil=>intro c1 v _ hr; cases hr; exact .fzn
 | @ghost t β n hg=>
  intro c1 v hu hr;have hr0:=zAY hu hr;obtain⟨_,⟨_,g1⟩| ⟨g0,_⟩⟩:=h.obj β _ hg
  .grind [Go.Lx.R]
  .exact(g0 rfl).elim
 | @fz t t1 t2 n els els' ht hlen hc hd ih=>
  intro c1 v hu hr;cases hr with
  | fz0=>
   grind [Go.Lx.R]
  | fzn=>
   grind [Go.Lx.R]
  | fz h1 h2 h3 h4 h5 h6=>
   rename_i b o cap cs;rw[hlen];have hel:∀(i:Nat) cells',els'[i]? = some cells'->∃ cells,els[i]? = some cells:=λi cells' hi=>by
    grind
   refine .fz (zk5 h hu ht h1) h2 (by rw[<- hlen]; exact h3) (by rw[<- hlen]; exact h4) (λi cells' hi=>?_) λi cells' k d' v hi hk hv=>?_
   .grind
   .obtain⟨cells,hi0⟩:=hel i cells' hi;have hkl:=(qab.1 hk).1;have hk0:cells[k]? = some (cells[k]'(by rw[hc i cells cells' hi0 hi]; exact hkl)):=qac _;rw[zmu];exact ih i k cells cells' _ d' hi0 hi hk0 hk (hu.frz t1) (h6 i cells k _ v hi0 hk0 hv)
 | @sl t t2 β s n len cap st es els' hF he hle hcap hlen hc hd ih=>
  intro c1 v hu hr;have hr0:=zAY hu hr;subst hlen;rcases slR h he hr0 with⟨b,vs,q1,rfl,q2,q3⟩| ⟨rfl,rfl,h0,_,_,rfl,_⟩
  .obtain⟨e1,e2,_⟩:=ze3 h he;have hel:∀(i:Nat) cells',els'[i]? = some cells'->∃ cells,es[s+i]? = some cells:=λi cells' hi=>by
    grind
   have hroom:s * n+els'.length * n<=vs.length:=by rw[q3.zn9,<- qaQ]; exact qas n hle
   have hz:=zkI (kp:=kp) hF q1 rfl q2;have hlook:((c.zeK H F kp).frz t).look t2 b=some vs:=by
    grind [Cx.look,Cx.frz]
   refine .fz hlook e1 hcap hroom (λi cells' hi=>?_) λi cells' k d' v hi hk hv=>?_
   .grind [Go.Lx.Els]
   obtain⟨cells,hi0⟩:=hel i cells' hi;have hcl:=q3.len cells (qaC hi0);have hkl:=(qab.1 hk).1;have hcc:=hc i cells cells' hi0 hi;have hk0:cells[k]? = some (cells[k]'(by omega)):=qac _;rw[zmu]
   have hrel:=(q3.at_ hi0).2 k _ v hk0 (by
    grind)
   grind [Und.refl]
  .grind [Go.Lx.R]
 | @ptr t t2 β o ds ds' hF hL hle hd ih=>
  intro c1 v hu hr;cases hr with
  | ptr q1=>
   rename_i b0;obtain⟨b,vs,g1,g2,g3⟩:=h.obj β _ hL;have q1:c.ρ β=some (.cell b0):=by
    grind [Und]
   rw[g1]at q1;cases q1;have hz:=zkI (kp:=kp) hF g1 rfl g2;have hlook:((c.zeK H F kp).frz t).look t2 b0=some vs:=by
    grind [Cx.look,Cx.frz]
   grind [zmu,Und.refl,Go.Lx.R,Go.Lx.Rs]
 | @fptr t t1 t2 ds ds' ht hlen hd ih=>
  intro c1 v hu hr;cases hr with
  | fptr g1 g2 g3=>
   refine .fptr (zk5 h hu ht g1) (by rw[<- hlen]; exact g2) λk d' v k1 k2=>?_
   have hkl:=(qab.1 k1).1;have hk0:ds[k]? = some (ds[k]'(by omega)):=qac _;rw[zmu];exact ih k _ d' hk0 k1 (hu.frz t1) (g3 k _ v hk0 k2)
 | @clo t f xs ys xs' ys' h1 h2 _ _ ih1 ih2=>
  grind [Go.Lx.R]
 | ifc _ ih=>intro c1 v hu hr; cases hr with | ifc g=>exact .ifc (ih hu g)
 | @agg t ds ds' h1 _ ih=>
  grind [Go.Lx.R]
 | @tup t ds ds' h1 _ ih=>
  grind [Go.Lx.R]
theorem zAZ(hk:kp β=true):(c.zeK H F kp).ρ β=c.ρ β:=by simp[Cx.zeK,hk]
theorem zle(h:RelH c L H){d:D}{v:V}(hr:R c d v)(hk:d.kin kp):R (c.zeK H F kp) d v:=by
 have look:∀ {t:Bool} {b:Nat} {cs:List V},c.look t b=some cs->(c.zeK H F kp).look t b=some cs:=by
  intro t b cs hl;have:=zk5 (F:=F) (kp:=kp) h (Und.refl c) (t:=false) (t1:=t) (t2:=t) (by rintro(h | h); cases h; exact h) hl;simpa [Cx.look,Cx.frz]using this
 have frz:∀ t,(c.frz t).le ((c.zeK H F kp).frz t):=λt=>⟨λb cs hb=>by
  cases t with
  | true=>simp[Cx.frz]at hb
  | false=>simpa [Cx.frz,Cx.zeK]using hb,λb cs hb=>zqN (kp:=kp) h hb,λβ x hx=>by simp[Cx.frz]at hx,λb cs cs' h1 h2=>by
  cases t with
  | true=>simp[Cx.frz]at h2
  | false=>simp only[Cx.frz,qbv,if_false]at h1 h2; exact zlz h b cs cs' h1 h2⟩
 have aux:∀ {c1:Cx} {d v},R c1 d v->c1=c->d.kin kp->R (c.zeK H F kp) d v:=by
  intro c1 d v hr;induction hr with
  | any v=>intro _ _; exact .any v
  | lit v=>intro _ _; exact .lit v
  | ptr h1=>grind [Go.Lx.D.kin,Go.Lx.R,Go.Lx.Cx.zeK]
  | eptr h1 h2=>grind [Go.Lx.D.kin,Go.Lx.R,Go.Lx.Cx.zeK]
  | sl h1 h2=>grind [Go.Lx.D.kin,Go.Lx.R,Go.Lx.Cx.zeK]
  | slg h1=>grind [Go.Lx.D.kin,Go.Lx.R,Go.Lx.Cx.zeK]
  | fz h1 h2 h3 h4 h5 h6 ih=>intro hc _; subst hc; exact .fz (look h1) h2 h3 h4 h5 λi cells k d v g1 g2 g3=>(h6 i cells k d v g1 g2 g3).mono (frz _)
  | fz0=>intro _ _; exact .fz0
  | fzn=>intro _ _; exact .fzn
  | z0 h1 h2=>grind [Go.Lx.R]
  | z0n=>intro _ _; exact .z0n
  | fptr h1 h2 h3 ih=>intro hc _; subst hc; exact .fptr (look h1) h2 λk d v g1 g2=>(h3 k d v g1 g2).mono (frz _)
  | clo h1 h2 _ _ ih1 ih2=>grind [zh1,Go.Lx.D.kin,Go.Lx.R]
  | yld h1=>grind [Go.Lx.D.kin,Go.Lx.R,Go.Lx.Cx.zeK]
  | ifc _ ih=>intro hc hs; exact .ifc (ih hc hs)
  | agg h1 _ ih=>grind [zh1,Go.Lx.D.kin,Go.Lx.R]
  | tup h1 _ ih=>grind [zh1,Go.Lx.D.kin,Go.Lx.R]
 exact aux hr rfl hk
theorem zrD(h:RelH c L H){d d':D}(hm:Mo L F kp d d'):∀ {v:V},R c d v->R (c.zeK H F kp) d' v:=by
 induction hm with
 | same hk=>intro v hr; exact zle h hr hk
 | fr hz=>intro v hr; exact(znM h hz (Und.refl c) hr).zu7 (zlz h)
 | @clo f xs ys xs' ys' h1 h2 _ _ ih1 ih2=>
  grind [Go.Lx.R]
 | ifc _ ih=>intro v hr; cases hr with | ifc g=>exact .ifc (ih g)
 | @agg ds ds' h1 _ ih=>
  grind [Go.Lx.R]
 | @tup ds ds' h1 _ ih=>
  grind [Go.Lx.R]
theorem zoe(h:RelH c L H){ds ds':List D}(h1:ds.length=ds'.length)(h2:∀(i:Nat) d d',ds[i]? = some d->ds'[i]? = some d'->Mo L F kp d d')(hr:Rs c ds vs):Rs (c.zeK H F kp) ds' vs:=by
 refine⟨by rw[<- h1]; exact hr.1,λi d' v q1 q2=>?_⟩;have hi:=(qab.1 q1).1;have hi0:ds[i]? = some (ds[i]'(by omega)):=qac _
 grind [zrD,Go.Lx.Rs]
theorem zp2(h:RelH c L H){n:Nat}{e e':List (List D)}(h1:e.length=e'.length)(h2:∀(i:Nat) x x',e[i]? = some x->e'[i]? = some x'->x.length=x'.length/\∀(j:Nat) d d',x[j]? = some d->x'[j]? = some d'->Mo L F kp d d')(hr:Els c n e vs):Els (c.zeK H F kp) n e' vs:=by
 refine⟨λcells hc=>?_,zoe h (zpF h1 λi x x' w1 w2=>(h2 i x x' w1 w2).1) (zsQ h1 h2) hr.rel⟩;obtain⟨j,hj⟩:=qcw.1 hc;have hjl:=(qab.1 hj).1;have hj0:e[j]? = some (e[j]'(by omega)):=qac _
 grind [Go.Lx.Els]
theorem zyT(h:RelH c L H)(hk:kp β=true){b b':LB}(hm:MB L F kp b b')(hb:ze4 c H β b):ze4 (c.zeK H F kp) H β b':=by
 have hρ:(c.zeK H F kp).ρ β=c.ρ β:=zAZ hk;cases hm with
 | same hs=>
  have ks:∀ {ds:List D} {vs:List V},(∀ d,d∈ds->d.kin kp)->Rs c ds vs->Rs (c.zeK H F kp) ds vs:=λhd hr=>⟨hr.1,λi d v q1 q2=>zle h (hr.2 i d v q1 q2) (hd d (qaC q1))⟩
  have mem:∀ {ds:List D},D.zjh kp ds->∀ d,d∈ds->d.kin kp:=λhd d hm=>by
   grind [qcw,zh1]
  have flat:∀ {es:List (List D)},(∀ cells,cells∈es->D.zjh kp cells)->∀ d,d∈es.flatten->d.kin kp:=λhd d hm=>by
   grind [qcM]
  cases b with
  | cells ds=>grind [Go.Lx.ze4,Go.Lx.LB.kin]
  | els m es=>
   obtain⟨h0,⟨g1,g2⟩| ⟨b,vs,h1,h2,h3⟩⟩:=hb
   .grind [Go.Lx.ze4]
   .grind [Go.Lx.ze4,Go.Lx.LB.kin,Go.Lx.Els]
  | grow m es=>
   obtain⟨h0,⟨g1,g2⟩| ⟨g0,b,vs,h1,h2,h3⟩⟩:=hb
   .grind [Go.Lx.ze4]
   .grind [Go.Lx.ze4,Go.Lx.LB.kin,Go.Lx.Els]
  | gone=>exact hρ.trans hb
  | lp st pend N E ps asg body=>
   obtain⟨b,env,h1,h2,h3,h4⟩:=hb
   grind [zle,Go.Lx.ze4,Go.Lx.LB.kin,Go.Lx.zcq]
  | lost=>obtain⟨b,h1,h2⟩:=hb; exact⟨b,by rw[hρ]; exact h1,h2⟩
 | cells h1 h2=>
  grind [zoe,Go.Lx.ze4]
 | els h1 h2=>
  grind [zp2,Go.Lx.ze4]
 | grow h1 h2=>
  grind [zp2,Go.Lx.ze4]
end
inductive Act where
 | k
 | f
 | d
def isK(aS:List Act)(β:Nat):Bool:=match aS[β]? with | some .k=>true | _=>false
def isF(aS:List Act)(β:Nat):Bool:=match aS[β]? with | some .f=>true | _=>false
def MBs(L0:List LB)(aS:List Act):Nat->List LB->List LB->Prop
 | _,_,[]=>True
 | i,b :: r,b' :: r'=>(match aS[i]? with | some .k=>MB L0 (isF aS) (isK aS) b b' | _=>b'=.gone)/\MBs L0 aS (i+1) r r'
 | _,[],_ :: _=>False
def MEs(L0:List LB)(aS:List Act)(E:List (Nat×D)):List (Nat×D)->Prop
 | []=>True
 |(k,d'):: r=>(∃ d,lk E k=some d/\Mo L0 (isF aS) (isK aS) d d')/\MEs L0 aS E r
theorem MBs.get{L0:List LB}{aS:List Act}:∀ {i:Nat} {L L':List LB},MBs L0 aS i L L'->∀(j:Nat) b',L'[j]? = some b'->∃ b,L[j]? = some b/\(match aS[i+j]? with | some .k=>MB L0 (isF aS) (isK aS) b b' | _=>b'=.gone)
 | i,L,[],_,j,b',h=>by simp at h
 | i,[],_ :: _,h,_,_,_=>h.elim
 | i,b :: r,b1 :: r',h,0,b',hb=>by simp at hb; subst hb; exact⟨b,rfl,h.1⟩
 | i,b :: r,b1 :: r',h,j+1,b',hb=>by
  obtain⟨x,h1,h2⟩:=MBs.get h.2 j b' (by simpa using hb)
  grind
theorem MEs.get{L0:List LB}{aS:List Act}{E:List (Nat×D)}:∀ {E':List (Nat×D)},MEs L0 aS E E'->∀ k d',lk E' k=some d'->∃ d,lk E k=some d/\Mo L0 (isF aS) (isK aS) d d'
 | [],_,k,d',h=>by cases h
 |(k0,d0):: r,hs,k,d',h=>by
  simp only[lk]at h;split at h
  .grind [MEs]
  exact MEs.get hs.2 k d' h
theorem zbi.zeK{k0 N:Nat}{E E':List (Nat×D)}{L L':List LB}(aS:List Act)(h0:∀ β,β<k0->isK aS β=true)(hl:∀ β,isK aS β=true->β<L'.length)(hE:MEs L aS E E')(hL:MBs L aS 0 L L'):zbi k0 ⟨N,E,L⟩ ⟨N,E',L'⟩:=by
 intro c M h;have hH:=h.heap;have hdis:∀ β,isK aS β=true->isF aS β=true->False:=by
  grind [isK,isF]
 have hρ:∀ β x,(c.zeK M.heap (isF aS) (isK aS)).ρ β=some x->isK aS β=true/\c.ρ β=some x:=by
  grind [Cx.zeK]
 refine⟨c.zeK M.heap (isF aS) (isK aS),⟨λk d' hk=>?_,h.len,⟨hH.base,hH.za,λb cs hb=>zkH hH hb,?_,?_,?_,?_⟩⟩,⟨qap _,rfl,rfl,λb cs hb=>zqN hH hb,λ_ _ _=>rfl,λβ x b hx hb=>.inl ⟨β,x,(hρ β x hx).2,hb⟩,λ_ h=>h⟩,⟨λ_ _ h=>h,λb cs hb=>zqN hH hb,λβ x hβ hx=>⟨x,by rw[zAZ (h0 β hβ)]; exact hx,Lc.up.refl x⟩⟩⟩
 .obtain⟨d,h1,h2⟩:=hE.get k d' hk
  grind [zrD,Go.Lx.Rel]
 .grind [Cx.zeK,Go.Lx.RelH]
 .grind [Go.Lx.RelH]
 .simp_all
 intro β o ho;obtain⟨b,h1,h2⟩:=hL.get β o ho;rw[qaO]at h2;cases ha:aS[β]? with
 | none=>
  rw[ha]at h2;subst h2;show(c.zeK M.heap (isF aS) (isK aS)).ρ β=none;simp[Cx.zeK,isK,ha]
 | some a=>
  rw[ha]at h2;cases a with
  | k=>grind [zyT,isK,Go.Lx.RelH]
  | f=>
   simp only at h2;subst h2;show(c.zeK M.heap (isF aS) (isK aS)).ρ β=none;simp[Cx.zeK,isK,ha]
  | d=>
   simp only at h2;subst h2;show(c.zeK M.heap (isF aS) (isK aS)).ρ β=none;simp[Cx.zeK,isK,ha]
def zjE:List Act->Nat->Bool
 | [],_=>true
 | _ :: r,n+1=>zjE r n
 | .k :: _,0=>false
 | _ :: r,0=>zjE r 0
theorem zha:∀ {aS:List Act} {n:Nat},zjE aS n=true->∀ β,isK aS β=true->β<n
 | [],n,_,β,h=>by simp[isK]at h
 | a :: r,n+1,hk,β,h=>by
  cases β with
  | zero=>omega
  | succ β=>
   have:=zha (aS:=r) (n:=n) hk β (by simpa [isK]using h);omega
 | .k :: r,0,hk,β,h=>by cases hk
 | .f :: r,0,hk,β,h=>by
  cases β with
  | zero=>simp[isK]at h
  | succ β=>exact absurd (zha (aS:=r) (n:=0) hk β (by simpa [isK]using h)) (by omega)
 | .d :: r,0,hk,β,h=>by
  cases β with
  | zero=>simp[isK]at h
  | succ β=>exact absurd (zha (aS:=r) (n:=0) hk β (by simpa [isK]using h)) (by omega)
variable{N:Nat}
theorem zbi.m0{E E':List (Nat×D)}{L L':List LB}(aS:List Act)(hl:zjE aS L'.length=true)(hE:MEs L aS E E')(hL:MBs L aS 0 L L'):zbi 0 ⟨N,E,L⟩ ⟨N,E',L'⟩:=
 zbi.zeK aS (λβ h=>absurd h (qam β)) (zha hl) hE hL
def Jn{α:Type}(k0:Nat)(T:α->LSt)(P:α->Prop):LSt->Prop:=λS'=>∃ a,P a/\zbi k0 S' (T a)
theorem EvL.jn{m:Mach}{k0:Nat}{Q:LX->LSt->Prop}{S:LSt}{α:Type}{c:C}{k:List K}(T:α->LSt)(P:α->Prop)(h1:EvL m k0 (.code c :: .inv (Jn k0 T P):: k) S Q)(h2:∀ a,P a->EvL m k0 k (T a) Q):EvL m k0 (.code (.scope c):: k) S Q:=EvL.join T P h1 h2
theorem EvL.rounds{m:Mach}{k0:Nat}{Q:LX->LSt->Prop}{S:LSt}{α:Type}{x:C}{k:List K}(T:α->LSt)(P:Nat->α->Prop)(n:Nat)(a0:α)(h0:zbi k0 S (T a0))(hp:P n a0)(hz:∀ a,¬ P 0 a)
  (hs:∀ n a,P (n+1) a->EvL m k0 (.code x :: .inv (Jn k0 T (P n)):: k) (T a) Q):EvL m k0 (.code (.loop x):: k) S Q:=by
 refine EvL.loop (α:=Nat×α) (λp=>T p.2) (λp=>P p.1 p.2) (λp=>p.1) (n,a0) h0 hp ?_;rintro⟨n,a⟩ ha;cases n with
 | zero=>exact(hz a ha).elim
 | succ n=>
  intro c0 H0 c B rd M hd hw hr hB;have h:=hs n a ha c0 H0 c B rd M hd hw hr hB;refine EvC.mono (h :) λex M' hx=>?_
  cases ex with
  | normal=>
   obtain⟨c',S',g1,g2,a',g3,g4⟩:=hx;exact⟨c',S',g1,g2,(n,a'),g3,qbo n,g4⟩
  | exit id=>exact hx
  | ret=>exact hx
  | panic v e=>exact hx
def zt6(m:Mach)(f:Nat):Option (Nat×C×List RX×Bool):=(m.fns f).map λfn=>(fn.N,zdm false fn.c,fn.rs,fn.p)
variable{f:Nat}{rs:List RX}
theorem zjM{m:Mach}{cm:C}(h:zt6 m f=some (N,cm,rs,false))(ho:∀ B args hp,m.orc B f args hp=none):∃ c,m.has f ⟨N,c,rs,false⟩/\zdm false c=cm:=by
 unfold zt6 at h;cases hf:m.fns f with
 | none=>rw[hf]at h; cases h
 | some fn=>
  rw[hf]at h;obtain⟨N',c,rs',p⟩:=fn
  grind [Go.Lx.Mach.has]
theorem Fn.of{m:Mach}{cm:C}{args:List D}{res:D}(h:zt6 m f=some (N,cm,rs,false))(ho:∀ B args hp,m.orc B f args hp=none)(hN:args.length<=N)(hb:EvL m 0 [.code cm] ⟨N,zeY 0 args,[]⟩ (zjI rs res)):Fn m f args res:=by
 grind [zjM,Fn.intro,EvL.zh0]
theorem FnA.of{m:Mach}{cm:C}{args:List D}{res:D}(h:zt6 m f=some (N,cm,rs,false))(ho:∀ B args hp,m.orc B f args hp=none)(hN:args.length<=N)(hb:EvL m 0 [.code cm] ⟨N,zeY 0 args,[]⟩ (zv1 rs res)):FnA m f args res:=by
 grind [zjM,FnA.intro,EvL.zh0]
end Go.Lx
