/-
 Lists with room behind them; blocks that must stay; loops over what a generator yields. Conditions: none.
-/
import Derived.Test.YtbjogdohfhdaiaaCaDc2
import Derived.Test.YtbjogdohfhdaiaaCaLy16
import Derived.Test.YtbjogdohfhdaiaaCaMxG
set_option linter.unusedSimpArgs false
set_option linter.unusedVariables false
namespace Go.Dc
open Go Go.Mx Go.Lx
variable {α β γ:Type}
def room(xs:List α)(c:Nat)(z:α):List α:=xs ++ List.replicate (c - xs.length) z
theorem wrap64{n:Int}(h1:-9223372036854775808<=n)(h2:n<9223372036854775808):IntKind.i64.wrap n=n:=by
 simp only[IntKind.wrap,IntKind.bits,IntKind.signed]; simp; omega
def zhl(xs:List α):Option Unit:=if xs.length<9223372036854775808 then some ()else none
variable{xs:List α}
theorem zgA{u:Unit}(h:zhl xs=some u):xs.length<9223372036854775808:=by
 unfold zhl at h;split at h
 .assumption
 cases h
theorem zsa{i:Nat}{x:α}(h:xs[i]? = some x):xs.drop i=x :: xs.drop (i+1):=by
 obtain⟨h1,h2⟩:=qaa.1 h;rw[<- h2];exact qau h1
variable{rs:List RX}
theorem zgp{P:Program}{orc:Orc}{f N:Nat}{cm:C}(h:(zfP P f).map (λfn=>(fn.N,zbf false fn.c,fn.rs,fn.p))=some (N,cm,rs,false)):zn1 ⟨zgk P,orc⟩ f=some (N,cm,rs,false):=by
 unfold zn1;show(zgk P f).map _=_;rw[<- zgv];exact h
theorem EvL.mark{m:Mach}{k0:Nat}{c bm:C}{k:List K}{S:LSt}{Q:LX->LSt->Prop}(hm:zbf false c=bm)(h:EvL m k0 (.code bm :: k) S Q):EvL m k0 (.code c :: k) S Q:=by
 subst hm;exact EvL.zfS h
theorem zbs.ofM{m:Mach}{f N:Nat}{cm:C}{args:List D}{L:List LB}{Q1 Qp1:D->List LB->Prop}(h:zn1 m f=some (N,cm,rs,false))(ho:∀ B args hp,m.orc B f args hp=none)(hN:args.length<=N)(hb:EvL m L.length [.code cm] ⟨N,zcO 0 args,L⟩ λx S'=>match x with
   | .ret=>∃ ds,zdd S'.heap S'.env rs=some ds/\Q1 (zca ds) S'.heap
   | .normal=>∃ ds,zdd S'.heap S'.env rs=some ds/\Q1 (zca ds) S'.heap
   | .panic d=>Qp1 d S'.heap
   | .exit _=>False):zbs m false f args L Q1 Qp1:=by
 obtain⟨c,hc,rfl⟩:=zga h ho;exact zbs.intro hc rfl hN (EvL.zfS hb)
def zwm(N:Nat):List O->List (Nat×D)->Option (List (Nat×D))
 | [],E=>some E
 | ⟨some d,.mov x,none⟩:: l,E=>match evD E x with
  | some v=>if d<N then zwm N l ((d,v):: E)else none
  | none=>none
 | _,_=>none
def zul(N:Nat):C->List (Nat×D)->Option (List (Nat×D))
 | .skip,E=>some E
 | .reg _ _ l,E=>zwm N l E
 | .seq a b,E=>match zul N a E with
  | some E1=>zul N b E1
  | none=>none
 | _,_=>none
section
variable {m:Mach} {k0:Nat} {Q:LX->LSt->Prop}
theorem zqF{N:Nat}{L:List LB}{Q:LX->LSt->Prop}{bar e:Bool}{k:List K}:∀ {l:List O} {E E1:List (Nat×D)},zwm N l E=some E1->wp m k0 k (some ⟨N,E1,L⟩) Q->wp m k0 (.ops bar e l :: k) (some ⟨N,E,L⟩) Q
 | [],E,E1,h,hq=>by
  cases h;rw[wp];exact hq
 | ⟨d,i,g⟩:: l,E,E1,h,hq=>by
  cases d with
  | none=>cases i<;>cases h
  | some d=>
   cases i<;>cases g<;>first | (cases h; done)| skip
   rename_i x;simp only[zwm]at h;cases hx:evD E x with
   | none=>rw[hx]at h; cases h
   | some v=>
    rw[hx]at h;simp only at h;split at h
    .rename_i hd;rw[wp];simp only[zbH];have:zkp ⟨N,E,L⟩ (some d) (.mov x) (za3 (⟨N,E,L⟩:LSt).env none)=some ⟨N,(d,v):: E,L⟩:=by
      simp[zkp,za3,doI,zae,LSt.zus,qL,hx,LSt.put,hd]
     rw[this];exact zqF h hq
    cases h
theorem ztH{N:Nat}{L:List LB}{Q:LX->LSt->Prop}:∀ {c:C} {k:List K} {E E1:List (Nat×D)},zul N c E=some E1->wp m k0 k (some ⟨N,E1,L⟩) Q->wp m k0 (.code c :: k) (some ⟨N,E,L⟩) Q:=by
 intro c;induction c with
 | skip=>intro k E E1 h hq; cases h; rw[wp]; exact hq
 | reg dr bar l=>intro k E E1 h hq; rw[wp]; exact zqF h hq
 | seq a b iha ihb=>
  intro k E E1 h hq;simp only[zul]at h;cases ha:zul N a E with
  | none=>rw[ha]at h; cases h
  | some E2=>
   rw[ha]at h;rw[wp];exact iha ha (ihb h hq)
 | _=>intro k E E1 h; cases h
theorem zt9{N:Nat}{c:C}{E E1:List (Nat×D)}{L:List LB}(h:zul N c E=some E1):EvL m k0 [.code c] ⟨N,E,L⟩ λx S1=>x=.normal/\S1=⟨N,E1,L⟩:=
 zaa (ztH h (by rw[wp]; exact⟨rfl,rfl⟩))
mutual
theorem zpz{n:Nat}{kp:Nat->Bool}(hk:∀ b,b<n->kp b=true):∀ {d:D},d.sc n->d.kin kp
 | .ptr b _,h=>hk b h
 | .eptr b _ _ _ _,h=>hk b h
 | .sl b _ _ _ _ _,h=>hk b h
 | .yld b,h=>hk b h
 | .clo _ xs ys,h=>⟨zg9 hk (ds:=xs) h.1,zg9 hk (ds:=ys) h.2⟩
 | .ifc _ d,h=>zpz hk (d:=d) h
 | .agg ds,h=>zg9 hk (ds:=ds) h
 | .tup ds,h=>zg9 hk (ds:=ds) h
 | .any,_=>trivial
 | .lit _,_=>trivial
 | .fptr _ _,_=>trivial
 | .fz _ _ _,_=>trivial
 | .z0 _ _,_=>trivial
theorem zg9{n:Nat}{kp:Nat->Bool}(hk:∀ b,b<n->kp b=true):∀ {ds:List D},D.scs n ds->D.zhd kp ds
 | [],_=>trivial
 | d :: r,h=>⟨zpz hk (d:=d) h.1,zg9 hk (ds:=r) h.2⟩
end
mutual
theorem zsT{n:Nat}:∀ {d:D},d.kin (λb=>decide (b<n))->d.sc n
 | .ptr b _,h=>(qcZ (show decide (b<n)=true from h):b<n)
 | .eptr b _ _ _ _,h=>(qcZ (show decide (b<n)=true from h):b<n)
 | .sl b _ _ _ _ _,h=>(qcZ (show decide (b<n)=true from h):b<n)
 | .yld b,h=>(qcZ (show decide (b<n)=true from h):b<n)
 | .clo _ xs ys,h=>⟨zfy (ds:=xs) h.1,zfy (ds:=ys) h.2⟩
 | .ifc _ d,h=>zsT (d:=d) h
 | .agg ds,h=>zfy (ds:=ds) h
 | .tup ds,h=>zfy (ds:=ds) h
 | .any,_=>trivial
 | .lit _,_=>trivial
 | .fptr _ _,_=>trivial
 | .fz _ _ _,_=>trivial
 | .z0 _ _,_=>trivial
theorem zfy{n:Nat}:∀ {ds:List D},D.zhd (λb=>decide (b<n)) ds->D.scs n ds
 | [],_=>trivial
 | d :: r,h=>⟨zsT (d:=d) h.1,zfy (ds:=r) h.2⟩
end
theorem zv1(e:En α)(n:Nat)(t:Bool)(xs:List α):∀ cells,cells∈xs.map (e.c t)->D.scs n cells:=λcells h=>zfy (zk3 e _ t xs cells h)
def scE(n:Nat):List (Nat×D)->Prop
 | []=>True
 | x :: r=>x.2.sc n/\scE n r
theorem zpe{n:Nat}:∀ {E:List (Nat×D)},scE n E->∀ k d,lk E k=some d->d.sc n
 | [],_,k,d,h=>by cases h
 | x :: r,hs,k,d,h=>by
  obtain⟨j,e⟩:=x;simp only[lk]at h;split at h
  .cases h; exact hs.1
  exact zpe hs.2 k d h
theorem EvL.zmY{ι γ:Type}{k:List K}{x:X}{ps:List Nat}{asg body bm:C}{gf:Nat}{first cap:List D}{xs:List ι}{Y:ι->Nat->List D->List LB->Prop}{N n0:Nat}{E:List (Nat×D)}
  (hg:Gen m gf first cap xs Y) (hx:evD E x=some (.clo gf first cap)) (hbm:zbf false body=bm) (T:γ->List LB) (P:Nat->γ->Prop) (R:LX->List LB->Prop) (a0:γ)
  (hlen:∀ a,(T a).length=n0) (hk0:k0<=n0) (hE:scE (n0+1) E) (hsc:∀ a,zcd (n0+1) (T a)) (hR:∀ x L1,R x L1->L1.length=n0/\zcd (n0+1) L1) (hpan:∀ d L1,¬ R (.panic d) L1)
  (hp:P 0 a0)
  (hstep:∀ i a y args G lpF,xs[i]? = some y->P i a->Y y (n0+1) args G->(∀ kp:Nat->Bool,(∀ b,b<n0+1->kp b=true)->LB.kin kp lpF)->∃ E' E1,zux N E ps args=some E'/\zul N asg E'=some E1 /\
   EvL m (n0+1+G.length) [.code bm] ⟨N,E1,T a ++ lpF :: G⟩ λx2 S2=>∃ L1,L1.length=n0/\za9 (n0+1+G.length) S2 ⟨S2.N,[],L1 ++ lpF :: G⟩/\(match x2 with | .normal=>∃ a',P (i+1) a'/\L1=T a' | x2=>R x2 L1))
  (hend:∀ a,P xs.length a->R .normal (T a))
  (hk:∀ L1,R .normal L1->EvL m k0 k ⟨N,E,L1 ++ [.lost]⟩ Q)
  (hke:∀ id L1,R (.exit id) L1->EvL m k0 (.ex id :: k) ⟨N,E,L1 ++ [.lost]⟩ Q)
  (hkr:∀ L1,R .ret L1->Q .ret ⟨N,E,L1 ++ [.lost]⟩):EvL m k0 (.code (.zdy x ps asg body):: k) ⟨N,E,T a0⟩ Q:=by
 refine EvL.zdy hx hg T P R a0 hlen hk0 (zpe hE) hsc hR hpan hp ?_ hend hk hke hkr;intro i a y args G hy hP hY;have hl:=hlen a;obtain⟨E',E1,h1,h2,h3⟩:=hstep i a y args G (.lp false none N E ps asg body) hy hP hY λkp hkp j d hj=>zpz hkp (zpe hE j d hj)
 refine⟨E',h1,EvL.mono (zt9 h2) ?_⟩;rintro x1 S1 ⟨rfl,rfl⟩;refine⟨rfl,rfl,zh8 hl,?_⟩;rw[zkL hl];subst hbm;exact EvL.zfS h3
end
end Go.Dc
