/-
 Lists with room behind them; blocks that must stay; loops over what a generator yields. Conditions: none.
-/
import Derived.Test.YtnfgibomhkbcpaaFrDc2
import Derived.Test.YtnfgibomhkbcpaaFrLy16
import Derived.Test.YtnfgibomhkbcpaaFrMxG
set_option linter.unusedSimpArgs false
set_option linter.unusedVariables false
namespace Go.Dc
open Go Go.Mx Go.Lx
variable {α β γ:Type}
def room(xs:List α)(c:Nat)(z:α):List α:=xs ++ List.replicate (c - xs.length) z
def zs3:List Lx.Act→Nat→Bool
 | _,0=>true
 | .k :: r,n+1=>zs3 r n
 | _,_+1=>false
theorem zoF:∀ {as:List Lx.Act} {n:Nat},zs3 as n=true→∀ b,b<n→isK as b=true
 | _,0,_,b,hb=>absurd hb (qaw b)
 | .k :: r,n+1,h,b,hb=>by
  cases b with
  | zero=>rfl
  | succ b=>exact zoF (as:=r) (n:=n) h b (by omega)
 | [],_+1,h,_,_=>by cases h
 | .f :: _,_+1,h,_,_=>by cases h
 | .d :: _,_+1,h,_,_=>by cases h
theorem zby.mK{k0 N:Nat}{E E':List (Nat×D)}{L L':List LB}(as:List Lx.Act)(hk:zs3 as k0=true)(hl:zob as L'.length=true)(hE:MEs L as E E')(hL:MBs L as 0 L L'):zby k0 ⟨N,E,L⟩ ⟨N,E',L'⟩:=
 zby.zea as (zoF hk) (zgE hl) hE hL
theorem wrap64{n:Int}(h1:-9223372036854775808≤n)(h2:n<9223372036854775808):IntKind.i64.wrap n=n:=by
 simp only[IntKind.wrap,IntKind.bits,IntKind.signed]; simp; omega
def znB(xs:List α):Option Unit:=if xs.length<9223372036854775808 then some ()else none
theorem zlH{xs:List α}{u:Unit}(h:znB xs=some u):xs.length<9223372036854775808:=by
 unfold znB at h;split at h
 ·assumption
 cases h
theorem zfA{xs:List α}{i:Nat}{x:α}(h:xs[i]? = some x):xs.drop i=x :: xs.drop (i+1):=by
 obtain⟨h1,h2⟩:=qac.1 h;rw[← h2];exact qam h1
theorem za2{P:Program}{orc:Orc}{f N:Nat}{cm:C}{rs:List RX}(h:(zlu P f).map (fun fn=>(fn.N,zbN false fn.c,fn.rs,fn.p))=some (N,cm,rs,false)):zg2 ⟨zil P,orc⟩ f=some (N,cm,rs,false):=by
 unfold zg2;show(zil P f).map _=_;rw[← zp4];exact h
theorem EvL.mark{m:Mach}{k0:Nat}{c bm:C}{k:List K}{S:LSt}{Q:LX→LSt→Prop}(hm:zbN false c=bm)(h:EvL m k0 (.code bm :: k) S Q):EvL m k0 (.code c :: k) S Q:=by
 subst hm;exact EvL.zhS h
theorem zeC.ofM{m:Mach}{f N:Nat}{cm:C}{rs:List RX}{args:List D}{L:List LB}{Q1 Qp1:D→List LB→Prop}(h:zg2 m f=some (N,cm,rs,false))(ho:∀ B args hp,m.orc B f args hp=none)(hN:args.length≤N)
  (hb:EvL m L.length [.code cm] ⟨N,zfp 0 args,L⟩ fun x S'=>match x with
   | .ret=>∃ ds,zfK S'.heap S'.env rs=some ds∧Q1 (zef ds) S'.heap
   | .normal=>∃ ds,zfK S'.heap S'.env rs=some ds∧Q1 (zef ds) S'.heap
   | .panic d=>Qp1 d S'.heap
   | .exit _=>False):zeC m false f args L Q1 Qp1:=by
 obtain⟨c,hc,rfl⟩:=zjS h ho;exact zeC.intro hc rfl hN (EvL.zhS hb)
def zuA(N:Nat):List O→List (Nat×D)→Option (List (Nat×D))
 | [],E=>some E
 | ⟨some d,.mov x,none⟩:: l,E=>match evD E x with
  | some v=>if d<N then zuA N l ((d,v):: E)else none
  | none=>none
 | _,_=>none
def zsZ(N:Nat):C→List (Nat×D)→Option (List (Nat×D))
 | .skip,E=>some E
 | .reg _ _ l,E=>zuA N l E
 | .seq a b,E=>match zsZ N a E with
  | some E1=>zsZ N b E1
  | none=>none
 | _,_=>none
section
variable {m:Mach} {k0:Nat} {Q:LX→LSt→Prop}
theorem zow{N:Nat}{L:List LB}{Q:LX→LSt→Prop}{bar e:Bool}{k:List K}:∀ {l:List O} {E E1:List (Nat×D)},zuA N l E=some E1→wp m k0 k (some ⟨N,E1,L⟩) Q→wp m k0 (.ops bar e l :: k) (some ⟨N,E,L⟩) Q
 | [],E,E1,h,hq=>by
  cases h;rw[wp];exact hq
 | ⟨d,i,g⟩:: l,E,E1,h,hq=>by
  cases d with
  | none=>cases i<;>cases h
  | some d=>
   cases i<;>cases g<;>first | (cases h; done)| skip
   rename_i x;simp only[zuA]at h;cases hx:evD E x with
   | none=>rw[hx]at h; cases h
   | some v=>
    rw[hx]at h;simp only at h;split at h
    ·rename_i hd;rw[wp];simp only[zci];have:zkL ⟨N,E,L⟩ (some d) (.mov x) (zbn (⟨N,E,L⟩:LSt).env none)=some ⟨N,(d,v):: E,L⟩:=by
      simp[zkL,zbn,doI,zal,LSt.zto,qL,hx,LSt.put,hd]
     rw[this];exact zow h hq
    cases h
theorem zs5{N:Nat}{L:List LB}{Q:LX→LSt→Prop}:∀ {c:C} {k:List K} {E E1:List (Nat×D)},zsZ N c E=some E1→wp m k0 k (some ⟨N,E1,L⟩) Q→wp m k0 (.code c :: k) (some ⟨N,E,L⟩) Q:=by
 intro c;induction c with
 | skip=>intro k E E1 h hq; cases h; rw[wp]; exact hq
 | reg dr bar l=>intro k E E1 h hq; rw[wp]; exact zow h hq
 | seq a b iha ihb=>
  intro k E E1 h hq;simp only[zsZ]at h;cases ha:zsZ N a E with
  | none=>rw[ha]at h; cases h
  | some E2=>
   rw[ha]at h;rw[wp];exact iha ha (ihb h hq)
 | _=>intro k E E1 h; cases h
theorem ztc{N:Nat}{c:C}{E E1:List (Nat×D)}{L:List LB}(h:zsZ N c E=some E1):EvL m k0 [.code c] ⟨N,E,L⟩ fun x S1=>x=.normal∧S1=⟨N,E1,L⟩:=
 zaa (zs5 h (by rw[wp]; exact⟨rfl,rfl⟩))
mutual
theorem zqc{n:Nat}{kp:Nat→Bool}(hk:∀ b,b<n→kp b=true):∀ {d:D},d.sc n→d.kin kp
 | .ptr b _,h=>hk b h
 | .eptr b _ _ _ _,h=>hk b h
 | .sl b _ _ _ _ _,h=>hk b h
 | .yld b,h=>hk b h
 | .clo _ xs ys,h=>⟨zh0 hk (ds:=xs) h.1,zh0 hk (ds:=ys) h.2⟩
 | .ifc _ d,h=>zqc hk (d:=d) h
 | .agg ds,h=>zh0 hk (ds:=ds) h
 | .tup ds,h=>zh0 hk (ds:=ds) h
 | .any,_=>trivial
 | .lit _,_=>trivial
 | .fptr _ _,_=>trivial
 | .fz _ _ _,_=>trivial
 | .z0 _ _,_=>trivial
theorem zh0{n:Nat}{kp:Nat→Bool}(hk:∀ b,b<n→kp b=true):∀ {ds:List D},D.scs n ds→D.ziL kp ds
 | [],_=>trivial
 | d :: r,h=>⟨zqc hk (d:=d) h.1,zh0 hk (ds:=r) h.2⟩
end
mutual
theorem zrm{n:Nat}:∀ {d:D},d.kin (fun b=>decide (b<n))→d.sc n
 | .ptr b _,h=>(of_decide_eq_true (show decide (b<n)=true from h):b<n)
 | .eptr b _ _ _ _,h=>(of_decide_eq_true (show decide (b<n)=true from h):b<n)
 | .sl b _ _ _ _ _,h=>(of_decide_eq_true (show decide (b<n)=true from h):b<n)
 | .yld b,h=>(of_decide_eq_true (show decide (b<n)=true from h):b<n)
 | .clo _ xs ys,h=>⟨zgY (ds:=xs) h.1,zgY (ds:=ys) h.2⟩
 | .ifc _ d,h=>zrm (d:=d) h
 | .agg ds,h=>zgY (ds:=ds) h
 | .tup ds,h=>zgY (ds:=ds) h
 | .any,_=>trivial
 | .lit _,_=>trivial
 | .fptr _ _,_=>trivial
 | .fz _ _ _,_=>trivial
 | .z0 _ _,_=>trivial
theorem zgY{n:Nat}:∀ {ds:List D},D.ziL (fun b=>decide (b<n)) ds→D.scs n ds
 | [],_=>trivial
 | d :: r,h=>⟨zrm (d:=d) h.1,zgY (ds:=r) h.2⟩
end
theorem zcp(e:En α)(n:Nat)(t:Bool)(xs:List α):∀ cells,cells∈xs.map (e.c t)→D.scs n cells:=fun cells h=>zgY (zcY e _ t xs cells h)
def scE(n:Nat):List (Nat×D)→Prop
 | []=>True
 | x :: r=>x.2.sc n∧scE n r
theorem zoI{n:Nat}:∀ {E:List (Nat×D)},scE n E→∀ k d,lk E k=some d→d.sc n
 | [],_,k,d,h=>by cases h
 | x :: r,hs,k,d,h=>by
  obtain⟨j,e⟩:=x;simp only[lk]at h;split at h
  ·cases h; exact hs.1
  exact zoI hs.2 k d h
inductive Out3 (α β γ:Type) where
 | go (a:α)
 | brk (b:β)
 | ret (r:γ)
theorem EvL.zko{ι γ:Type}{k:List K}{x:X}{ps:List Nat}{asg body bm:C}{gf:Nat}{first cap:List D}{xs:List ι}{Y:ι→Nat→List D→List LB→Prop}{N n0:Nat}{E:List (Nat×D)}
  (hg:Gen m gf first cap xs Y) (hx:evD E x=some (.clo gf first cap)) (hbm:zbN false body=bm) (T:γ→List LB) (P:Nat→γ→Prop) (R:LX→List LB→Prop) (a0:γ)
  (hlen:∀ a,(T a).length=n0) (hk0:k0≤n0) (hE:scE (n0+1) E) (hsc:∀ a,zeY (n0+1) (T a)) (hR:∀ x L1,R x L1→L1.length=n0∧zeY (n0+1) L1) (hpan:∀ d L1,¬ R (.panic d) L1)
  (hp:P 0 a0)
  (hstep:∀ i a y args G lpF,xs[i]? = some y→P i a→Y y (n0+1) args G→(∀ kp:Nat→Bool,(∀ b,b<n0+1→kp b=true)→LB.kin kp lpF)→∃ E' E1,zte N E ps args=some E'∧zsZ N asg E'=some E1 ∧
   EvL m (n0+1+G.length) [.code bm] ⟨N,E1,T a ++ lpF :: G⟩ fun x2 S2=>∃ L1,L1.length=n0∧zby (n0+1+G.length) S2 ⟨S2.N,[],L1 ++ lpF :: G⟩∧(match x2 with | .normal=>∃ a',P (i+1) a'∧L1=T a' | x2=>R x2 L1))
  (hend:∀ a,P xs.length a→R .normal (T a))
  (hk:∀ L1,R .normal L1→EvL m k0 k ⟨N,E,L1 ++ [.lost]⟩ Q)
  (hke:∀ id L1,R (.exit id) L1→EvL m k0 (.ex id :: k) ⟨N,E,L1 ++ [.lost]⟩ Q)
  (hkr:∀ L1,R .ret L1→Q .ret ⟨N,E,L1 ++ [.lost]⟩):EvL m k0 (.code (.zej x ps asg body):: k) ⟨N,E,T a0⟩ Q:=by
 refine EvL.zej hx hg T P R a0 hlen hk0 (zoI hE) hsc hR hpan hp ?_ hend hk hke hkr;intro i a y args G hy hP hY;have hl:=hlen a;obtain⟨E',E1,h1,h2,h3⟩:=hstep i a y args G (.lp false none N E ps asg body) hy hP hY fun kp hkp j d hj=>zqc hkp (zoI hE j d hj)
 refine⟨E',h1,EvL.mono (ztc h2) ?_⟩;rintro x1 S1 ⟨rfl,rfl⟩;refine⟨rfl,rfl,zjs hl,?_⟩;rw[zmD hl];subst hbm;exact EvL.zhS h3
end
end Go.Dc
