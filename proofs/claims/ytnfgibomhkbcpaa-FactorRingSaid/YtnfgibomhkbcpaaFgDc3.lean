/-
 Lists with room behind them; blocks that must stay; loops over what a generator yields. Conditions: none.
-/
import Derived.Test.YtnfgibomhkbcpaaFgDc2
import Derived.Test.YtnfgibomhkbcpaaFgLy16
import Derived.Test.YtnfgibomhkbcpaaFgMxG
set_option linter.unusedSimpArgs false
set_option linter.unusedVariables false
namespace Go.Dc
open Go Go.Mx Go.Lx
variable {α β γ:Type}
def room(xs:List α)(c:Nat)(z:α):List α:=xs ++ List.replicate (c - xs.length) z
def zqz:List Lx.Act→Nat→Bool
 | _,0=>true
 | .k :: r,n+1=>zqz r n
 | _,_+1=>false
theorem znE:∀ {as:List Lx.Act} {n:Nat},zqz as n=true→∀ b,b<n→isK as b=true
 | _,0,_,b,hb=>absurd hb (qaX b)
 | .k :: r,n+1,h,b,hb=>by
  cases b with
  | zero=>rfl
  | succ b=>exact znE (as:=r) (n:=n) h b (by omega)
 | [],_+1,h,_,_=>by cases h
 | .f :: _,_+1,h,_,_=>by cases h
 | .d :: _,_+1,h,_,_=>by cases h
theorem zbH.mK{k0 N:Nat}{E E':List (Nat×D)}{L L':List LB}(as:List Lx.Act)(hk:zqz as k0=true)(hl:zmw as L'.length=true)(hE:MEs L as E E')(hL:MBs L as 0 L L'):zbH k0 ⟨N,E,L⟩ ⟨N,E',L'⟩:=
 zbH.zdx as (znE hk) (zft hl) hE hL
theorem wrap64{n:Int}(h1:-9223372036854775808≤n)(h2:n<9223372036854775808):IntKind.i64.wrap n=n:=by
 simp only[IntKind.wrap,IntKind.bits,IntKind.signed]; simp; omega
def zlX(xs:List α):Option Unit:=if xs.length<9223372036854775808 then some ()else none
theorem zjN{xs:List α}{u:Unit}(h:zlX xs=some u):xs.length<9223372036854775808:=by
 unfold zlX at h;split at h
 ·assumption
 cases h
theorem zeN{xs:List α}{i:Nat}{x:α}(h:xs[i]? = some x):xs.drop i=x :: xs.drop (i+1):=by
 obtain⟨h1,h2⟩:=qaa.1 h;rw[← h2];exact qaz h1
theorem za5{P:Program}{orc:Orc}{f N:Nat}{cm:C}{rs:List RX}(h:(zjK P f).map (fun fn=>(fn.N,zbz false fn.c,fn.rs,fn.p))=some (N,cm,rs,false)):zgu ⟨zhq P,orc⟩ f=some (N,cm,rs,false):=by
 unfold zgu;show(zhq P f).map _=_;rw[← zoq];exact h
theorem EvL.mark{m:Mach}{k0:Nat}{c bm:C}{k:List K}{S:LSt}{Q:LX→LSt→Prop}(hm:zbz false c=bm)(h:EvL m k0 (.code bm :: k) S Q):EvL m k0 (.code c :: k) S Q:=by
 subst hm;exact EvL.zgJ h
theorem zdW.ofM{m:Mach}{f N:Nat}{cm:C}{rs:List RX}{args:List D}{L:List LB}{Q1 Qp1:D→List LB→Prop}(h:zgu m f=some (N,cm,rs,false))(ho:∀ B args hp,m.orc B f args hp=none)(hN:args.length≤N)
  (hb:EvL m L.length [.code cm] ⟨N,zex 0 args,L⟩ fun x S'=>match x with
   | .ret=>∃ ds,zeU S'.heap S'.env rs=some ds∧Q1 (zdz ds) S'.heap
   | .normal=>∃ ds,zeU S'.heap S'.env rs=some ds∧Q1 (zdz ds) S'.heap
   | .panic d=>Qp1 d S'.heap
   | .exit _=>False):zdW m false f args L Q1 Qp1:=by
 obtain⟨c,hc,rfl⟩:=zi7 h ho;exact zdW.intro hc rfl hN (EvL.zgJ hb)
def zsu(N:Nat):List O→List (Nat×D)→Option (List (Nat×D))
 | [],E=>some E
 | ⟨some d,.mov x,none⟩:: l,E=>match evD E x with
  | some v=>if d<N then zsu N l ((d,v):: E)else none
  | none=>none
 | _,_=>none
def zrf(N:Nat):C→List (Nat×D)→Option (List (Nat×D))
 | .skip,E=>some E
 | .reg _ _ l,E=>zsu N l E
 | .seq a b,E=>match zrf N a E with
  | some E1=>zrf N b E1
  | none=>none
 | _,_=>none
section
variable {m:Mach} {k0:Nat} {Q:LX→LSt→Prop}
theorem znW{N:Nat}{L:List LB}{Q:LX→LSt→Prop}{bar e:Bool}{k:List K}:∀ {l:List O} {E E1:List (Nat×D)},zsu N l E=some E1→wp m k0 k (some ⟨N,E1,L⟩) Q→wp m k0 (.ops bar e l :: k) (some ⟨N,E,L⟩) Q
 | [],E,E1,h,hq=>by
  cases h;rw[wp];exact hq
 | ⟨d,i,g⟩:: l,E,E1,h,hq=>by
  cases d with
  | none=>cases i<;>cases h
  | some d=>
   cases i<;>cases g<;>first | (cases h; done)| skip
   rename_i x;simp only[zsu]at h;cases hx:evD E x with
   | none=>rw[hx]at h; cases h
   | some v=>
    rw[hx]at h;simp only at h;split at h
    ·rename_i hd;rw[wp];simp only[zb4];have:zjn ⟨N,E,L⟩ (some d) (.mov x) (zbb (⟨N,E,L⟩:LSt).env none)=some ⟨N,(d,v):: E,L⟩:=by
      simp[zjn,zbb,doI,zal,LSt.zrw,qL,hx,LSt.put,hd]
     rw[this];exact znW h hq
    cases h
theorem zqY{N:Nat}{L:List LB}{Q:LX→LSt→Prop}:∀ {c:C} {k:List K} {E E1:List (Nat×D)},zrf N c E=some E1→wp m k0 k (some ⟨N,E1,L⟩) Q→wp m k0 (.code c :: k) (some ⟨N,E,L⟩) Q:=by
 intro c;induction c with
 | skip=>intro k E E1 h hq; cases h; rw[wp]; exact hq
 | reg dr bar l=>intro k E E1 h hq; rw[wp]; exact znW h hq
 | seq a b iha ihb=>
  intro k E E1 h hq;simp only[zrf]at h;cases ha:zrf N a E with
  | none=>rw[ha]at h; cases h
  | some E2=>
   rw[ha]at h;rw[wp];exact iha ha (ihb h hq)
 | _=>intro k E E1 h; cases h
theorem zqx{N:Nat}{c:C}{E E1:List (Nat×D)}{L:List LB}(h:zrf N c E=some E1):EvL m k0 [.code c] ⟨N,E,L⟩ fun x S1=>x=.normal∧S1=⟨N,E1,L⟩:=
 zab (zqY h (by rw[wp]; exact⟨rfl,rfl⟩))
mutual
theorem znB{n:Nat}{kp:Nat→Bool}(hk:∀ b,b<n→kp b=true):∀ {d:D},d.sc n→d.kin kp
 | .ptr b _,h=>hk b h
 | .eptr b _ _ _ _,h=>hk b h
 | .sl b _ _ _ _ _,h=>hk b h
 | .yld b,h=>hk b h
 | .clo _ xs ys,h=>⟨zgE hk (ds:=xs) h.1,zgE hk (ds:=ys) h.2⟩
 | .ifc _ d,h=>znB hk (d:=d) h
 | .agg ds,h=>zgE hk (ds:=ds) h
 | .tup ds,h=>zgE hk (ds:=ds) h
 | .any,_=>trivial
 | .lit _,_=>trivial
 | .fptr _ _,_=>trivial
 | .fz _ _ _,_=>trivial
 | .z0 _ _,_=>trivial
theorem zgE{n:Nat}{kp:Nat→Bool}(hk:∀ b,b<n→kp b=true):∀ {ds:List D},D.scs n ds→D.zhX kp ds
 | [],_=>trivial
 | d :: r,h=>⟨znB hk (d:=d) h.1,zgE hk (ds:=r) h.2⟩
end
mutual
theorem zqb{n:Nat}:∀ {d:D},d.kin (fun b=>decide (b<n))→d.sc n
 | .ptr b _,h=>(of_decide_eq_true (show decide (b<n)=true from h):b<n)
 | .eptr b _ _ _ _,h=>(of_decide_eq_true (show decide (b<n)=true from h):b<n)
 | .sl b _ _ _ _ _,h=>(of_decide_eq_true (show decide (b<n)=true from h):b<n)
 | .yld b,h=>(of_decide_eq_true (show decide (b<n)=true from h):b<n)
 | .clo _ xs ys,h=>⟨zfZ (ds:=xs) h.1,zfZ (ds:=ys) h.2⟩
 | .ifc _ d,h=>zqb (d:=d) h
 | .agg ds,h=>zfZ (ds:=ds) h
 | .tup ds,h=>zfZ (ds:=ds) h
 | .any,_=>trivial
 | .lit _,_=>trivial
 | .fptr _ _,_=>trivial
 | .fz _ _ _,_=>trivial
 | .z0 _ _,_=>trivial
theorem zfZ{n:Nat}:∀ {ds:List D},D.zhX (fun b=>decide (b<n)) ds→D.scs n ds
 | [],_=>trivial
 | d :: r,h=>⟨zqb (d:=d) h.1,zfZ (ds:=r) h.2⟩
end
theorem zca(e:En α)(n:Nat)(t:Bool)(xs:List α):∀ cells,cells∈xs.map (e.c t)→D.scs n cells:=fun cells h=>zfZ (zcE e _ t xs cells h)
def scE(n:Nat):List (Nat×D)→Prop
 | []=>True
 | x :: r=>x.2.sc n∧scE n r
theorem zoQ{n:Nat}:∀ {E:List (Nat×D)},scE n E→∀ k d,lk E k=some d→d.sc n
 | [],_,k,d,h=>by cases h
 | x :: r,hs,k,d,h=>by
  obtain⟨j,e⟩:=x;simp only[lk]at h;split at h
  ·cases h; exact hs.1
  exact zoQ hs.2 k d h
inductive Out3 (α β γ:Type) where
 | go (a:α)
 | brk (b:β)
 | ret (r:γ)
theorem EvL.zjd{ι γ:Type}{k:List K}{x:X}{ps:List Nat}{asg body bm:C}{gf:Nat}{first cap:List D}{xs:List ι}{Y:ι→Nat→List D→List LB→Prop}{N n0:Nat}{E:List (Nat×D)}
  (hg:Gen m gf first cap xs Y) (hx:evD E x=some (.clo gf first cap)) (hbm:zbz false body=bm) (T:γ→List LB) (P:Nat→γ→Prop) (R:LX→List LB→Prop) (a0:γ)
  (hlen:∀ a,(T a).length=n0) (hk0:k0≤n0) (hE:scE (n0+1) E) (hsc:∀ a,zee (n0+1) (T a)) (hR:∀ x L1,R x L1→L1.length=n0∧zee (n0+1) L1) (hpan:∀ d L1,¬ R (.panic d) L1)
  (hp:P 0 a0)
  (hstep:∀ i a y args G lpF,xs[i]? = some y→P i a→Y y (n0+1) args G→(∀ kp:Nat→Bool,(∀ b,b<n0+1→kp b=true)→LB.kin kp lpF)→∃ E' E1,zrx N E ps args=some E'∧zrf N asg E'=some E1 ∧
   EvL m (n0+1+G.length) [.code bm] ⟨N,E1,T a ++ lpF :: G⟩ fun x2 S2=>∃ L1,L1.length=n0∧zbH (n0+1+G.length) S2 ⟨S2.N,[],L1 ++ lpF :: G⟩∧(match x2 with | .normal=>∃ a',P (i+1) a'∧L1=T a' | x2=>R x2 L1))
  (hend:∀ a,P xs.length a→R .normal (T a))
  (hk:∀ L1,R .normal L1→EvL m k0 k ⟨N,E,L1 ++ [.lost]⟩ Q)
  (hke:∀ id L1,R (.exit id) L1→EvL m k0 (.ex id :: k) ⟨N,E,L1 ++ [.lost]⟩ Q)
  (hkr:∀ L1,R .ret L1→Q .ret ⟨N,E,L1 ++ [.lost]⟩):EvL m k0 (.code (.zdH x ps asg body):: k) ⟨N,E,T a0⟩ Q:=by
 refine EvL.zdH hx hg T P R a0 hlen hk0 (zoQ hE) hsc hR hpan hp ?_ hend hk hke hkr;intro i a y args G hy hP hY;have hl:=hlen a;obtain⟨E',E1,h1,h2,h3⟩:=hstep i a y args G (.lp false none N E ps asg body) hy hP hY fun kp hkp j d hj=>znB hkp (zoQ hE j d hj)
 refine⟨E',h1,EvL.mono (zqx h2) ?_⟩;rintro x1 S1 ⟨rfl,rfl⟩;refine⟨rfl,rfl,ziv hl,?_⟩;rw[zkN hl];subst hbm;exact EvL.zgJ h3
end
end Go.Dc
