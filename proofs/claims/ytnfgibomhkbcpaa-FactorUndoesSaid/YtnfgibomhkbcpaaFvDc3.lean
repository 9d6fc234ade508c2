/-
 Lists with room behind them; blocks that must stay; loops over what a generator yields. Conditions: none.
-/
import Derived.Test.YtnfgibomhkbcpaaFvDc2
import Derived.Test.YtnfgibomhkbcpaaFvLy16
import Derived.Test.YtnfgibomhkbcpaaFvMxG
set_option linter.unusedSimpArgs false
set_option linter.unusedVariables false
namespace Go.Dc
open Go Go.Mx Go.Lx
variable {α β γ:Type}
def room(xs:List α)(c:Nat)(z:α):List α:=xs ++ List.replicate (c - xs.length) z
def zre:List Lx.Act→Nat→Bool
 | _,0=>true
 | .k :: r,n+1=>zre r n
 | _,_+1=>false
theorem zn1:∀ {as:List Lx.Act} {n:Nat},zre as n=true→∀ b,b<n→isK as b=true
 | _,0,_,b,hb=>absurd hb (qaV b)
 | .k :: r,n+1,h,b,hb=>by
  cases b with
  | zero=>rfl
  | succ b=>exact zn1 (as:=r) (n:=n) h b (by omega)
 | [],_+1,h,_,_=>by cases h
 | .f :: _,_+1,h,_,_=>by cases h
 | .d :: _,_+1,h,_,_=>by cases h
theorem zbE.mK{k0 N:Nat}{E E':List (Nat×D)}{L L':List LB}(as:List Lx.Act)(hk:zre as k0=true)(hl:zmn as L'.length=true)(hE:MEs L as E E')(hL:MBs L as 0 L L'):zbE k0 ⟨N,E,L⟩ ⟨N,E',L'⟩:=
 zbE.zdD as (zn1 hk) (zfu hl) hE hL
theorem wrap64{n:Int}(h1:-9223372036854775808≤n)(h2:n<9223372036854775808):IntKind.i64.wrap n=n:=by
 simp only[IntKind.wrap,IntKind.bits,IntKind.signed]; simp; omega
def zlT(xs:List α):Option Unit:=if xs.length<9223372036854775808 then some ()else none
theorem zjW{xs:List α}{u:Unit}(h:zlT xs=some u):xs.length<9223372036854775808:=by
 unfold zlT at h;split at h
 ·assumption
 cases h
theorem zeJ{xs:List α}{i:Nat}{x:α}(h:xs[i]? = some x):xs.drop i=x :: xs.drop (i+1):=by
 obtain⟨h1,h2⟩:=qaa.1 h;rw[← h2];exact qaw h1
theorem za6{P:Program}{orc:Orc}{f N:Nat}{cm:C}{rs:List RX}(h:(zkt P f).map (fun fn=>(fn.N,zbC false fn.c,fn.rs,fn.p))=some (N,cm,rs,false)):zgz ⟨zhA P,orc⟩ f=some (N,cm,rs,false):=by
 unfold zgz;show(zhA P f).map _=_;rw[← znu];exact h
theorem EvL.mark{m:Mach}{k0:Nat}{c bm:C}{k:List K}{S:LSt}{Q:LX→LSt→Prop}(hm:zbC false c=bm)(h:EvL m k0 (.code bm :: k) S Q):EvL m k0 (.code c :: k) S Q:=by
 subst hm;exact EvL.zg0 h
theorem zd2.ofM{m:Mach}{f N:Nat}{cm:C}{rs:List RX}{args:List D}{L:List LB}{Q1 Qp1:D→List LB→Prop}(h:zgz m f=some (N,cm,rs,false))(ho:∀ B args hp,m.orc B f args hp=none)(hN:args.length≤N)
  (hb:EvL m L.length [.code cm] ⟨N,zev 0 args,L⟩ fun x S'=>match x with
   | .ret=>∃ ds,zeY S'.heap S'.env rs=some ds∧Q1 (zdE ds) S'.heap
   | .normal=>∃ ds,zeY S'.heap S'.env rs=some ds∧Q1 (zdE ds) S'.heap
   | .panic d=>Qp1 d S'.heap
   | .exit _=>False):zd2 m false f args L Q1 Qp1:=by
 obtain⟨c,hc,rfl⟩:=zim h ho;exact zd2.intro hc rfl hN (EvL.zg0 hb)
def zsM(N:Nat):List O→List (Nat×D)→Option (List (Nat×D))
 | [],E=>some E
 | ⟨some d,.mov x,none⟩:: l,E=>match evD E x with
  | some v=>if d<N then zsM N l ((d,v):: E)else none
  | none=>none
 | _,_=>none
def zqF(N:Nat):C→List (Nat×D)→Option (List (Nat×D))
 | .skip,E=>some E
 | .reg _ _ l,E=>zsM N l E
 | .seq a b,E=>match zqF N a E with
  | some E1=>zqF N b E1
  | none=>none
 | _,_=>none
section
variable {m:Mach} {k0:Nat} {Q:LX→LSt→Prop}
theorem znh{N:Nat}{L:List LB}{Q:LX→LSt→Prop}{bar e:Bool}{k:List K}:∀ {l:List O} {E E1:List (Nat×D)},zsM N l E=some E1→wp m k0 k (some ⟨N,E1,L⟩) Q→wp m k0 (.ops bar e l :: k) (some ⟨N,E,L⟩) Q
 | [],E,E1,h,hq=>by
  cases h;rw[wp];exact hq
 | ⟨d,i,g⟩:: l,E,E1,h,hq=>by
  cases d with
  | none=>cases i<;>cases h
  | some d=>
   cases i<;>cases g<;>first | (cases h; done)| skip
   rename_i x;simp only[zsM]at h;cases hx:evD E x with
   | none=>rw[hx]at h; cases h
   | some v=>
    rw[hx]at h;simp only at h;split at h
    ·rename_i hd;rw[wp];simp only[zb5];have:zjt ⟨N,E,L⟩ (some d) (.mov x) (zbe (⟨N,E,L⟩:LSt).env none)=some ⟨N,(d,v):: E,L⟩:=by
      simp[zjt,zbe,doI,zak,LSt.zrO,qL,hx,LSt.put,hd]
     rw[this];exact znh h hq
    cases h
theorem zq3{N:Nat}{L:List LB}{Q:LX→LSt→Prop}:∀ {c:C} {k:List K} {E E1:List (Nat×D)},zqF N c E=some E1→wp m k0 k (some ⟨N,E1,L⟩) Q→wp m k0 (.code c :: k) (some ⟨N,E,L⟩) Q:=by
 intro c;induction c with
 | skip=>intro k E E1 h hq; cases h; rw[wp]; exact hq
 | reg dr bar l=>intro k E E1 h hq; rw[wp]; exact znh h hq
 | seq a b iha ihb=>
  intro k E E1 h hq;simp only[zqF]at h;cases ha:zqF N a E with
  | none=>rw[ha]at h; cases h
  | some E2=>
   rw[ha]at h;rw[wp];exact iha ha (ihb h hq)
 | _=>intro k E E1 h; cases h
theorem zqx{N:Nat}{c:C}{E E1:List (Nat×D)}{L:List LB}(h:zqF N c E=some E1):EvL m k0 [.code c] ⟨N,E,L⟩ fun x S1=>x=.normal∧S1=⟨N,E1,L⟩:=
 zab (zq3 h (by rw[wp]; exact⟨rfl,rfl⟩))
mutual
theorem znn{n:Nat}{kp:Nat→Bool}(hk:∀ b,b<n→kp b=true):∀ {d:D},d.sc n→d.kin kp
 | .ptr b _,h=>hk b h
 | .eptr b _ _ _ _,h=>hk b h
 | .sl b _ _ _ _ _,h=>hk b h
 | .yld b,h=>hk b h
 | .clo _ xs ys,h=>⟨zhi hk (ds:=xs) h.1,zhi hk (ds:=ys) h.2⟩
 | .ifc _ d,h=>znn hk (d:=d) h
 | .agg ds,h=>zhi hk (ds:=ds) h
 | .tup ds,h=>zhi hk (ds:=ds) h
 | .any,_=>trivial
 | .lit _,_=>trivial
 | .fptr _ _,_=>trivial
 | .fz _ _ _,_=>trivial
 | .z0 _ _,_=>trivial
theorem zhi{n:Nat}{kp:Nat→Bool}(hk:∀ b,b<n→kp b=true):∀ {ds:List D},D.scs n ds→D.zie kp ds
 | [],_=>trivial
 | d :: r,h=>⟨znn hk (d:=d) h.1,zhi hk (ds:=r) h.2⟩
end
mutual
theorem zp8{n:Nat}:∀ {d:D},d.kin (fun b=>decide (b<n))→d.sc n
 | .ptr b _,h=>(of_decide_eq_true (show decide (b<n)=true from h):b<n)
 | .eptr b _ _ _ _,h=>(of_decide_eq_true (show decide (b<n)=true from h):b<n)
 | .sl b _ _ _ _ _,h=>(of_decide_eq_true (show decide (b<n)=true from h):b<n)
 | .yld b,h=>(of_decide_eq_true (show decide (b<n)=true from h):b<n)
 | .clo _ xs ys,h=>⟨zf3 (ds:=xs) h.1,zf3 (ds:=ys) h.2⟩
 | .ifc _ d,h=>zp8 (d:=d) h
 | .agg ds,h=>zf3 (ds:=ds) h
 | .tup ds,h=>zf3 (ds:=ds) h
 | .any,_=>trivial
 | .lit _,_=>trivial
 | .fptr _ _,_=>trivial
 | .fz _ _ _,_=>trivial
 | .z0 _ _,_=>trivial
theorem zf3{n:Nat}:∀ {ds:List D},D.zie (fun b=>decide (b<n)) ds→D.scs n ds
 | [],_=>trivial
 | d :: r,h=>⟨zp8 (d:=d) h.1,zf3 (ds:=r) h.2⟩
end
theorem zcb(e:En α)(n:Nat)(t:Bool)(xs:List α):∀ cells,cells∈xs.map (e.c t)→D.scs n cells:=fun cells h=>zf3 (zcB e _ t xs cells h)
def scE(n:Nat):List (Nat×D)→Prop
 | []=>True
 | x :: r=>x.2.sc n∧scE n r
theorem znm{n:Nat}:∀ {E:List (Nat×D)},scE n E→∀ k d,lk E k=some d→d.sc n
 | [],_,k,d,h=>by cases h
 | x :: r,hs,k,d,h=>by
  obtain⟨j,e⟩:=x;simp only[lk]at h;split at h
  ·cases h; exact hs.1
  exact znm hs.2 k d h
inductive Out3 (α β γ:Type) where
 | go (a:α)
 | brk (b:β)
 | ret (r:γ)
theorem EvL.zjj{ι γ:Type}{k:List K}{x:X}{ps:List Nat}{asg body bm:C}{gf:Nat}{first cap:List D}{xs:List ι}{Y:ι→Nat→List D→List LB→Prop}{N n0:Nat}{E:List (Nat×D)}
  (hg:Gen m gf first cap xs Y) (hx:evD E x=some (.clo gf first cap)) (hbm:zbC false body=bm) (T:γ→List LB) (P:Nat→γ→Prop) (R:LX→List LB→Prop) (a0:γ)
  (hlen:∀ a,(T a).length=n0) (hk0:k0≤n0) (hE:scE (n0+1) E) (hsc:∀ a,zef (n0+1) (T a)) (hR:∀ x L1,R x L1→L1.length=n0∧zef (n0+1) L1) (hpan:∀ d L1,¬ R (.panic d) L1)
  (hp:P 0 a0)
  (hstep:∀ i a y args G lpF,xs[i]? = some y→P i a→Y y (n0+1) args G→(∀ kp:Nat→Bool,(∀ b,b<n0+1→kp b=true)→LB.kin kp lpF)→∃ E' E1,zrG N E ps args=some E'∧zqF N asg E'=some E1 ∧
   EvL m (n0+1+G.length) [.code bm] ⟨N,E1,T a ++ lpF :: G⟩ fun x2 S2=>∃ L1,L1.length=n0∧zbE (n0+1+G.length) S2 ⟨S2.N,[],L1 ++ lpF :: G⟩∧(match x2 with | .normal=>∃ a',P (i+1) a'∧L1=T a' | x2=>R x2 L1))
  (hend:∀ a,P xs.length a→R .normal (T a))
  (hk:∀ L1,R .normal L1→EvL m k0 k ⟨N,E,L1 ++ [.lost]⟩ Q)
  (hke:∀ id L1,R (.exit id) L1→EvL m k0 (.ex id :: k) ⟨N,E,L1 ++ [.lost]⟩ Q)
  (hkr:∀ L1,R .ret L1→Q .ret ⟨N,E,L1 ++ [.lost]⟩):EvL m k0 (.code (.zdI x ps asg body):: k) ⟨N,E,T a0⟩ Q:=by
 refine EvL.zdI hx hg T P R a0 hlen hk0 (znm hE) hsc hR hpan hp ?_ hend hk hke hkr;intro i a y args G hy hP hY;have hl:=hlen a;obtain⟨E',E1,h1,h2,h3⟩:=hstep i a y args G (.lp false none N E ps asg body) hy hP hY fun kp hkp j d hj=>znn hkp (znm hE j d hj)
 refine⟨E',h1,EvL.mono (zqx h2) ?_⟩;rintro x1 S1 ⟨rfl,rfl⟩;refine⟨rfl,rfl,zjf hl,?_⟩;rw[zk7 hl];subst hbm;exact EvL.zg0 h3
end
end Go.Dc
