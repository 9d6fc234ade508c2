/-
 Lists with room behind them; blocks that must stay; loops over what a generator yields. Conditions: none.
-/
import Derived.Test.YtbjogdohfhdaiaaKfDc2
import Derived.Test.YtbjogdohfhdaiaaKfLy16
import Derived.Test.YtbjogdohfhdaiaaKfMxG
set_option linter.unusedSimpArgs false
set_option linter.unusedVariables false
namespace Go.Dc
open Go Go.Mx Go.Lx
variable {α β γ:Type}
def room(xs:List α)(c:Nat)(z:α):List α:=xs ++ List.replicate (c - xs.length) z
def zqh:List Lx.Act→Nat→Bool
 | _,0=>true
 | .k :: r,n+1=>zqh r n
 | _,_+1=>false
theorem znL:∀ {as:List Lx.Act} {n:Nat},zqh as n=true→∀ b,b<n→isK as b=true
 | _,0,_,b,hb=>absurd hb (qba b)
 | .k :: r,n+1,h,b,hb=>by
  cases b with
  | zero=>rfl
  | succ b=>exact znL (as:=r) (n:=n) h b (by omega)
 | [],_+1,h,_,_=>by cases h
 | .f :: _,_+1,h,_,_=>by cases h
 | .d :: _,_+1,h,_,_=>by cases h
theorem zbl.mK{k0 N:Nat}{E E':List (Nat×D)}{L L':List LB}(as:List Lx.Act)(hk:zqh as k0=true)(hl:zlU as L'.length=true)(hE:MEs L as E E')(hL:MBs L as 0 L L'):zbl k0 ⟨N,E,L⟩ ⟨N,E',L'⟩:=
 zbl.zds as (znL hk) (zfs hl) hE hL
theorem wrap64{n:Int}(h1:-9223372036854775808≤n)(h2:n<9223372036854775808):IntKind.i64.wrap n=n:=by
 simp only[IntKind.wrap,IntKind.bits,IntKind.signed]; simp; omega
def zk8(xs:List α):Option Unit:=if xs.length<9223372036854775808 then some ()else none
theorem zju{xs:List α}{u:Unit}(h:zk8 xs=some u):xs.length<9223372036854775808:=by
 unfold zk8 at h;split at h
 ·assumption
 cases h
theorem zew{xs:List α}{i:Nat}{x:α}(h:xs[i]? = some x):xs.drop i=x :: xs.drop (i+1):=by
 obtain⟨h1,h2⟩:=qaa.1 h;rw[← h2];exact qaB h1
theorem zbj{P:Program}{orc:Orc}{f N:Nat}{cm:C}{rs:List RX}(h:(zjQ P f).map (fun fn=>(fn.N,zbI false fn.c,fn.rs,fn.p))=some (N,cm,rs,false)):zgs ⟨zhl P,orc⟩ f=some (N,cm,rs,false):=by
 unfold zgs;show(zhl P f).map _=_;rw[← zmN];exact h
theorem EvL.mark{m:Mach}{k0:Nat}{c bm:C}{k:List K}{S:LSt}{Q:LX→LSt→Prop}(hm:zbI false c=bm)(h:EvL m k0 (.code bm :: k) S Q):EvL m k0 (.code c :: k) S Q:=by
 subst hm;exact EvL.zgw h
theorem zdX.ofM{m:Mach}{f N:Nat}{cm:C}{rs:List RX}{args:List D}{L:List LB}{Q1 Qp1:D→List LB→Prop}(h:zgs m f=some (N,cm,rs,false))(ho:∀ B args hp,m.orc B f args hp=none)(hN:args.length≤N)
  (hb:EvL m L.length [.code cm] ⟨N,zek 0 args,L⟩ fun x S'=>match x with
   | .ret=>∃ ds,zeD S'.heap S'.env rs=some ds∧Q1 (zdx ds) S'.heap
   | .normal=>∃ ds,zeD S'.heap S'.env rs=some ds∧Q1 (zdx ds) S'.heap
   | .panic d=>Qp1 d S'.heap
   | .exit _=>False):zdX m false f args L Q1 Qp1:=by
 obtain⟨c,hc,rfl⟩:=zh6 h ho;exact zdX.intro hc rfl hN (EvL.zgw hb)
def zse(N:Nat):List O→List (Nat×D)→Option (List (Nat×D))
 | [],E=>some E
 | ⟨some d,.mov x,none⟩:: l,E=>match evD E x with
  | some v=>if d<N then zse N l ((d,v):: E)else none
  | none=>none
 | _,_=>none
def zpT(N:Nat):C→List (Nat×D)→Option (List (Nat×D))
 | .skip,E=>some E
 | .reg _ _ l,E=>zse N l E
 | .seq a b,E=>match zpT N a E with
  | some E1=>zpT N b E1
  | none=>none
 | _,_=>none
section
variable {m:Mach} {k0:Nat} {Q:LX→LSt→Prop}
theorem zmX{N:Nat}{L:List LB}{Q:LX→LSt→Prop}{bar e:Bool}{k:List K}:∀ {l:List O} {E E1:List (Nat×D)},zse N l E=some E1→wp m k0 k (some ⟨N,E1,L⟩) Q→wp m k0 (.ops bar e l :: k) (some ⟨N,E,L⟩) Q
 | [],E,E1,h,hq=>by
  cases h;rw[wp];exact hq
 | ⟨d,i,g⟩:: l,E,E1,h,hq=>by
  cases d with
  | none=>cases i<;>cases h
  | some d=>
   cases i<;>cases g<;>first | (cases h; done)| skip
   rename_i x;simp only[zse]at h;cases hx:evD E x with
   | none=>rw[hx]at h; cases h
   | some v=>
    rw[hx]at h;simp only at h;split at h
    ·rename_i hd;rw[wp];simp only[zb6];have:zgn ⟨N,E,L⟩ (some d) (.mov x) (zaZ (⟨N,E,L⟩:LSt).env none)=some ⟨N,(d,v):: E,L⟩:=by
      simp[zgn,zaZ,doI,zak,LSt.zpj,qL,hx,LSt.put,hd]
     rw[this];exact zmX h hq
    cases h
theorem zql{N:Nat}{L:List LB}{Q:LX→LSt→Prop}:∀ {c:C} {k:List K} {E E1:List (Nat×D)},zpT N c E=some E1→wp m k0 k (some ⟨N,E1,L⟩) Q→wp m k0 (.code c :: k) (some ⟨N,E,L⟩) Q:=by
 intro c;induction c with
 | skip=>intro k E E1 h hq; cases h; rw[wp]; exact hq
 | reg dr bar l=>intro k E E1 h hq; rw[wp]; exact zmX h hq
 | seq a b iha ihb=>
  intro k E E1 h hq;simp only[zpT]at h;cases ha:zpT N a E with
  | none=>rw[ha]at h; cases h
  | some E2=>
   rw[ha]at h;rw[wp];exact iha ha (ihb h hq)
 | _=>intro k E E1 h; cases h
theorem zqc{N:Nat}{c:C}{E E1:List (Nat×D)}{L:List LB}(h:zpT N c E=some E1):EvL m k0 [.code c] ⟨N,E,L⟩ fun x S1=>x=.normal∧S1=⟨N,E1,L⟩:=
 zac (zql h (by rw[wp]; exact⟨rfl,rfl⟩))
mutual
theorem zn1{n:Nat}{kp:Nat→Bool}(hk:∀ b,b<n→kp b=true):∀ {d:D},d.sc n→d.kin kp
 | .ptr b _,h=>hk b h
 | .eptr b _ _ _ _,h=>hk b h
 | .sl b _ _ _ _ _,h=>hk b h
 | .yld b,h=>hk b h
 | .clo _ xs ys,h=>⟨zgJ hk (ds:=xs) h.1,zgJ hk (ds:=ys) h.2⟩
 | .ifc _ d,h=>zn1 hk (d:=d) h
 | .agg ds,h=>zgJ hk (ds:=ds) h
 | .tup ds,h=>zgJ hk (ds:=ds) h
 | .any,_=>trivial
 | .lit _,_=>trivial
 | .fptr _ _,_=>trivial
 | .fz _ _ _,_=>trivial
 | .z0 _ _,_=>trivial
theorem zgJ{n:Nat}{kp:Nat→Bool}(hk:∀ b,b<n→kp b=true):∀ {ds:List D},D.scs n ds→D.zhJ kp ds
 | [],_=>trivial
 | d :: r,h=>⟨zn1 hk (d:=d) h.1,zgJ hk (ds:=r) h.2⟩
end
mutual
theorem zpb{n:Nat}:∀ {d:D},d.kin (fun b=>decide (b<n))→d.sc n
 | .ptr b _,h=>(of_decide_eq_true (show decide (b<n)=true from h):b<n)
 | .eptr b _ _ _ _,h=>(of_decide_eq_true (show decide (b<n)=true from h):b<n)
 | .sl b _ _ _ _ _,h=>(of_decide_eq_true (show decide (b<n)=true from h):b<n)
 | .yld b,h=>(of_decide_eq_true (show decide (b<n)=true from h):b<n)
 | .clo _ xs ys,h=>⟨zfH (ds:=xs) h.1,zfH (ds:=ys) h.2⟩
 | .ifc _ d,h=>zpb (d:=d) h
 | .agg ds,h=>zfH (ds:=ds) h
 | .tup ds,h=>zfH (ds:=ds) h
 | .any,_=>trivial
 | .lit _,_=>trivial
 | .fptr _ _,_=>trivial
 | .fz _ _ _,_=>trivial
 | .z0 _ _,_=>trivial
theorem zfH{n:Nat}:∀ {ds:List D},D.zhJ (fun b=>decide (b<n)) ds→D.scs n ds
 | [],_=>trivial
 | d :: r,h=>⟨zpb (d:=d) h.1,zfH (ds:=r) h.2⟩
end
theorem zcj(e:En α)(n:Nat)(t:Bool)(xs:List α):∀ cells,cells∈xs.map (e.c t)→D.scs n cells:=fun cells h=>zfH (zcT e _ t xs cells h)
def scE(n:Nat):List (Nat×D)→Prop
 | []=>True
 | x :: r=>x.2.sc n∧scE n r
theorem zog{n:Nat}:∀ {E:List (Nat×D)},scE n E→∀ k d,lk E k=some d→d.sc n
 | [],_,k,d,h=>by cases h
 | x :: r,hs,k,d,h=>by
  obtain⟨j,e⟩:=x;simp only[lk]at h;split at h
  ·cases h; exact hs.1
  exact zog hs.2 k d h
inductive Out3 (α β γ:Type) where
 | go (a:α)
 | brk (b:β)
 | ret (r:γ)
theorem EvL.zhU{ι γ:Type}{k:List K}{x:X}{ps:List Nat}{asg body bm:C}{gf:Nat}{first cap:List D}{xs:List ι}{Y:ι→Nat→List D→List LB→Prop}{N n0:Nat}{E:List (Nat×D)}
  (hg:Gen m gf first cap xs Y) (hx:evD E x=some (.clo gf first cap)) (hbm:zbI false body=bm) (T:γ→List LB) (P:Nat→γ→Prop) (R:LX→List LB→Prop) (a0:γ)
  (hlen:∀ a,(T a).length=n0) (hk0:k0≤n0) (hE:scE (n0+1) E) (hsc:∀ a,zd8 (n0+1) (T a)) (hR:∀ x L1,R x L1→L1.length=n0∧zd8 (n0+1) L1) (hpan:∀ d L1,¬ R (.panic d) L1)
  (hp:P 0 a0)
  (hstep:∀ i a y args G lpF,xs[i]? = some y→P i a→Y y (n0+1) args G→(∀ kp:Nat→Bool,(∀ b,b<n0+1→kp b=true)→LB.kin kp lpF)→∃ E' E1,zqV N E ps args=some E'∧zpT N asg E'=some E1 ∧
   EvL m (n0+1+G.length) [.code bm] ⟨N,E1,T a ++ lpF :: G⟩ fun x2 S2=>∃ L1,L1.length=n0∧zbl (n0+1+G.length) S2 ⟨S2.N,[],L1 ++ lpF :: G⟩∧(match x2 with | .normal=>∃ a',P (i+1) a'∧L1=T a' | x2=>R x2 L1))
  (hend:∀ a,P xs.length a→R .normal (T a))
  (hk:∀ L1,R .normal L1→EvL m k0 k ⟨N,E,L1 ++ [.lost]⟩ Q)
  (hke:∀ id L1,R (.exit id) L1→EvL m k0 (.ex id :: k) ⟨N,E,L1 ++ [.lost]⟩ Q)
  (hkr:∀ L1,R .ret L1→Q .ret ⟨N,E,L1 ++ [.lost]⟩):EvL m k0 (.code (.zdB x ps asg body):: k) ⟨N,E,T a0⟩ Q:=by
 refine EvL.zdB hx hg T P R a0 hlen hk0 (zog hE) hsc hR hpan hp ?_ hend hk hke hkr;intro i a y args G hy hP hY;have hl:=hlen a;obtain⟨E',E1,h1,h2,h3⟩:=hstep i a y args G (.lp false none N E ps asg body) hy hP hY fun kp hkp j d hj=>zn1 hkp (zog hE j d hj)
 refine⟨E',h1,EvL.mono (zqc h2) ?_⟩;rintro x1 S1 ⟨rfl,rfl⟩;refine⟨rfl,rfl,zh1 hl,?_⟩;rw[zkv hl];subst hbm;exact EvL.zgw h3
end
end Go.Dc
