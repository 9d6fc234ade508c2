/-
 Lists with room behind them; blocks that must stay; loops over what a generator yields. Conditions: none.
-/
import Derived.Test.YtbjogdohfhdaiaaGreatEcDc2
import Derived.Test.YtbjogdohfhdaiaaGreatEcLy16
import Derived.Test.YtbjogdohfhdaiaaGreatEcMxG
set_option linter.unusedSimpArgs false
set_option linter.unusedVariables false
namespace Go.Dc
open Go Go.Mx Go.Lx
variable {α β γ:Type}
def room(xs:List α)(c:Nat)(z:α):List α:=xs ++ List.replicate (c - xs.length) z
variable{xs:List α}{c:Nat}
theorem zjn(h:xs.length<=c)(z:α):(room xs c z).length=c:=by simp[room]; omega
def zzG(b:Nat)(c:Int):Option Nat:=if 0<=c/\c * b<=zaj then some c.toNat else none
variable{b:Nat}
theorem zm8{c:Int}{C:Nat}(h:zzG b c=some C):(0<=c/\c * b<=zaj)/\c.toNat=C:=by
 grind [zzG]
theorem zyY{c:Int}{C:Nat}(h:zzG b c=some C)(z:α)(f:α->β):List.replicate C (f z)=(room [] C z).map f:=by simp[room]
def zpW(c:Nat)(xs ys:List α):Option (List α):=if xs.length+ys.length<=c then some (xs ++ ys)else none
variable{ys zs:List α}
theorem zjU(h:zpW c xs ys=some zs):xs.length+ys.length<=c/\zs=xs ++ ys:=by
 grind [zpW]
theorem zn2(h:zpW c xs ys=some zs):xs.length+ys.length=zs.length:=by rw[(zjU h).2,qax]
theorem zre(h:zpW c xs ys=some zs):zs.length<=c:=by rw[<- zn2 h]; exact(zjU h).1
theorem zui(h:zpW c xs ys=some zs)(z:α)(f:α->β):((room xs c z).map f).take xs.length ++ ys.map f ++ ((room xs c z).map f).drop zs.length=(room zs c z).map f:=by
 obtain⟨h1,rfl⟩:=zjU h;simp only[room,qa1,qcP,qax];rw[List.take_left' (by simp),List.drop_append];simp only[qak,List.drop_replicate];rw[qaW (by simp),qaP];congr 2
 omega
variable{L:List LB}
theorem zzl{n:Nat}{e:En α}{z:α}{t t':Bool}(hn:n=e.n)(he:L[b]? = some (.els n ((room xs c z).map (e.c t))))(hc:xs.length<=c)(ht:t'=true->t=true):
  Snp L t' (.sl b 0 n xs.length (some c) c) (fzE t' e xs):=by
 subst hn;have hes:zgS L b e.n c=some ((room xs c z).map (e.c t)):=by
  simp[zgS,he,zjn hc z]
 have hget:∀ i,i<xs.length->((room xs c z).map (e.c t))[i]? =(xs.map (e.c t))[i]?:=λi hi=>by
  grind [room]
 refine .sl hes (by simp[zjn hc z]; exact hc) (λk hk=>by cases hk; exact hc) (by simp) (λi cells cells' h1 h2=>?_) λi k cells cells' d d' h1 h2 h3 h4=>?_
 .have hi:i<xs.length:=by simpa using(qab.1 h2).1
  rw[qaR,hget i hi]at h1;obtain⟨x,_,rfl,rfl⟩:=zdY h1 h2;rw[e.len,e.len]
 have hi:i<xs.length:=by simpa using(qab.1 h2).1
 rw[qaR,hget i hi]at h1;obtain⟨x,_,rfl,rfl⟩:=zdY h1 h2;exact(e.snp x ht).get k d d' h3 h4
def zx4:List Lx.Act->Nat->Bool
 | _,0=>true
 | .k :: r,n+1=>zx4 r n
 | _,_+1=>false
theorem zvA:∀ {as:List Lx.Act} {n:Nat},zx4 as n=true->∀ b,b<n->isK as b=true
 | _,0,_,b,hb=>absurd hb (qaj b)
 | .k :: r,n+1,h,b,hb=>by
  cases b with
  | zero=>rfl
  | succ b=>exact zvA (as:=r) (n:=n) h b (by omega)
 | [],_+1,h,_,_=>by cases h
 | .f :: _,_+1,h,_,_=>by cases h
 | .d :: _,_+1,h,_,_=>by cases h
variable{N:Nat}
theorem za8.mK{k0:Nat}{E E':List (Nat×D)}{L':List LB}(as:List Lx.Act)(hk:zx4 as k0=true)(hl:zjh as L'.length=true)(hE:MEs L as E E')(hL:MBs L as 0 L L'):za8 k0 ⟨N,E,L⟩ ⟨N,E',L'⟩:=
 za8.zeO as (zvA hk) (zg6 hl) hE hL
theorem wrap64{n:Int}(h1:-9223372036854775808<=n)(h2:n<9223372036854775808):IntKind.i64.wrap n=n:=by
 grind [IntKind.wrap,IntKind.bits,IntKind.signed]
def zeT(xs:List α):Option Unit:=if xs.length<9223372036854775808 then some ()else none
theorem zih{u:Unit}(h:zeT xs=some u):xs.length<9223372036854775808:=by
 grind [zeT]
def zro(xs:List α):List (Int×α):=xs.zipIdx.map λp=>((p.2:Int),p.1)
theorem zf4{i:Nat}{x:α}(h:xs[i]? = some x):xs.drop i=x :: xs.drop (i+1):=by
 grind [qas]
variable{rs:List RX}
theorem zhR{P:Program}{orc:Orc}{f:Nat}{cm:C}(h:(zkF P f).map (λfn=>(fn.N,zdx false fn.c,fn.rs,fn.p))=some (N,cm,rs,false)):zt5 ⟨zk2 P,orc⟩ f=some (N,cm,rs,false):=by
 grind [zt5,zop]
theorem EvL.mark{m:Mach}{k0:Nat}{c bm:C}{k:List K}{S:LSt}{Q:LX->LSt->Prop}(hm:zdx false c=bm)(h:EvL m k0 (.code bm :: k) S Q):EvL m k0 (.code c :: k) S Q:=by
 subst hm;exact EvL.zik h
theorem zdK.ofM{m:Mach}{f:Nat}{cm:C}{args:List D}{Q1 Qp1:D->List LB->Prop}(h:zt5 m f=some (N,cm,rs,false))(ho:∀ B args hp,m.orc B f args hp=none)(hN:args.length<=N)(hb:EvL m L.length [.code cm] ⟨N,zeY 0 args,L⟩ λx S'=>match x with
   | .ret=>∃ ds,zfU S'.heap S'.env rs=some ds/\Q1 (zd4 ds) S'.heap
   | .normal=>∃ ds,zfU S'.heap S'.env rs=some ds/\Q1 (zd4 ds) S'.heap
   | .panic d=>Qp1 d S'.heap
   | .exit _=>False):zdK m false f args L Q1 Qp1:=by
 grind [zjB,zdK.intro,EvL.zik]
theorem zBu{i:Int}{x:α}{a:Nat}(h:zaE xs i=some x)(f:α->β){ys:List β}(hy:(ys.drop a).take xs.length=xs.map f):ys[a+i.toNat]? = some (f x):=by
 have h1:=zcD h f
 grind
def zFx(N:Nat):List O->List (Nat×D)->Option (List (Nat×D))
 | [],E=>some E
 | ⟨some d,.mov x,none⟩:: l,E=>match evD E x with
  | some v=>if d<N then zFx N l ((d,v):: E)else none
  | none=>none
 | _,_=>none
def zzu(N:Nat):C->List (Nat×D)->Option (List (Nat×D))
 | .skip,E=>some E
 | .reg _ _ l,E=>zFx N l E
 | .seq a b,E=>match zzu N a E with
  | some E1=>zzu N b E1
  | none=>none
 | _,_=>none
section
variable {m:Mach} {k0:Nat} {Q:LX->LSt->Prop}
theorem zwf{N:Nat}{L:List LB}{Q:LX->LSt->Prop}{bar e:Bool}{k:List K}:∀ {l:List O} {E E1:List (Nat×D)},zFx N l E=some E1->wp m k0 k (some ⟨N,E1,L⟩) Q->wp m k0 (.ops bar e l :: k) (some ⟨N,E,L⟩) Q
 | [],E,E1,h,hq=>by
  cases h;rw[wp];exact hq
 | ⟨d,i,g⟩:: l,E,E1,h,hq=>by
  cases d with
  | none=>cases i<;>cases h
  | some d=>
   cases i<;>cases g<;>first | (cases h; done)| skip
   rename_i x;simp only[zFx]at h;cases hx:evD E x with
   | none=>rw[hx]at h; cases h
   | some v=>
    rw[hx]at h;simp only at h;split at h
    .rename_i hd;rw[wp];simp only[zc2];have:zoh ⟨N,E,L⟩ (some d) (.mov x) (zbu (⟨N,E,L⟩:LSt).env none)=some ⟨N,(d,v):: E,L⟩:=by
      grind [zoh,zbu,doI,zal,LSt.zC8,qL,LSt.put]
     rw[this];exact zwf h hq
    cases h
theorem zCg{N:Nat}{L:List LB}{Q:LX->LSt->Prop}:∀ {c:C} {k:List K} {E E1:List (Nat×D)},zzu N c E=some E1->wp m k0 k (some ⟨N,E1,L⟩) Q->wp m k0 (.code c :: k) (some ⟨N,E,L⟩) Q:=by
 intro c;induction c with
 | skip=>grind [wp,zzu]
 | reg dr bar l=>intro k E E1 h hq; rw[wp]; exact zwf h hq
 | seq a b iha ihb=>
  intro k E E1 h hq;simp only[zzu]at h;cases ha:zzu N a E<;>grind [wp]
 | _=>intro k E E1 h; cases h
theorem zxw{N:Nat}{c:C}{E E1:List (Nat×D)}{L:List LB}(h:zzu N c E=some E1):EvL m k0 [.code c] ⟨N,E,L⟩ λx S1=>x=.normal/\S1=⟨N,E1,L⟩:=
 zad (zCg h (by rw[wp]; exact⟨rfl,rfl⟩))
mutual
theorem znN{n:Nat}{kp:Nat->Bool}(hk:∀ b,b<n->kp b=true):∀ {d:D},d.sc n->d.kin kp
 | .ptr b _,h=>hk b h
 | .eptr b _ _ _ _,h=>hk b h
 | .sl b _ _ _ _ _,h=>hk b h
 | .yld b,h=>hk b h
 | .clo _ xs ys,h=>⟨zgI hk (ds:=xs) h.1,zgI hk (ds:=ys) h.2⟩
 | .ifc _ d,h=>znN hk (d:=d) h
 | .agg ds,h=>zgI hk (ds:=ds) h
 | .tup ds,h=>zgI hk (ds:=ds) h
 | .any,_=>trivial
 | .lit _,_=>trivial
 | .fptr _ _,_=>trivial
 | .fz _ _ _,_=>trivial
 | .z0 _ _,_=>trivial
theorem zgI{n:Nat}{kp:Nat->Bool}(hk:∀ b,b<n->kp b=true):∀ {ds:List D},D.scs n ds->D.ziY kp ds
 | [],_=>trivial
 | d :: r,h=>⟨znN hk (d:=d) h.1,zgI hk (ds:=r) h.2⟩
end
mutual
theorem zzP{n:Nat}:∀ {d:D},d.kin (λb=>decide (b<n))->d.sc n
 | .ptr b _,h=>(of_decide_eq_true (show decide (b<n)=true from h):b<n)
 | .eptr b _ _ _ _,h=>(of_decide_eq_true (show decide (b<n)=true from h):b<n)
 | .sl b _ _ _ _ _,h=>(of_decide_eq_true (show decide (b<n)=true from h):b<n)
 | .yld b,h=>(of_decide_eq_true (show decide (b<n)=true from h):b<n)
 | .clo _ xs ys,h=>⟨ziV (ds:=xs) h.1,ziV (ds:=ys) h.2⟩
 | .ifc _ d,h=>zzP (d:=d) h
 | .agg ds,h=>ziV (ds:=ds) h
 | .tup ds,h=>ziV (ds:=ds) h
 | .any,_=>trivial
 | .lit _,_=>trivial
 | .fptr _ _,_=>trivial
 | .fz _ _ _,_=>trivial
 | .z0 _ _,_=>trivial
theorem ziV{n:Nat}:∀ {ds:List D},D.ziY (λb=>decide (b<n)) ds->D.scs n ds
 | [],_=>trivial
 | d :: r,h=>⟨zzP (d:=d) h.1,ziV (ds:=r) h.2⟩
end
theorem zea(e:En α)(n:Nat)(t:Bool)(xs:List α):∀ cells,cells∈xs.map (e.c t)->D.scs n cells:=λcells h=>ziV (zeP e _ t xs cells h)
def scE(n:Nat):List (Nat×D)->Prop
 | []=>True
 | x :: r=>x.2.sc n/\scE n r
theorem zph{n:Nat}:∀ {E:List (Nat×D)},scE n E->∀ k d,lk E k=some d->d.sc n
 | [],_,k,d,h=>by cases h
 | x :: r,hs,k,d,h=>by
  obtain⟨j,e⟩:=x;simp only[lk]at h;split at h
  .cases h; exact hs.1
  exact zph hs.2 k d h
inductive Out3 (α β γ:Type) where
 | go (a:α)
 | brk (b:β)
 | ret (r:γ)
theorem EvL.jn2{S:LSt}{α β:Type}{c:C}{k:List K}{id:Nat}(T:α->LSt)(P:α->Prop)(TB:β->LSt)(PB:β->Prop)(hQ:∀ id S,¬ Q (.exit id) S)
  (h1:EvL m k0 [.code c,.inv (Jn k0 T P),.blk id,.inv (Jn k0 TB PB)] S Q) (h2:∀ a,P a->EvL m k0 k (T a) Q) (h3:∀ b,PB b->EvL m k0 (.ex id :: k) (TB b) Q):EvL m k0 (.code (.scope c):: k) S Q:=by
 intro c0 H0 cx B rd M hd hw hr hB;have h:=h1 c0 H0 cx B rd M hd hw hr hB;show EvC m B rd c M _;refine EvC.mono h λex M' hx=>?_
 have jn:∀ {γ:Type} {TG:γ->LSt} {PG:γ->Prop} {kk:List K},(∃ c' S',Lx.Way k0 c0 H0 c' M'/\Rel c' S' M'/\Jn k0 TG PG S')->(∀ a,PG a->EvL m k0 kk (TG a) Q)->(sem m B rd (zt0 k0 c0 H0 Q) (kk.map (toM k0 c0 H0))).1 M':=by
  rintro γ TG PG kk ⟨c',S1,g1,g2,a,g3,g4⟩ hh;obtain⟨c2,k1,k2,k3⟩:=g4 c' M' g2;refine hh a g3 c0 H0 c2 B rd M' hd ⟨g1.step.trans k2,g1.le.trans k3,g1.dfs⟩ k1 ?_
  grind [Go.Lx.Way,Go.Lx.Step]
 cases ex with
 | normal=>exact jn hx h2
 | exit id'=>
  by_cases he:id'=id
  .subst he;have hx2:∃ c' S',Lx.Way k0 c0 H0 c' M'/\Rel c' S' M'/\Jn k0 TB PB S':=by
    grind [Go.Lx.sem,Go.Lx.toM,Go.Lx.ziz]
   exact EvC.zfw (jn hx2 h3)
  .have:(if id'=id then _ else zt0 k0 c0 H0 Q (.exit id') M'):=hx;rw[if_neg he]at this;obtain⟨c',S1,x,g1,g2,g3,g4⟩:=this;cases x with
   | exit i=>exact(hQ i S1 g4).elim
   | normal=>exact g3.elim
   | ret=>exact g3.elim
   | panic d=>exact g3.elim
 | ret=>
  grind [zqG,Go.Lx.ziz]
 | panic v e=>
  grind [ziu,Go.Lx.ziz]
theorem EvL.zhd{ι γ:Type}{k:List K}{x:X}{ps:List Nat}{asg body bm:C}{gf:Nat}{first cap:List D}{xs:List ι}{Y:ι->Nat->List D->List LB->Prop}{N n0:Nat}{E:List (Nat×D)}
  (hg:Gen m gf first cap xs Y) (hx:evD E x=some (.clo gf first cap)) (hbm:zdx false body=bm) (T:γ->List LB) (P:Nat->γ->Prop) (R:LX->List LB->Prop) (a0:γ)
  (hlen:∀ a,(T a).length=n0) (hk0:k0<=n0) (hE:scE (n0+1) E) (hsc:∀ a,zdw (n0+1) (T a)) (hR:∀ x L1,R x L1->L1.length=n0/\zdw (n0+1) L1) (hpan:∀ d L1,¬ R (.panic d) L1)
  (hp:P 0 a0)
  (hstep:∀ i a y args G lpF,xs[i]? = some y->P i a->Y y (n0+1) args G->(∀ kp:Nat->Bool,(∀ b,b<n0+1->kp b=true)->LB.kin kp lpF)->∃ E' E1,zxU N E ps args=some E'/\zzu N asg E'=some E1 /\
   EvL m (n0+1+G.length) [.code bm] ⟨N,E1,T a ++ lpF :: G⟩ λx2 S2=>∃ L1,L1.length=n0/\za8 (n0+1+G.length) S2 ⟨S2.N,[],L1 ++ lpF :: G⟩/\(match x2 with | .normal=>∃ a',P (i+1) a'/\L1=T a' | x2=>R x2 L1))
  (hend:∀ a,P xs.length a->R .normal (T a))
  (hk:∀ L1,R .normal L1->EvL m k0 k ⟨N,E,L1 ++ [.lost]⟩ Q)
  (hke:∀ id L1,R (.exit id) L1->EvL m k0 (.ex id :: k) ⟨N,E,L1 ++ [.lost]⟩ Q)
  (hkr:∀ L1,R .ret L1->Q .ret ⟨N,E,L1 ++ [.lost]⟩):EvL m k0 (.code (.zeK x ps asg body):: k) ⟨N,E,T a0⟩ Q:=by
 refine EvL.zeK hx hg T P R a0 hlen hk0 (zph hE) hsc hR hpan hp ?_ hend hk hke hkr;intro i a y args G hy hP hY;have hl:=hlen a;obtain⟨E',E1,h1,h2,h3⟩:=hstep i a y args G (.lp false none N E ps asg body) hy hP hY λkp hkp j d hj=>znN hkp (zph hE j d hj)
 refine⟨E',h1,EvL.mono (zxw h2) ?_⟩<;> grind [EvL.mono,EvL.zik]
end
end Go.Dc
