/-
 Lists with room behind them; blocks that must stay; loops over what a generator yields. Conditions: none.
-/
import Derived.Test.YtbjogdohfhdaiaaGreatErDc2
import Derived.Test.YtbjogdohfhdaiaaGreatErLy16
import Derived.Test.YtbjogdohfhdaiaaGreatErMxG
set_option linter.unusedSimpArgs false
set_option linter.unusedVariables false
namespace Go.Dc
open Go Go.Mx Go.Lx
variable {α β γ:Type}
def room(xs:List α)(c:Nat)(z:α):List α:=xs ++ List.replicate (c - xs.length) z
variable{xs:List α}{c:Nat}
theorem zjN(h:xs.length<=c)(z:α):(room xs c z).length=c:=by simp[room]; omega
def zDy(b:Nat)(c:Int):Option Nat:=if 0<=c/\c * b<=zah then some c.toNat else none
variable{b:Nat}
theorem znR{c:Int}{C:Nat}(h:zDy b c=some C):(0<=c/\c * b<=zah)/\c.toNat=C:=by
 grind [zDy]
theorem zx8{c:Int}{C:Nat}(h:zDy b c=some C)(z:α)(f:α->β):List.replicate C (f z)=(room [] C z).map f:=by simp[room]
def zqU(c:Nat)(xs ys:List α):Option (List α):=if xs.length+ys.length<=c then some (xs ++ ys)else none
variable{ys zs:List α}
theorem zkG(h:zqU c xs ys=some zs):xs.length+ys.length<=c/\zs=xs ++ ys:=by
 grind [zqU]
theorem zos(h:zqU c xs ys=some zs):xs.length+ys.length=zs.length:=by rw[(zkG h).2,qaz]
theorem zr1(h:zqU c xs ys=some zs):zs.length<=c:=by rw[<- zos h]; exact(zkG h).1
theorem zuP(h:zqU c xs ys=some zs)(z:α)(f:α->β):((room xs c z).map f).take xs.length ++ ys.map f ++ ((room xs c z).map f).drop zs.length=(room zs c z).map f:=by
 obtain⟨h1,rfl⟩:=zkG h;simp only[room,qba,qcx,qaz];rw[List.take_left' (by simp),List.drop_append];simp only[qak,List.drop_replicate];rw[qbn (by simp),qaU];congr 2
 omega
variable{L:List LB}
theorem zyn{n:Nat}{e:En α}{z:α}{t t':Bool}(hn:n=e.n)(he:L[b]? = some (.els n ((room xs c z).map (e.c t))))(hc:xs.length<=c)(ht:t'=true->t=true):
  Snp L t' (.sl b 0 n xs.length (some c) c) (fzE t' e xs):=by
 subst hn;have hes:zgP L b e.n c=some ((room xs c z).map (e.c t)):=by
  simp[zgP,he,zjN hc z]
 have hget:∀ i,i<xs.length->((room xs c z).map (e.c t))[i]? =(xs.map (e.c t))[i]?:=λi hi=>by
  grind [room]
 refine .sl hes (by simp[zjN hc z]; exact hc) (λk hk=>by cases hk; exact hc) (by simp) (λi cells cells' h1 h2=>?_) λi k cells cells' d d' h1 h2 h3 h4=>?_
 .have hi:i<xs.length:=by simpa using(qab.1 h2).1
  rw[qaO,hget i hi]at h1;obtain⟨x,_,rfl,rfl⟩:=zd4 h1 h2;rw[e.len,e.len]
 have hi:i<xs.length:=by simpa using(qab.1 h2).1
 rw[qaO,hget i hi]at h1;obtain⟨x,_,rfl,rfl⟩:=zd4 h1 h2;exact(e.snp x ht).get k d d' h3 h4
def zzl:List Lx.Act->Nat->Bool
 | _,0=>true
 | .k :: r,n+1=>zzl r n
 | _,_+1=>false
theorem zvB:∀ {aS:List Lx.Act} {n:Nat},zzl aS n=true->∀ b,b<n->isK aS b=true
 | _,0,_,b,hb=>absurd hb (qam b)
 | .k :: r,n+1,h,b,hb=>by
  cases b with
  | zero=>rfl
  | succ b=>exact zvB (aS:=r) (n:=n) h b (by omega)
 | [],_+1,h,_,_=>by cases h
 | .f :: _,_+1,h,_,_=>by cases h
 | .d :: _,_+1,h,_,_=>by cases h
variable{N:Nat}
theorem zbi.mK{k0:Nat}{E E':List (Nat×D)}{L':List LB}(aS:List Lx.Act)(hk:zzl aS k0=true)(hl:zjE aS L'.length=true)(hE:MEs L aS E E')(hL:MBs L aS 0 L L'):zbi k0 ⟨N,E,L⟩ ⟨N,E',L'⟩:=
 zbi.zeK aS (zvB hk) (zha hl) hE hL
theorem wrap64{n:Int}(h1:-9223372036854775808<=n)(h2:n<9223372036854775808):IntKind.i64.wrap n=n:=by
 grind [IntKind.wrap,IntKind.bits,IntKind.signed]
def zfm(xs:List α):Option Unit:=if xs.length<9223372036854775808 then some ()else none
theorem zhJ{u:Unit}(h:zfm xs=some u):xs.length<9223372036854775808:=by
 grind [zfm]
def zuo(xs:List α):List (Int×α):=xs.zipIdx.map λp=>((p.2:Int),p.1)
theorem zf7{i:Nat}{x:α}(h:xs[i]? = some x):xs.drop i=x :: xs.drop (i+1):=by
 grind [qay]
variable{rs:List RX}
theorem zgQ{P:Program}{orc:Orc}{f:Nat}{cm:C}(h:(zkk P f).map (λfn=>(fn.N,zdm false fn.c,fn.rs,fn.p))=some (N,cm,rs,false)):zt6 ⟨zjG P,orc⟩ f=some (N,cm,rs,false):=by
 grind [zt6,ziH]
theorem EvL.mark{m:Mach}{k0:Nat}{c bm:C}{k:List K}{S:LSt}{Q:LX->LSt->Prop}(hm:zdm false c=bm)(h:EvL m k0 (.code bm :: k) S Q):EvL m k0 (.code c :: k) S Q:=by
 subst hm;exact EvL.zh0 h
theorem zdD.ofM{m:Mach}{f:Nat}{cm:C}{args:List D}{Q1 Qp1:D->List LB->Prop}(h:zt6 m f=some (N,cm,rs,false))(ho:∀ B args hp,m.orc B f args hp=none)(hN:args.length<=N)(hb:EvL m L.length [.code cm] ⟨N,zeY 0 args,L⟩ λx S'=>match x with
   | .ret=>∃ ds,zfQ S'.heap S'.env rs=some ds/\Q1 (zdX ds) S'.heap
   | .normal=>∃ ds,zfQ S'.heap S'.env rs=some ds/\Q1 (zdX ds) S'.heap
   | .panic d=>Qp1 d S'.heap
   | .exit _=>False):zdD m false f args L Q1 Qp1:=by
 grind [zjM,zdD.intro,EvL.zh0]
theorem zBP{i:Int}{x:α}{a:Nat}(h:zaE xs i=some x)(f:α->β){ys:List β}(hy:(ys.drop a).take xs.length=xs.map f):ys[a+i.toNat]? = some (f x):=by
 have h1:=zcn h f
 grind
def zGm(N:Nat):List O->List (Nat×D)->Option (List (Nat×D))
 | [],E=>some E
 | ⟨some d,.mov x,none⟩:: l,E=>match evD E x with
  | some v=>if d<N then zGm N l ((d,v):: E)else none
  | none=>none
 | _,_=>none
def zx7(N:Nat):C->List (Nat×D)->Option (List (Nat×D))
 | .skip,E=>some E
 | .reg _ _ l,E=>zGm N l E
 | .seq a b,E=>match zx7 N a E with
  | some E1=>zx7 N b E1
  | none=>none
 | _,_=>none
section
variable {m:Mach} {k0:Nat} {Q:LX->LSt->Prop}
theorem zvw{N:Nat}{L:List LB}{Q:LX->LSt->Prop}{bar e:Bool}{k:List K}:∀ {l:List O} {E E1:List (Nat×D)},zGm N l E=some E1->wp m k0 k (some ⟨N,E1,L⟩) Q->wp m k0 (.ops bar e l :: k) (some ⟨N,E,L⟩) Q
 | [],E,E1,h,hq=>by
  cases h;rw[wp];exact hq
 | ⟨d,i,g⟩:: l,E,E1,h,hq=>by
  cases d with
  | none=>cases i<;>cases h
  | some d=>
   cases i<;>cases g<;>first | (cases h; done)| skip
   rename_i x;simp only[zGm]at h;cases hx:evD E x with
   | none=>rw[hx]at h; cases h
   | some v=>
    rw[hx]at h;simp only at h;split at h
    .rename_i hd;rw[wp];simp only[zda];have:zpy ⟨N,E,L⟩ (some d) (.mov x) (zbB (⟨N,E,L⟩:LSt).env none)=some ⟨N,(d,v):: E,L⟩:=by
      grind [zpy,zbB,doI,zak,LSt.zDv,qL,LSt.put]
     rw[this];exact zvw h hq
    cases h
theorem zBq{N:Nat}{L:List LB}{Q:LX->LSt->Prop}:∀ {c:C} {k:List K} {E E1:List (Nat×D)},zx7 N c E=some E1->wp m k0 k (some ⟨N,E1,L⟩) Q->wp m k0 (.code c :: k) (some ⟨N,E,L⟩) Q:=by
 intro c;induction c with
 | skip=>grind [wp,zx7]
 | reg dr bar l=>intro k E E1 h hq; rw[wp]; exact zvw h hq
 | seq a b iha ihb=>
  intro k E E1 h hq;simp only[zx7]at h;cases ha:zx7 N a E<;>grind [wp]
 | _=>intro k E E1 h; cases h
theorem zxD{N:Nat}{c:C}{E E1:List (Nat×D)}{L:List LB}(h:zx7 N c E=some E1):EvL m k0 [.code c] ⟨N,E,L⟩ λx S1=>x=.normal/\S1=⟨N,E1,L⟩:=
 zad (zBq h (by rw[wp]; exact⟨rfl,rfl⟩))
mutual
theorem zpo{n:Nat}{kp:Nat->Bool}(hk:∀ b,b<n->kp b=true):∀ {d:D},d.sc n->d.kin kp
 | .ptr b _,h=>hk b h
 | .eptr b _ _ _ _,h=>hk b h
 | .sl b _ _ _ _ _,h=>hk b h
 | .yld b,h=>hk b h
 | .clo _ xs ys,h=>⟨zgu hk (ds:=xs) h.1,zgu hk (ds:=ys) h.2⟩
 | .ifc _ d,h=>zpo hk (d:=d) h
 | .agg ds,h=>zgu hk (ds:=ds) h
 | .tup ds,h=>zgu hk (ds:=ds) h
 | .any,_=>trivial
 | .lit _,_=>trivial
 | .fptr _ _,_=>trivial
 | .fz _ _ _,_=>trivial
 | .z0 _ _,_=>trivial
theorem zgu{n:Nat}{kp:Nat->Bool}(hk:∀ b,b<n->kp b=true):∀ {ds:List D},D.scs n ds->D.zjh kp ds
 | [],_=>trivial
 | d :: r,h=>⟨zpo hk (d:=d) h.1,zgu hk (ds:=r) h.2⟩
end
mutual
theorem zAL{n:Nat}:∀ {d:D},d.kin (λb=>decide (b<n))->d.sc n
 | .ptr b _,h=>(of_decide_eq_true (show decide (b<n)=true from h):b<n)
 | .eptr b _ _ _ _,h=>(of_decide_eq_true (show decide (b<n)=true from h):b<n)
 | .sl b _ _ _ _ _,h=>(of_decide_eq_true (show decide (b<n)=true from h):b<n)
 | .yld b,h=>(of_decide_eq_true (show decide (b<n)=true from h):b<n)
 | .clo _ xs ys,h=>⟨zjg (ds:=xs) h.1,zjg (ds:=ys) h.2⟩
 | .ifc _ d,h=>zAL (d:=d) h
 | .agg ds,h=>zjg (ds:=ds) h
 | .tup ds,h=>zjg (ds:=ds) h
 | .any,_=>trivial
 | .lit _,_=>trivial
 | .fptr _ _,_=>trivial
 | .fz _ _ _,_=>trivial
 | .z0 _ _,_=>trivial
theorem zjg{n:Nat}:∀ {ds:List D},D.zjh (λb=>decide (b<n)) ds->D.scs n ds
 | [],_=>trivial
 | d :: r,h=>⟨zAL (d:=d) h.1,zjg (ds:=r) h.2⟩
end
theorem zdU(e:En α)(n:Nat)(t:Bool)(xs:List α):∀ cells,cells∈xs.map (e.c t)->D.scs n cells:=λcells h=>zjg (zeM e _ t xs cells h)
def scE(n:Nat):List (Nat×D)->Prop
 | []=>True
 | x :: r=>x.2.sc n/\scE n r
theorem zoC{n:Nat}:∀ {E:List (Nat×D)},scE n E->∀ k d,lk E k=some d->d.sc n
 | [],_,k,d,h=>by cases h
 | x :: r,hs,k,d,h=>by
  obtain⟨j,e⟩:=x;simp only[lk]at h;split at h
  .cases h; exact hs.1
  exact zoC hs.2 k d h
inductive Out3 (α β γ:Type) where
 | go (a:α)
 | brk (b:β)
 | ret (r:γ)
theorem EvL.jn2{S:LSt}{α β:Type}{c:C}{k:List K}{id:Nat}(T:α->LSt)(P:α->Prop)(TB:β->LSt)(PB:β->Prop)(hQ:∀ id S,¬ Q (.exit id) S)
  (h1:EvL m k0 [.code c,.inv (Jn k0 T P),.blk id,.inv (Jn k0 TB PB)] S Q) (h2:∀ a,P a->EvL m k0 k (T a) Q) (h3:∀ b,PB b->EvL m k0 (.ex id :: k) (TB b) Q):EvL m k0 (.code (.scope c):: k) S Q:=by
 intro c0 H0 cx B rd M hd hw hr hB;have h:=h1 c0 H0 cx B rd M hd hw hr hB;show EvC m B rd c M _;refine EvC.mono h λex M' hx=>?_
 have jn:∀ {γ:Type} {TG:γ->LSt} {PG:γ->Prop} {kk:List K},(∃ c' S',Lx.Way k0 c0 H0 c' M'/\Rel c' S' M'/\Jn k0 TG PG S')->(∀ a,PG a->EvL m k0 kk (TG a) Q)->(sem m B rd (zuk k0 c0 H0 Q) (kk.map (toM k0 c0 H0))).1 M':=by
  rintro γ TG PG kk ⟨c',S1,g1,g2,a,g3,g4⟩ hh;obtain⟨c2,k1,k2,k3⟩:=g4 c' M' g2;refine hh a g3 c0 H0 c2 B rd M' hd ⟨g1.step.trans k2,g1.le.trans k3,g1.dfs⟩ k1 ?_
  grind [Go.Lx.Way,Go.Lx.Step]
 cases ex with
 | normal=>exact jn hx h2
 | exit id'=>
  by_cases he:id'=id
  .subst he;have hx2:∃ c' S',Lx.Way k0 c0 H0 c' M'/\Rel c' S' M'/\Jn k0 TB PB S':=by
    grind [Go.Lx.sem,Go.Lx.toM,Go.Lx.ziU]
   exact EvC.zfk (jn hx2 h3)
  .have:(if id'=id then _ else zuk k0 c0 H0 Q (.exit id') M'):=hx;rw[if_neg he]at this;obtain⟨c',S1,x,g1,g2,g3,g4⟩:=this;cases x with
   | exit i=>exact(hQ i S1 g4).elim
   | normal=>exact g3.elim
   | ret=>exact g3.elim
   | panic d=>exact g3.elim
 | ret=>
  grind [zqh,Go.Lx.ziU]
 | panic v e=>
  grind [ziw,Go.Lx.ziU]
theorem EvL.zgF{ι γ:Type}{k:List K}{x:X}{ps:List Nat}{asg body bm:C}{gf:Nat}{first cap:List D}{xs:List ι}{Y:ι->Nat->List D->List LB->Prop}{N n0:Nat}{E:List (Nat×D)}
  (hg:Gen m gf first cap xs Y) (hx:evD E x=some (.clo gf first cap)) (hbm:zdm false body=bm) (T:γ->List LB) (P:Nat->γ->Prop) (R:LX->List LB->Prop) (a0:γ)
  (hlen:∀ a,(T a).length=n0) (hk0:k0<=n0) (hE:scE (n0+1) E) (hsc:∀ a,zdo (n0+1) (T a)) (hR:∀ x L1,R x L1->L1.length=n0/\zdo (n0+1) L1) (hpan:∀ d L1,¬ R (.panic d) L1)
  (hp:P 0 a0)
  (hstep:∀ i a y args G lpF,xs[i]? = some y->P i a->Y y (n0+1) args G->(∀ kp:Nat->Bool,(∀ b,b<n0+1->kp b=true)->LB.kin kp lpF)->∃ E' E1,zzD N E ps args=some E'/\zx7 N asg E'=some E1 /\
   EvL m (n0+1+G.length) [.code bm] ⟨N,E1,T a ++ lpF :: G⟩ λx2 S2=>∃ L1,L1.length=n0/\zbi (n0+1+G.length) S2 ⟨S2.N,[],L1 ++ lpF :: G⟩/\(match x2 with | .normal=>∃ a',P (i+1) a'/\L1=T a' | x2=>R x2 L1))
  (hend:∀ a,P xs.length a->R .normal (T a))
  (hk:∀ L1,R .normal L1->EvL m k0 k ⟨N,E,L1 ++ [.lost]⟩ Q)
  (hke:∀ id L1,R (.exit id) L1->EvL m k0 (.ex id :: k) ⟨N,E,L1 ++ [.lost]⟩ Q)
  (hkr:∀ L1,R .ret L1->Q .ret ⟨N,E,L1 ++ [.lost]⟩):EvL m k0 (.code (.zey x ps asg body):: k) ⟨N,E,T a0⟩ Q:=by
 refine EvL.zey hx hg T P R a0 hlen hk0 (zoC hE) hsc hR hpan hp ?_ hend hk hke hkr;intro i a y args G hy hP hY;have hl:=hlen a;obtain⟨E',E1,h1,h2,h3⟩:=hstep i a y args G (.lp false none N E ps asg body) hy hP hY λkp hkp j d hj=>zpo hkp (zoC hE j d hj)
 refine⟨E',h1,EvL.mono (zxD h2) ?_⟩<;> grind [EvL.mono,EvL.zh0]
end
end Go.Dc
