/-
 Trees: code. What must hold before a piece of code, computed as far as it goes. Conditions: none.
-/
import Derived.Test.YtbjogdohfhdaiaaGreatErJ26
set_option linter.unusedSimpArgs false
set_option linter.unusedVariables false
namespace Go.Lx
open Go Go.Mx
inductive LX where
 | normal
 | exit (id:Nat)
 | ret
 | panic (d:D)
inductive K where
 | code (c:C)
 | ops (bar e:Bool) (l:List O)
 | blk (id:Nat)
 | inv (J:LSt->Prop)
 | ex (id:Nat)
inductive KM where
 | code (c:C)
 | ops (bar e:Bool) (l:List O)
 | blk (id:Nat)
 | inv (J:St->Prop)
section
variable (fns:Mach) (B:Nat) (rd:Option Nat)
def ziU(p:(St->Prop)×(Ex->St->Prop)):Ex->St->Prop:=λex M=>match ex with
 | .normal=>p.1 M
 | ex=>p.2 ex M
def sem(Q:Ex->St->Prop):List KM->(St->Prop)×(Ex->St->Prop)
 | []=>(Q .normal,Q)
 | .code c :: k=>(λM=>EvC fns B rd c M (ziU (sem Q k)),(sem Q k).2)
 | .ops bar e l :: k=>(λM=>EvO fns B bar rd.isNone e l M (ziU (sem Q k)),(sem Q k).2)
 | .blk id :: k=>((sem Q k).1,λex M=>match ex with
  | .exit id'=>if id'=id then(sem Q k).1 M else(sem Q k).2 (.exit id') M
  | ex=>(sem Q k).2 ex M)
 | .inv J :: k=>(J,(sem Q k).2)
end
structure Cx.leK (k0:Nat) (c c':Cx):Prop where
 za:∀ b cs,c.za b=some cs->c'.za b=some cs
 zf:∀ b cs,c.zf b=some cs->c'.zf b=some cs
 ρ:∀ β x,β<k0->c.ρ β=some x->∃ x',c'.ρ β=some x'/\x.up x'
theorem Lc.up.trans{x y z:Lc}(h:x.up y)(h':y.up z):x.up z:=by
 cases x with
 | cell b=>cases h; exact h'
 | list b m=>
  grind [Go.Lx.Lc.up]
 | ghost=>
  grind [Go.Lx.Lc.up]
theorem Cx.leK.refl(k0:Nat)(c:Cx):c.leK k0 c:=⟨λ_ _ h=>h,λ_ _ h=>h,λβ x _ h=>⟨x,h,Lc.up.refl x⟩⟩
theorem Cx.leK.trans{k0:Nat}{c c' c'':Cx}(h:c.leK k0 c')(h':c'.leK k0 c''):c.leK k0 c'' where
 za b cs hb:=h'.za b cs (h.za b cs hb)
 zf b cs hb:=h'.zf b cs (h.zf b cs hb)
 ρ β x hk hx:=by
  obtain⟨x',h1,h2⟩:=h.ρ β x hk hx;obtain⟨x'',h3,h4⟩:=h'.ρ β x' hk h1;exact⟨x'',h3,h2.trans h4⟩
theorem Cx.le.leK{c c':Cx}(h:c.le c')(k0:Nat):c.leK k0 c':=⟨h.za,h.zf,λβ x _ hx=>h.ρ β x hx⟩
def XR(c:Cx):LX->Ex->Prop
 | .normal,.normal=>True
 | .exit id,.exit id'=>id=id'
 | .ret,.ret=>True
 | .panic d,.panic v _=>R c d v
 | _,_=>False
structure Way (k0:Nat) (c0:Cx) (H0:zam) (c:Cx) (M:St):Prop where
 step:Step c0 H0 c M.heap
 le:c0.leK k0 c
 dfs:ziM H0.length M.dfs M.heap
theorem Way.start(k0:Nat)(c:Cx)(env:List V)(H:zam):Way k0 c H c ⟨env,[],H⟩:=⟨Step.refl _ _,Cx.leK.refl _ _,ziM.nil _ _⟩
variable{L:List LB}
theorem RelH.dfr{c:Cx}{H:zam}(h:RelH c L H){d:Nat}(hd:H[d]? = some .dfr):∀ β x,c.ρ β=some x->x.blk≠some d:=by
 intro β x hx hb;have hβ:=h.scope β x hx;have hob:=h.obj β L[β] (qac hβ);cases hl:L[β]with
 | cells ds=>
  grind [Go.Lx.Lc.blk,Go.Lx.ze4]
 | els n es=>
  grind [Go.Lx.Lc.blk,Go.Lx.ze4]
 | grow n es=>
  grind [Go.Lx.Lc.blk,Go.Lx.ze4]
 | gone=>
  grind [Go.Lx.ze4]
 | lp st pend N E ps asg body=>
  grind [Go.Lx.Lc.blk,Go.Lx.ze4]
 | lost=>
  grind [Go.Lx.Lc.blk,Go.Lx.ze4]
theorem ziM.step{n:Nat}{dfs:List Df}{c c':Cx}{L:List LB}{H H':zam}(h:ziM n dfs H)(hH:RelH c L H)(hs:Step c H c' H'):ziM n dfs H':=by
 grind [RelH.dfr,Go.Lx.ziM,Go.Lx.Step]
theorem Way.go{k0:Nat}{c0 c c':Cx}{H0:zam}{M M':St}(h:Way k0 c0 H0 c M)(hs:Step c M.heap c' M'.heap)(hl:c.le c')(hH:RelH c L M.heap)(hd:M'.dfs=M.dfs):Way k0 c0 H0 c' M':=
 ⟨h.step.trans hs,h.le.trans (hl.leK k0),by rw[hd]; exact h.dfs.step hH hs⟩
theorem RelH.kill{c:Cx}{H H':zam}(h:RelH c L H)(hl:H'.length=H.length)(hk:∀ b:Nat,H[b]?≠some Ob.dfr->H'[b]? = H[b]?):RelH c L H':=by
 have blk:∀ {b:Nat} {cs:List V},H[b]? = some (.blk cs)->H'[b]? = some (.blk cs):=λ{b cs} hb=>by rw[hk b (by rw[hb]; intro h; cases h)]; exact hb
 refine⟨by rw[hl]; exact h.base,λb cs hb=>⟨(h.za b cs hb).1,blk (h.za b cs hb).2⟩,λb cs hb=>⟨(h.zf b cs hb).1,blk (h.zf b cs hb).2⟩,λβ x b hx hb=>?_,h.inj,h.scope,λβ o ho=>?_⟩
 .grind [Go.Lx.RelH]
 have hob:=h.obj β o ho;cases o with
 | cells ds=>grind [Go.Lx.ze4]
 | els n es=>
  grind [Go.Lx.ze4]
 | grow n es=>
  grind [Go.Lx.ze4]
 | gone=>exact hob
 | lp st pend N E ps asg body=>
  grind [Go.Lx.ze4]
 | lost=>obtain⟨b,h1,h2⟩:=hob; exact⟨b,h1,by rw[hk b (by rw[h2]; intro h; cases h)]; exact h2⟩
theorem Way.leave{k0 B:Nat}{c0 c:Cx}{H0:zam}{M:St}(h:Way k0 c0 H0 c M)(hr:RelH c L M.heap)(hB:B<=H0.length):∃ H',Leaves B M.dfs M.heap H'/\RelH c L H'/\Step c0 H0 c H':=by
 obtain⟨H',h1,h2,h3,h4⟩:=h.dfs.leaves hB
 refine⟨H',h1,hr.kill h2 h3,⟨by rw[h2]; exact h.step.len,h.step.za,h.step.base,h.step.zf,λb hb hn=>?_,h.step.own,λb hb=>(h.step.lp b hb).zgl (h3 b (by
  obtain⟨_,_,_,_,_,_,h9⟩:=h.step.lp b hb
  simp_all))⟩⟩
 rw[h4 b hb];exact h.step.zgl b hb hn
def zuk(k0:Nat)(c0:Cx)(H0:zam)(Q:LX->LSt->Prop):Ex->St->Prop:=λex M=>∃ c' S' x,Way k0 c0 H0 c' M/\Rel c' S' M/\XR c' x ex/\Q x S'
def toM(k0:Nat)(c0:Cx)(H0:zam):K->KM
 | .code c=>.code c
 | .ops bar e l=>.ops bar e l
 | .blk id=>.blk id
 | .inv J=>.inv λM=>∃ c' S',Way k0 c0 H0 c' M/\Rel c' S' M/\J S'
 | .ex id=>.code (.exit id)
def zCW(rd:Option Nat)(H:zam):Prop:=∀ l,rd=some l->ztp H l
theorem zCW.none(H:zam):zCW none H:=λl h=>(by cases h)
def EvL(fns:Mach)(k0:Nat)(k:List K)(S:LSt)(Q:LX->LSt->Prop):Prop:=
 ∀(c0:Cx) (H0:zam) (c:Cx) (B:Nat) (rd:Option Nat) (M:St),zCW rd H0->Way k0 c0 H0 c M->Rel c S M->B<=c.base->(sem fns B rd (zuk k0 c0 H0 Q) (k.map (toM k0 c0 H0))).1 M
def zpY(want:Bool):Option D->Option Bool
 | some (.lit (.bool b))=>some (bif want then b else !b)
 | some (.lit (.tuple _))=>some false
 | _=>none
def zbB(E:List (Nat×D)):Option (Nat×Bool)->Option Bool
 | none=>some true
 | some (k,want)=>zpY want (lk E k)
def zmd:D:=.lit (.tuple #[])
def LSt.put(S:LSt):Option Nat->D->Option LSt
 | some k,v=>if k<S.N then some ⟨S.N,(k,v):: S.env,S.heap⟩else none
 | none,_=>some S
def LSt.zDv(S:LSt)(d:Option Nat):Option D->Option LSt
 | some v=>S.put d v
 | none=>none
def LSt.zEv(S:LSt)(d:Option Nat):Option (D×List LB)->Option LSt
 | some (v,L)=>LSt.put ⟨S.N,S.env,L⟩ d v
 | none=>none
def doI(S:LSt)(d:Option Nat)(i:I):Option LSt:=
 match zak i with
 | true=>S.zDv d (qL S.heap S.env i)
 | false=>S.zEv d (zjB S.heap S.env i)
def zpy(S:LSt)(d:Option Nat)(i:I):Option Bool->Option LSt
 | some true=>doI S d i
 | some false=>S.put d zmd
 | none=>none
def zda:I->Bool
 | .call .. | .zd8 .. | .panic .. | .defer .. | .recover | .slcA ..=>true
 | _=>false
def zow:Option Bool->C->C->C
 | some true,a,_=>a
 | some false,_,b=>b
 | none,_,_=>.bad
def wC:C->Nat
 | .seq a b=>wC a+wC b+4
 | .cond _ a b=>wC a+wC b+4
 | .block _ c=>wC c+4
 | .scope c=>wC c+4
 | .reg _ _ l=>l.length+4
 | _=>4
theorem zzY(c:C):4<=wC c:=by cases c<;>simp[wC]
theorem zC5(o:Option Bool)(a b:C):wC (zow o a b)<wC a+wC b:=by
 have h1:=zzY a;have h2:=zzY b;cases o with
 | none=>simp[zow,wC]; omega
 | some t=>cases t<;>simp[zow]<;>omega
def wK:List K->Nat
 | []=>0
 | .code c :: k=>wC c+1+wK k
 | .ops _ _ l :: k=>l.length+2+wK k
 | .blk _ :: k=>2+wK k
 | .inv _ :: k=>2+wK k
 | .ex _ :: k=>1+wK k
def wp(fns:Mach)(k0:Nat):List K->Option LSt->(LX->LSt->Prop)->Prop
 | _,none,_=>False
 | [],some S,Q=>Q .normal S
 | .inv J :: _,some S,_=>J S
 | .blk _ :: k,some S,Q=>wp fns k0 k (some S) Q
 | .ex id :: [],some S,Q=>Q (.exit id) S
 | .ex id :: .blk id' :: k,some S,Q=>if id=id' then wp fns k0 k (some S) Q else wp fns k0 (.ex id :: k) (some S) Q
 | .ex id :: .inv _ :: k,some S,Q=>wp fns k0 (.ex id :: k) (some S) Q
 | .ex id :: .code _ :: k,some S,Q=>wp fns k0 (.ex id :: k) (some S) Q
 | .ex id :: .ops _ _ _ :: k,some S,Q=>wp fns k0 (.ex id :: k) (some S) Q
 | .ex id :: .ex _ :: k,some S,Q=>wp fns k0 (.ex id :: k) (some S) Q
 | .ops _ _ []:: k,some S,Q=>wp fns k0 k (some S) Q
 | .ops bar e (⟨d,i,g⟩:: l):: k,some S,Q=>match zda i with
  | true=>EvL fns k0 (.ops bar e (⟨d,i,g⟩:: l):: k) S Q
  | false=>wp fns k0 (.ops bar e l :: k) (zpy S d i (zbB S.env g)) Q
 | .code (.seq a b):: k,some S,Q=>wp fns k0 (.code a :: .code b :: k) (some S) Q
 | .code (.cond x a b):: k,some S,Q=>wp fns k0 (.code (zow (zil (evD S.env x)) a b):: k) (some S) Q
 | .code (.block id c):: k,some S,Q=>wp fns k0 (.code c :: .blk id :: k) (some S) Q
 | .code (.reg dr bar l):: k,some S,Q=>wp fns k0 (.ops bar (!dr) l :: k) (some S) Q
 | .code (.scope c):: k,some S,Q=>EvL fns k0 (.code (.scope c):: k) S Q
 | .code .skip :: k,some S,Q=>wp fns k0 k (some S) Q
 | .code (.label _):: k,some S,Q=>wp fns k0 k (some S) Q
 | .code .ret :: _,some S,Q=>Q .ret S
 | .code (.exit id):: k,some S,Q=>wp fns k0 (.ex id :: k) (some S) Q
 | .code (.loop c):: k,some S,Q=>EvL fns k0 (.code (.loop c):: k) S Q
 | .code (.zey x ps a b):: k,some S,Q=>EvL fns k0 (.code (.zey x ps a b):: k) S Q
 | .code .bad :: _,some _,_=>False
termination_by k=>wK k
decreasing_by
 all_goals simp only[wK,wC,qaB]
 all_goals first | omega | (have:=zC5 (zil (evD S.env x)) a b; omega)
section
variable {fns:Mach} {k0:Nat} {Q:LX->LSt->Prop} {c:Cx} {S:LSt} {M:St} {B:Nat} {rd:Option Nat}
variable{g:Option (Nat×Bool)}
theorem zcZ(h:Rel c S M){b:Bool}(hw:zbB S.env g=some b):wanted M.env g=b:=by
 cases g with
 | none=>cases hw; rfl
 | some x=>
  obtain⟨k,want⟩:=x;simp only[zbB]at hw;cases hl:lk S.env k with
  | none=>rw[hl]at hw; cases hw
  | some d=>
   rw[hl]at hw;obtain⟨v,g1,g2⟩:=h.env k d hl;unfold zpY at hw
   grind [wanted,Go.Lx.R]
theorem zeB{c':Cx}{L:List LB}{H:zam}(h:Rel c S M)(hle:c.le c')(hH:RelH c' L H){k:Option Nat}{d:D}{v:V}(hr:R c' d v){S':LSt}(hp:LSt.put ⟨S.N,S.env,L⟩ k d=some S'):Rel c' S' (St.put { M with heap:=H } k v):=by
 have h0:Rel c' ⟨S.N,S.env,L⟩ { M with heap:=H }:=⟨λk d hk=>by obtain⟨v,g1,g2⟩:=h.env k d hk; exact⟨v,g1,g2.mono hle⟩,h.len,hH⟩;cases k with
 | none=>cases hp; exact h0
 | some k=>
  grind [LSt.put,St.put,lk,Go.Lx.Rel]
theorem Rel.le0(h:Rel c S M):c.le c:=⟨λ_ _ h=>h,λ_ _ h=>h,λβ y hy=>⟨y,hy,Lc.up.refl y⟩,h.heap.apart⟩
theorem ze5{k:List KM}{QM:Ex->St->Prop}{d:Option Nat}{i:I}{l:List O}{bar e:Bool}(h:Rel c S M)(hB:B<=c.base)(hc:zda i=false){S':LSt}(hs:zpy S d i (zbB S.env g)=some S')(hk:∀ c' M',Step c M.heap c' M'.heap->c.le c'->M'.dfs=M.dfs->c'.base=c.base->Rel c' S' M'->EvO fns B bar rd.isNone e l M' (ziU (sem fns B rd QM k))):EvO fns B bar rd.isNone e (⟨d,i,g⟩:: l) M (ziU (sem fns B rd QM k)):=by
 cases hw:zbB S.env g with
 | none=>rw[hw]at hs; cases hs
 | some b=>
  rw[hw]at hs;have hw':=zcZ h hw;cases b with
  | false=>exact EvO.skip hw' (hk c _ (by cases d<;>exact Step.refl _ _) h.le0 (by cases d<;>rfl) rfl (zeB (L:=S.heap) (H:=M.heap) h h.le0 h.heap (.lit _) hs))
  | true=>
   simp only[zpy,doI]at hs;cases hq:zak i with
   | true=>
    rw[hq]at hs;simp only at hs;cases hv:qL S.heap S.env i with
    | none=>rw[hv]at hs; cases hs
    | some v=>
     rw[hv]at hs;obtain⟨u,g1,g2⟩:=zyy h hv;exact EvO.quiet hw' hq g1 (hk c _ (by cases d<;>exact Step.refl _ _) h.le0 (by cases d<;>rfl) rfl (zeB (L:=S.heap) (H:=M.heap) h h.le0 h.heap g2 hs))
   | false=>
    rw[hq]at hs;simp only at hs;cases hv:zjB S.heap S.env i with
    | none=>rw[hv]at hs; cases hs
    | some x=>
     obtain⟨v,L'⟩:=x;rw[hv]at hs;obtain⟨u,H',c',g1,g2,g3,g4,g5⟩:=ztf h hB hv;exact EvO.eff hw' hq g1 (hk c' _ (by cases d<;>exact g3) g4 (by cases d<;>rfl) g3.base (zeB h g4 g2 g5 hs))
theorem EvC.zfk{id:Nat}{P:Ex->St->Prop}(h:EvC fns B rd (.exit id) M P):P (.exit id) M:=by
 obtain⟨N,ex,S',h1,h2⟩:=h;have:=h1 N (qap _)
 grind [exec]
theorem zxw(k:List K)(o:Option LSt)(Q:LX->LSt->Prop):wp fns k0 k o Q->∀ S,o=some S->EvL fns k0 k S Q:=by
 induction k,o,Q using wp.induct with
 | case1=>simp_all
 | case2 S Q=>
  intro h S' hS; cases hS;simp only[wp]at h;intro c0 H0 c B rd M hd hw hr hB;exact⟨c,S,.normal,hw,hr,qds,h⟩
 | case3 J k S Q=>
  intro h S' hS; cases hS;simp only[wp]at h;intro c0 H0 c B rd M hd hw hr hB;exact⟨c,S,hw,hr,h⟩
 | case4 id k S Q ih=>
  intro h S' hS; cases hS;simp only[wp]at h;intro c0 H0 c B rd M hd hw hr hB;exact ih h S rfl c0 H0 c B rd M hd hw hr hB
 | case5 id S Q=>
  intro h S' hS; cases hS;simp only[wp]at h;intro c0 H0 c B rd M hd hw hr hB;exact EvC.exit ⟨c,S,.exit id,hw,hr,rfl,h⟩
 | case6 id k S Q ih=>
  intro h S' hS; cases hS;simp only[wp,if_true]at h;intro c0 H0 c B rd M hd hw hr hB
  grind [EvC.exit,ziU,sem,toM,EvL]
 | case7 id id' k S Q hne ih=>
  grind [wp,EvC.exit,ziU,sem,toM,EvC.zfk,EvL]
 | case8 id J k S Q ih=>
  intro h S' hS; cases hS;simp only[wp]at h;intro c0 H0 c B rd M hd hw hr hB;exact EvC.exit (EvC.zfk (ih h S rfl c0 H0 c B rd M hd hw hr hB):)
 | case9 id x k S Q ih=>
  intro h S' hS; cases hS;simp only[wp]at h;intro c0 H0 c B rd M hd hw hr hB;exact EvC.exit (EvC.zfk (ih h S rfl c0 H0 c B rd M hd hw hr hB):)
 | case10 id bar e l k S Q ih=>
  intro h S' hS; cases hS;simp only[wp]at h;intro c0 H0 c B rd M hd hw hr hB;exact EvC.exit (EvC.zfk (ih h S rfl c0 H0 c B rd M hd hw hr hB):)
 | case11 id id' k S Q ih=>
  intro h S' hS; cases hS;simp only[wp]at h;intro c0 H0 c B rd M hd hw hr hB;exact EvC.exit (EvC.zfk (ih h S rfl c0 H0 c B rd M hd hw hr hB):)
 | case12 bar e k S Q ih=>
  intro h S' hS; cases hS;simp only[wp]at h;intro c0 H0 c B rd M hd hw hr hB;exact EvO.nil (ih h S rfl c0 H0 c B rd M hd hw hr hB)
 | case13 bar e d i g l k S Q hi=>
  grind [wp]
 | case14 bar e d i g l k S Q hi ih=>
  intro h S' hS; cases hS;rw[wp]at h;simp only[hi]at h;intro c0 H0 c B rd M hd hw hr hB;cases hs:zpy S d i (zbB S.env g)with
  | none=>rw[hs]at h; rw[wp]at h; cases h
  | some S'=>
   refine ze5 hr hB hi hs λc' M' hstep hle hdd hb hr'=>?_
   exact ih h S' hs c0 H0 c' B rd M' hd (hw.go hstep hle hr.heap hdd) hr' (by rw[hb]; exact hB)
 | case15 a b k S Q ih=>
  intro h S' hS; cases hS;simp only[wp]at h;intro c0 H0 c B rd M hd hw hr hB;have:=ih h S rfl c0 H0 c B rd M hd hw hr hB;refine EvC.seq (EvC.mono this λex M' hx=>?_);cases ex<;>exact hx
 | case16 x a b k S Q ih=>
  intro h S' hS; cases hS;simp only[wp]at h;intro c0 H0 c B rd M hd hw hr hB;have:=ih h S rfl c0 H0 c B rd M hd hw hr hB;cases hb:zil (evD S.env x)with
  | none=>
   grind [zow,wp]
  | some t=>
   grind [EvC.cond,zg0,Go.Lx.sem,Go.Lx.toM,Go.Lx.zow]
 | case17 id x k S Q ih=>
  intro h S' hS; cases hS;simp only[wp]at h;intro c0 H0 c B rd M hd hw hr hB;have:=ih h S rfl c0 H0 c B rd M hd hw hr hB;refine EvC.block (EvC.mono this λex M' hx=>?_);cases ex with
  | exit id'=>
   grind [ziU,sem,toM]
  | normal=>exact hx
  | ret=>exact hx
  | panic v e=>exact hx
 | case18 dr bar l k S Q ih=>
  intro h S' hS; cases hS;simp only[wp]at h;intro c0 H0 c B rd M hd hw hr hB
  grind [EvC.reg,EvL,Go.Lx.sem,Go.Lx.toM]
 | case19 x k S Q=>
  grind [wp]
 | case20 k S Q ih=>
  intro h S' hS; cases hS;simp only[wp]at h;intro c0 H0 c B rd M hd hw hr hB;exact EvC.skip (ih h S rfl c0 H0 c B rd M hd hw hr hB)
 | case21 l k S Q ih=>
  intro h S' hS; cases hS;simp only[wp]at h;intro c0 H0 c B rd M hd hw hr hB;exact EvC.label (ih h S rfl c0 H0 c B rd M hd hw hr hB)
 | case22 k S Q=>
  intro h S' hS; cases hS;simp only[wp]at h;intro c0 H0 c B rd M hd hw hr hB;refine EvC.ret ?_;have:∀ k:List KM,(sem fns B rd (zuk k0 c0 H0 Q) k).2 .ret M=zuk k0 c0 H0 Q .ret M:=by
   intro k;induction k with
   | nil=>rfl
   | cons x k ih=>cases x<;>exact ih
  show(sem fns B rd (zuk k0 c0 H0 Q) (k.map (toM k0 c0 H0))).2 .ret M;rw[this];exact⟨c,S,.ret,hw,hr,qds,h⟩
 | case23 id k S Q ih=>
  intro h S' hS; cases hS;simp only[wp]at h;intro c0 H0 c B rd M hd hw hr hB
  grind [EvL,Go.Lx.toM]
 | case24 x k S Q=>
  grind [wp]
 | case25 x ps a b k S Q=>
  grind [wp]
 | case26=>intro h; simp only[wp]at h
theorem zad{k:List K}(h:wp fns k0 k (some S) Q):EvL fns k0 k S Q:=zxw k (some S) Q h S rfl
end
def zbi(k0:Nat)(S S':LSt):Prop:=∀ c M,Rel c S M->∃ c',Rel c' S' M/\Step c M.heap c' M.heap/\c.leK k0 c'
theorem zbi.refl(k0:Nat)(S:LSt):zbi k0 S S:=λc M h=>⟨c,h,Step.refl _ _,Cx.leK.refl _ _⟩
theorem zbi.trans{k0:Nat}{S S' S'':LSt}(h:zbi k0 S S')(h':zbi k0 S' S''):zbi k0 S S'':=λc M hr=>by
 obtain⟨c1,h1,h2,h3⟩:=h c M hr;obtain⟨c2,g1,g2,g3⟩:=h' c1 M h1;exact⟨c2,g1,h2.trans g2,h3.trans g3⟩
section
variable {fns:Mach} {k0:Nat} {Q:LX->LSt->Prop} {c:Cx} {S S':LSt} {M:St} {B:Nat} {rd:Option Nat}
theorem EvL.zgB{k:List K}(hw:zbi k0 S S')(h:EvL fns k0 k S' Q):EvL fns k0 k S Q:=by
 intro c0 H0 c B rd M hd hway hr hB;obtain⟨c1,h1,h2,h3⟩:=hw c M hr;exact h c0 H0 c1 B rd M hd ⟨hway.step.trans h2,hway.le.trans h3,hway.dfs⟩ h1 (by rw[h2.base]; exact hB)
theorem zzr{k:List KM}{QM QM':Ex->St->Prop}(h:∀ ex M,QM ex M->QM' ex M):(∀ M,(sem fns B rd QM k).1 M->(sem fns B rd QM' k).1 M)/\(∀ ex M,(sem fns B rd QM k).2 ex M->(sem fns B rd QM' k).2 ex M):=by
 induction k with
 | nil=>exact⟨λM hm=>h _ _ hm,h⟩
 | cons x k ih=>
  have ht:∀ ex M,ziU (sem fns B rd QM k) ex M->ziU (sem fns B rd QM' k) ex M:=by
   intro ex M hx;cases ex with
   | normal=>exact ih.1 _ hx
   | exit id=>exact ih.2 _ _ hx
   | ret=>exact ih.2 _ _ hx
   | panic v e=>exact ih.2 _ _ hx
  cases x with
  | code c=>exact⟨λM hm=>EvC.mono hm ht,ih.2⟩
  | ops bar e l=>exact⟨λM hm=>by obtain⟨N,ex,S',h1,h2⟩:=hm; exact⟨N,ex,S',h1,ht _ _ h2⟩,ih.2⟩
  | blk id=>
   refine⟨ih.1,λex M hm=>?_⟩<;> grind [sem]
  | inv J=>exact⟨λM hm=>hm,ih.2⟩
theorem EvL.mono{k:List K}{Q':LX->LSt->Prop}(h:EvL fns k0 k S Q)(hq:∀ x S',Q x S'->Q' x S'):EvL fns k0 k S Q':=by
 intro c0 H0 c B rd M hd hway hr hB;refine(zzr ?_).1 M (h c0 H0 c B rd M hd hway hr hB)
 grind [Go.Lx.zuk]
theorem EvL.loop{α:Type}{x:C}{k:List K}(St:α->LSt)(P:α->Prop)(μ:α->Nat)(a0:α)(h0:zbi k0 S (St a0))(hp:P a0)
  (hstep:∀ a,P a->EvL fns k0 (.code x :: .inv (λS'=>∃ a',P a'/\μ a'<μ a/\zbi k0 S' (St a')):: k) (St a) Q):EvL fns k0 (.code (.loop x):: k) S Q:=by
 refine EvL.zgB h0 ?_;have key:∀ n a,μ a=n->P a->EvL fns k0 (.code (.loop x):: k) (St a) Q:=by
  intro n;induction n using Nat.strongRecOn with
  | _ n ih=>
   intro a ha hP c0 H0 c B rd M hd hway hr hB;have h1:=hstep a hP c0 H0 c B rd M hd hway hr hB;refine EvC.loop (EvC.mono h1 λex M' hx=>?_);cases ex with
   | normal=>
    obtain⟨c',S',g1,g2,a',g3,g4,g5⟩:=hx;obtain⟨c2,k1,k2,k3⟩:=g5 c' M' g2;refine ih (μ a') (by omega) a' rfl g3 c0 H0 c2 B rd M' hd ⟨g1.step.trans k2,g1.le.trans k3,g1.dfs⟩ k1 ?_
    grind [Go.Lx.Way,Go.Lx.Step]
   | exit id=>exact hx
   | ret=>exact hx
   | panic v e=>exact hx
 exact key _ a0 rfl hp
mutual
def D.sc(n:Nat):D->Prop
 | .ptr β _=>β<n
 | .eptr β _ _ _ _=>β<n
 | .sl β _ _ _ _ _=>β<n
 | .yld β=>β<n
 | .clo _ xs ys=>D.scs n xs/\D.scs n ys
 | .ifc _ d=>d.sc n
 | .agg ds=>D.scs n ds
 | .tup ds=>D.scs n ds
 | .any=>True
 | .lit _=>True
 | .fptr _ _=>True
 | .fz _ _ _=>True
 | .z0 _ _=>True
def D.scs(n:Nat):List D->Prop
 | []=>True
 | d :: r=>d.sc n/\D.scs n r
end
theorem znC{n:Nat}:∀ {ds:List D},D.scs n ds->∀ {i:Nat} {d:D},ds[i]? = some d->d.sc n
 | [],_,i,d,h=>by simp at h
 | e :: r,hs,0,d,h=>by simp at h; subst h; exact hs.1
 | e :: r,hs,i+1,d,h=>znC hs.2 (by simpa using h)
theorem zmE{n:Nat}:∀ {ds:List D},D.scs n ds↔∀ d,d∈ds->d.sc n
 | []=>by simp[D.scs]
 | e :: r=>by simp[D.scs,zmE (ds:=r)]
def LB.sc(n:Nat):LB->Prop
 | .cells ds=>D.scs n ds
 | .els _ es=>∀ cells,cells∈es->D.scs n cells
 | .grow _ es=>∀ cells,cells∈es->D.scs n cells
 | .gone=>True
 | .lp _ _ _ E _ _ _=>∀ k d,lk E k=some d->d.sc n
 | .lost=>True
def Cx.cut(c:Cx)(n:Nat):Cx:={ c with ρ:=λβ=>if β<n then c.ρ β else none }
theorem zqL{n β:Nat}(h:β<n):(c.cut n).ρ β=c.ρ β:=by simp[Cx.cut,h]
theorem R.cut{n:Nat}{d:D}{v:V}(hr:R c d v)(hs:d.sc n):R (c.cut n) d v:=by
 have aux:∀ {c d v},R c d v->∀ {n:Nat},d.sc n->R (c.cut n) d v:=by
  intro c d v hr;induction hr with
  | any v=>intro n _; exact .any v
  | lit v=>intro n _; exact .lit v
  | ptr h1=>grind [Go.Lx.D.sc,Go.Lx.R,Go.Lx.Cx.cut]
  | eptr h1 h2=>grind [Go.Lx.D.sc,Go.Lx.R,Go.Lx.Cx.cut]
  | sl h1 h2=>grind [Go.Lx.D.sc,Go.Lx.R,Go.Lx.Cx.cut]
  | slg h1=>grind [Go.Lx.D.sc,Go.Lx.R,Go.Lx.Cx.cut]
  | fz h1 h2 h3 h4 h5 h6 ih=>intro n _; exact .fz h1 h2 h3 h4 h5 h6
  | fz0=>intro n _; exact .fz0
  | fzn=>intro n _; exact .fzn
  | z0 h1 h2=>intro n _; exact .z0 h1 h2
  | z0n=>intro n _; exact .z0n
  | fptr h1 h2 h3 ih=>intro n _; exact .fptr h1 h2 h3
  | clo h1 h2 _ _ ih1 ih2=>grind [znC,Go.Lx.D.sc,Go.Lx.R]
  | yld h1=>grind [Go.Lx.D.sc,Go.Lx.R,Go.Lx.Cx.cut]
  | ifc _ ih=>intro n hs; exact .ifc (ih hs)
  | agg h1 _ ih=>grind [znC,Go.Lx.D.sc,Go.Lx.R]
  | tup h1 _ ih=>grind [znC,Go.Lx.D.sc,Go.Lx.R]
 exact aux hr hs
theorem Rs.cut{n:Nat}{ds:List D}{vs:List V}(hr:Rs c ds vs)(hs:∀ d,d∈ds->d.sc n):Rs (c.cut n) ds vs:=⟨hr.1,λi d v h1 h2=>(hr.2 i d v h1 h2).cut (hs d (qaC h1))⟩
def zyC(E:List (Nat×D))(n:Nat):List (Nat×D)->Prop
 | []=>True
 |(k,d):: r=>(lk E k=some d/\d.sc n)/\zyC E n r
variable{E E':List (Nat×D)}
theorem zzf{n:Nat}(h:zyC E n E'){k:Nat}{d:D}(hk:lk E' k=some d):lk E k=some d/\d.sc n:=by
 induction E'<;>grind [lk,zyC]
def zdo(n:Nat):List LB->Prop
 | []=>True
 | b :: r=>b.sc n/\zdo n r
theorem zk6{n:Nat}:∀ {L:List LB},zdo n L->∀ {i:Nat} {b:LB},L[i]? = some b->b.sc n
 | [],_,i,b,h=>by simp at h
 | e :: r,hs,0,b,h=>by simp at h; subst h; exact hs.1
 | e :: r,hs,i+1,b,h=>zk6 hs.2 (by simpa using h)
theorem ze4.cut{H:zam}{n β:Nat}{lb:LB}(hβ:β<n)(h:ze4 c H β lb)(hs:lb.sc n):ze4 (c.cut n) H β lb:=by
 cases lb with
 | cells ds=>
  grind [zqL,zmE,Rs.cut,Go.Lx.ze4,Go.Lx.LB.sc]
 | els m es=>
  obtain⟨h0,⟨g1,g2⟩| ⟨b,vs,h1,h2,h3⟩⟩:=h
  .grind [Go.Lx.ze4,Go.Lx.Cx.cut]
  .grind [zqL,qcM,zmE,Rs.cut,Go.Lx.ze4,Go.Lx.LB.sc,Go.Lx.Els]
 | grow m es=>
  obtain⟨h0,⟨g1,g2⟩| ⟨g0,b,vs,h1,h2,h3⟩⟩:=h
  .grind [Go.Lx.ze4,Go.Lx.Cx.cut]
  .grind [zqL,qcM,zmE,Rs.cut,Go.Lx.ze4,Go.Lx.LB.sc,Go.Lx.Els]
 | gone=>show(c.cut n).ρ β=none; rw[zqL hβ]; exact h
 | lp st pend N E ps asg body=>
  obtain⟨b,env,h1,h2,h3,h4⟩:=h;refine⟨b,env,by rw[zqL hβ]; exact h1,h2,h3,λk d hk=>?_⟩;obtain⟨v,g1,g2⟩:=h4 k d hk;exact⟨v,g1,g2.cut (hs k d hk)⟩
 | lost=>
  grind [zqL,Go.Lx.ze4]
theorem zym{H:zam}(n:Nat):Step c H (c.cut n) H:=⟨qap _,rfl,rfl,λ_ _ h=>h,λ_ _ _=>rfl,λβ x b hx hb=>(by
 simp only[Cx.cut]at hx;split at hx
 .grind
 cases hx),λ_ h=>h⟩
theorem zbi.cut{N:Nat}{E E':List (Nat×D)}{L R':List LB}(hk:k0<=L.length)(he:zyC E L.length E')(hs:zdo L.length L):zbi k0 ⟨N,E,L ++ R'⟩ ⟨N,E',L⟩:=by
 intro c M h;refine⟨c.cut L.length,⟨λk d hkd=>?_,h.len,⟨h.heap.base,h.heap.za,h.heap.zf,?_,?_,?_,?_⟩⟩,zym _,⟨λ_ _ h=>h,λ_ _ h=>h,λβ x hβ hx=>⟨x,by rw[zqL (by omega)]; exact hx,Lc.up.refl x⟩⟩⟩
 .obtain⟨g1,g2⟩:=zzf he hkd;obtain⟨v,g3,g4⟩:=h.env k d g1;exact⟨v,g3,g4.cut g2⟩
 .intro β x b hx hb;simp only[Cx.cut]at hx;split at hx
  .exact h.heap.own β x b hx hb
  cases hx
 .intro β β' x x' b hx hx' hb hb';simp only[Cx.cut]at hx hx';split at hx
  .split at hx'
   .exact h.heap.inj β β' x x' b hx hx' hb hb'
   cases hx'
  cases hx
 .grind [Cx.cut]
 intro β o ho;have hβ:β<L.length:=(qab.1 ho).1;exact(h.heap.obj β o (by rw[qar hβ]; exact ho)).cut hβ (zk6 hs ho)
theorem zbi.env{N:Nat}{E E':List (Nat×D)}{L:List LB}(he:∀ k d,lk E' k=some d->lk E k=some d):zbi k0 ⟨N,E,L⟩ ⟨N,E',L⟩:=
 λc M h=>⟨c,⟨λk d hk=>h.env k d (he k d hk),h.len,h.heap⟩,Step.refl _ _,Cx.leK.refl _ _⟩
def zrL(E:List (Nat×D)):List (Nat×D)->Prop
 | []=>True
 |(k,d):: r=>lk E k=some d/\zrL E r
theorem zuS(h:zrL E E'){k:Nat}{d:D}(hk:lk E' k=some d):lk E k=some d:=by
 induction E'<;>grind [lk,zrL]
theorem zbi.sub{N:Nat}{L:List LB}(he:zrL E E'):zbi k0 ⟨N,E,L⟩ ⟨N,E',L⟩:=zbi.env λk d hk=>zuS he hk
theorem zbi.ghost{N n k:Nat}{E:List (Nat×D)}{L:List LB}(hn:0<n)(hk:lk E k=some (.lit (.slice none 0 0))):zbi k0 ⟨N,E,L⟩ ⟨N,(k,.sl L.length 0 n 0 none 0):: E,L ++ [.grow n []]⟩:=by
 intro c M h;obtain⟨g1,g2,g3⟩:=h.heap.new (x:=.ghost) (lb:=.grow n []) (o:=[]) (.inl ⟨rfl,rfl⟩) λc' hle hρ=>⟨hn,.inl ⟨rfl,hρ⟩⟩
 rw[qaP]at g1 g2;refine⟨_,⟨λj d hj=>?_,h.len,g1⟩,g2,g3.leK k0⟩;simp only[lk]at hj;split at hj
 .grind [zbd,Go.Lx.R,Go.Lx.Rel]
 obtain⟨v,q1,q2⟩:=h.env j d hj;exact⟨v,q1,q2.mono g3⟩
end
end Go.Lx
