/-
 Trees: code. What must hold before a piece of code, computed as far as it goes. Conditions: none.
-/
import Derived.Test.YtbjogdohfhdaiaaCfJ24
set_option linter.unusedSimpArgs false
set_option linter.unusedVariables false
namespace Go.Lx
open Go Go.Mx
inductive LX where
 | normal
 | exit (id:Nat)
 | ret
 | panic (d:D)
inductive K where
 | code (c:C)
 | ops (bar e:Bool) (l:List O)
 | blk (id:Nat)
 | inv (J:LSt->Prop)
 | ex (id:Nat)
inductive KM where
 | code (c:C)
 | ops (bar e:Bool) (l:List O)
 | blk (id:Nat)
 | inv (J:St->Prop)
section
variable (fns:Mach) (B:Nat) (rd:Option Nat)
def zjo(p:(St->Prop)×(Ex->St->Prop)):Ex->St->Prop:=λex M=>match ex with
 | .normal=>p.1 M
 | ex=>p.2 ex M
def sem(Q:Ex->St->Prop):List KM->(St->Prop)×(Ex->St->Prop)
 | []=>(Q .normal,Q)
 | .code c :: k=>(λM=>EvC fns B rd c M (zjo (sem Q k)),(sem Q k).2)
 | .ops bar e l :: k=>(λM=>EvO fns B bar rd.isNone e l M (zjo (sem Q k)),(sem Q k).2)
 | .blk id :: k=>((sem Q k).1,λex M=>match ex with
  | .exit id'=>if id'=id then(sem Q k).1 M else(sem Q k).2 (.exit id') M
  | ex=>(sem Q k).2 ex M)
 | .inv J :: k=>(J,(sem Q k).2)
end
structure Cx.leK (k0:Nat) (c c':Cx):Prop where
 za:∀ b cs,c.za b=some cs->c'.za b=some cs
 zf:∀ b cs,c.zf b=some cs->c'.zf b=some cs
 ρ:∀ β x,β<k0->c.ρ β=some x->∃ x',c'.ρ β=some x'/\x.up x'
theorem Lc.up.trans{x y z:Lc}(h:x.up y)(h':y.up z):x.up z:=by
 cases x with
 | cell b=>cases h; exact h'
 | list b m=>
  rcases h with rfl | ⟨b1,m1,rfl,h1⟩
  .exact h'
  .rcases h' with rfl | ⟨b2,m2,rfl,h2⟩
   .exact .inr ⟨_,_,rfl,h1⟩
   .exact .inr ⟨_,_,rfl,by omega⟩
 | ghost=>
  rcases h with rfl | ⟨b1,m1,rfl,h1⟩
  .exact h'
  rcases h' with rfl | ⟨b2,m2,rfl,h2⟩
  .exact .inr ⟨_,_,rfl,h1⟩
  exact .inr ⟨_,_,rfl,by omega⟩
theorem Cx.leK.refl(k0:Nat)(c:Cx):c.leK k0 c:=⟨λ_ _ h=>h,λ_ _ h=>h,λβ x _ h=>⟨x,h,Lc.up.refl x⟩⟩
theorem Cx.leK.trans{k0:Nat}{c c' c'':Cx}(h:c.leK k0 c')(h':c'.leK k0 c''):c.leK k0 c'' where
 za b cs hb:=h'.za b cs (h.za b cs hb)
 zf b cs hb:=h'.zf b cs (h.zf b cs hb)
 ρ β x hk hx:=by
  obtain⟨x',h1,h2⟩:=h.ρ β x hk hx;obtain⟨x'',h3,h4⟩:=h'.ρ β x' hk h1;exact⟨x'',h3,h2.trans h4⟩
variable{c':Cx}
theorem Cx.le.leK{c:Cx}(h:c.le c')(k0:Nat):c.leK k0 c':=⟨h.za,h.zf,λβ x _ hx=>h.ρ β x hx⟩
def XR(c:Cx):LX->Ex->Prop
 | .normal,.normal=>True
 | .exit id,.exit id'=>id=id'
 | .ret,.ret=>True
 | .panic d,.panic v _=>R c d v
 | _,_=>False
structure Way (k0:Nat) (c0:Cx) (H0:zaj) (c:Cx) (M:St):Prop where
 step:Step c0 H0 c M.heap
 le:c0.leK k0 c
 dfs:ziF H0.length M.dfs M.heap
theorem Way.start(k0:Nat)(c:Cx)(env:List V)(H:zaj):Way k0 c H c ⟨env,[],H⟩:=⟨Step.refl _ _,Cx.leK.refl _ _,ziF.nil _ _⟩
variable{L:List LB}{H:zaj}
theorem RelH.dfr{c:Cx}(h:RelH c L H){d:Nat}(hd:H[d]? = some .dfr):∀ β x,c.ρ β=some x->x.blk≠some d:=by
 intro β x hx hb;have hβ:=h.scope β x hx;have hob:=h.obj β L[β] (qac hβ);cases hl:L[β]with
 | cells ds=>
  rw[hl]at hob;obtain⟨b,vs,h1,h2,_⟩:=hob;rw[hx]at h1;cases h1;cases hb;rw[h2]at hd;cases hd
 | els n es=>
  rw[hl]at hob;obtain⟨_,⟨_,h1⟩| ⟨b,vs,h1,h2,_⟩⟩:=hob
  .rw[hx]at h1;cases h1;cases hb
  .rw[hx]at h1;cases h1;cases hb;rw[h2]at hd;cases hd
 | grow n es=>
  rw[hl]at hob;obtain⟨_,⟨_,h1⟩| ⟨_,b,vs,h1,h2,_⟩⟩:=hob
  .rw[hx]at h1;cases h1;cases hb
  .rw[hx]at h1;cases h1;cases hb;rw[h2]at hd;cases hd
 | gone=>
  rw[hl]at hob;have hob':c.ρ β=none:=hob;rw[hx]at hob';cases hob'
 | lp st pend N E ps asg body=>
  rw[hl]at hob;obtain⟨b,env,h1,h2,_⟩:=hob;rw[hx]at h1;cases h1;cases hb;rw[h2]at hd;cases hd
 | lost=>
  rw[hl]at hob;obtain⟨b,h1,h2⟩:=hob;rw[hx]at h1;cases h1;cases hb;rw[h2]at hd;cases hd
theorem ziF.step{n:Nat}{dfs:List Df}{c:Cx}{H':zaj}(h:ziF n dfs H)(hH:RelH c L H)(hs:Step c H c' H'):ziF n dfs H':=by
 obtain⟨l,h1,h2,h3⟩:=h;refine⟨l,h1,h2,λd hd=>⟨(h3 d hd).1,?_⟩⟩;have h4:=(h3 d hd).2;rw[hs.zev d (qab.1 h4).1 (hH.dfr h4)];exact h4
theorem Way.go{k0:Nat}{c0 c:Cx}{H0:zaj}{M M':St}(h:Way k0 c0 H0 c M)(hs:Step c M.heap c' M'.heap)(hl:c.le c')(hH:RelH c L M.heap)(hd:M'.dfs=M.dfs):Way k0 c0 H0 c' M':=
 ⟨h.step.trans hs,h.le.trans (hl.leK k0),by rw[hd]; exact h.dfs.step hH hs⟩
theorem RelH.kill{c:Cx}{H':zaj}(h:RelH c L H)(hl:H'.length=H.length)(hk:∀ b:Nat,H[b]?≠some Ob.dfr->H'[b]? = H[b]?):RelH c L H':=by
 have blk:∀ {b:Nat} {cs:List V},H[b]? = some (.blk cs)->H'[b]? = some (.blk cs):=λ{b cs} hb=>by rw[hk b (by rw[hb]; intro h; cases h)]; exact hb
 refine⟨by rw[hl]; exact h.base,λb cs hb=>⟨(h.za b cs hb).1,blk (h.za b cs hb).2⟩,λb cs hb=>⟨(h.zf b cs hb).1,blk (h.zf b cs hb).2⟩,λβ x b hx hb=>?_,h.inj,h.scope,λβ o ho=>?_⟩
 .obtain⟨h1,h2,h3⟩:=h.own β x b hx hb;exact⟨h1,by rw[hl]; exact h2,h3⟩
 have hob:=h.obj β o ho;cases o with
 | cells ds=>obtain⟨b,vs,h1,h2,h3⟩:=hob; exact⟨b,vs,h1,blk h2,h3⟩
 | els n es=>
  obtain⟨h0,h1 | ⟨b,vs,h1,h2,h3⟩⟩:=hob
  .exact⟨h0,.inl h1⟩
  .exact⟨h0,.inr ⟨b,vs,h1,blk h2,h3⟩⟩
 | grow n es=>
  obtain⟨h0,h1 | ⟨g0,b,vs,h1,h2,h3⟩⟩:=hob
  .exact⟨h0,.inl h1⟩
  .exact⟨h0,.inr ⟨g0,b,vs,h1,blk h2,h3⟩⟩
 | gone=>exact hob
 | lp st pend N E ps asg body=>
  obtain⟨b,env,h1,h2,h3⟩:=hob;exact⟨b,env,h1,by rw[hk b (by rw[h2]; intro h; cases h)]; exact h2,h3⟩
 | lost=>obtain⟨b,h1,h2⟩:=hob; exact⟨b,h1,by rw[hk b (by rw[h2]; intro h; cases h)]; exact h2⟩
theorem Way.leave{k0 B:Nat}{c0 c:Cx}{H0:zaj}{M:St}(h:Way k0 c0 H0 c M)(hr:RelH c L M.heap)(hB:B<=H0.length):∃ H',Leaves B M.dfs M.heap H'/\RelH c L H'/\Step c0 H0 c H':=by
 obtain⟨H',h1,h2,h3,h4⟩:=h.dfs.leaves hB
 refine⟨H',h1,hr.kill h2 h3,⟨by rw[h2]; exact h.step.len,h.step.za,h.step.base,h.step.zf,λb hb hn=>?_,h.step.own,λb hb=>(h.step.lp b hb).zev (h3 b (by
  obtain⟨_,_,_,_,_,_,h9⟩:=h.step.lp b hb
  rw[h9]; intro h; cases h))⟩⟩
 rw[h4 b hb];exact h.step.zev b hb hn
def zrq(k0:Nat)(c0:Cx)(H0:zaj)(Q:LX->LSt->Prop):Ex->St->Prop:=λex M=>∃ c' S' x,Way k0 c0 H0 c' M/\Rel c' S' M/\XR c' x ex/\Q x S'
def toM(k0:Nat)(c0:Cx)(H0:zaj):K->KM
 | .code c=>.code c
 | .ops bar e l=>.ops bar e l
 | .blk id=>.blk id
 | .inv J=>.inv λM=>∃ c' S',Way k0 c0 H0 c' M/\Rel c' S' M/\J S'
 | .ex id=>.code (.exit id)
def zzr(rd:Option Nat)(H:zaj):Prop:=∀ l,rd=some l->zvg H l
theorem zzr.none(H:zaj):zzr none H:=λl h=>(by cases h)
def EvL(fns:Mach)(k0:Nat)(k:List K)(S:LSt)(Q:LX->LSt->Prop):Prop:=
 ∀(c0:Cx) (H0:zaj) (c:Cx) (B:Nat) (rd:Option Nat) (M:St),zzr rd H0->Way k0 c0 H0 c M->Rel c S M->B<=c.base->(sem fns B rd (zrq k0 c0 H0 Q) (k.map (toM k0 c0 H0))).1 M
def zmz(want:Bool):Option D->Option Bool
 | some (.lit (.bool b))=>some (bif want then b else !b)
 | some (.lit (.tuple _))=>some false
 | _=>none
def zbn(E:List (Nat×D)):Option (Nat×Bool)->Option Bool
 | none=>some true
 | some (k,want)=>zmz want (lk E k)
def zj9:D:=.lit (.tuple #[])
def LSt.put(S:LSt):Option Nat->D->Option LSt
 | some k,v=>if k<S.N then some ⟨S.N,(k,v):: S.env,S.heap⟩else none
 | none,_=>some S
def LSt.zzI(S:LSt)(d:Option Nat):Option D->Option LSt
 | some v=>S.put d v
 | none=>none
def LSt.zBe(S:LSt)(d:Option Nat):Option (D×List LB)->Option LSt
 | some (v,L)=>LSt.put ⟨S.N,S.env,L⟩ d v
 | none=>none
def doI(S:LSt)(d:Option Nat)(i:I):Option LSt:=
 match zag i with
 | true=>S.zzI d (qL S.heap S.env i)
 | false=>S.zBe d (zhQ S.heap S.env i)
def zmE(S:LSt)(d:Option Nat)(i:I):Option Bool->Option LSt
 | some true=>doI S d i
 | some false=>S.put d zj9
 | none=>none
def zb8:I->Bool
 | .call .. | .zdV .. | .panic .. | .defer .. | .recover | .slcA ..=>true
 | _=>false
def zoE:Option Bool->C->C->C
 | some true,a,_=>a
 | some false,_,b=>b
 | none,_,_=>.bad
def wC:C->Nat
 | .seq a b=>wC a+wC b+4
 | .cond _ a b=>wC a+wC b+4
 | .block _ c=>wC c+4
 | .scope c=>wC c+4
 | .reg _ _ l=>l.length+4
 | _=>4
theorem zwX(c:C):4<=wC c:=by cases c<;>simp[wC]
theorem zx5(o:Option Bool)(a b:C):wC (zoE o a b)<wC a+wC b:=by
 have h1:=zwX a;have h2:=zwX b;cases o with
 | none=>simp[zoE,wC]; omega
 | some t=>cases t<;>simp[zoE]<;>omega
def wK:List K->Nat
 | []=>0
 | .code c :: k=>wC c+1+wK k
 | .ops _ _ l :: k=>l.length+2+wK k
 | .blk _ :: k=>2+wK k
 | .inv _ :: k=>2+wK k
 | .ex _ :: k=>1+wK k
def wp(fns:Mach)(k0:Nat):List K->Option LSt->(LX->LSt->Prop)->Prop
 | _,none,_=>False
 | [],some S,Q=>Q .normal S
 | .inv J :: _,some S,_=>J S
 | .blk _ :: k,some S,Q=>wp fns k0 k (some S) Q
 | .ex id :: [],some S,Q=>Q (.exit id) S
 | .ex id :: .blk id' :: k,some S,Q=>if id=id' then wp fns k0 k (some S) Q else wp fns k0 (.ex id :: k) (some S) Q
 | .ex id :: .inv _ :: k,some S,Q=>wp fns k0 (.ex id :: k) (some S) Q
 | .ex id :: .code _ :: k,some S,Q=>wp fns k0 (.ex id :: k) (some S) Q
 | .ex id :: .ops _ _ _ :: k,some S,Q=>wp fns k0 (.ex id :: k) (some S) Q
 | .ex id :: .ex _ :: k,some S,Q=>wp fns k0 (.ex id :: k) (some S) Q
 | .ops _ _ []:: k,some S,Q=>wp fns k0 k (some S) Q
 | .ops bar e (⟨d,i,g⟩:: l):: k,some S,Q=>match zb8 i with
  | true=>EvL fns k0 (.ops bar e (⟨d,i,g⟩:: l):: k) S Q
  | false=>wp fns k0 (.ops bar e l :: k) (zmE S d i (zbn S.env g)) Q
 | .code (.seq a b):: k,some S,Q=>wp fns k0 (.code a :: .code b :: k) (some S) Q
 | .code (.cond x a b):: k,some S,Q=>wp fns k0 (.code (zoE (zf2 (evD S.env x)) a b):: k) (some S) Q
 | .code (.block id c):: k,some S,Q=>wp fns k0 (.code c :: .blk id :: k) (some S) Q
 | .code (.reg dr bar l):: k,some S,Q=>wp fns k0 (.ops bar (!dr) l :: k) (some S) Q
 | .code (.scope c):: k,some S,Q=>EvL fns k0 (.code (.scope c):: k) S Q
 | .code .skip :: k,some S,Q=>wp fns k0 k (some S) Q
 | .code (.label _):: k,some S,Q=>wp fns k0 k (some S) Q
 | .code .ret :: _,some S,Q=>Q .ret S
 | .code (.exit id):: k,some S,Q=>wp fns k0 (.ex id :: k) (some S) Q
 | .code (.loop c):: k,some S,Q=>EvL fns k0 (.code (.loop c):: k) S Q
 | .code (.zeG x ps a b):: k,some S,Q=>EvL fns k0 (.code (.zeG x ps a b):: k) S Q
 | .code .bad :: _,some _,_=>False
termination_by k=>wK k
decreasing_by
 all_goals simp only[wK,wC,qaH]
 all_goals first | omega | (have:=zx5 (zf2 (evD S.env x)) a b; omega)
section
variable {fns:Mach} {k0:Nat} {Q:LX->LSt->Prop} {c:Cx} {S:LSt} {M:St} {B:Nat} {rd:Option Nat}
variable{g:Option (Nat×Bool)}
theorem zcI(h:Rel c S M){b:Bool}(hw:zbn S.env g=some b):wanted M.env g=b:=by
 cases g with
 | none=>cases hw; rfl
 | some x=>
  obtain⟨k,want⟩:=x;simp only[zbn]at hw;cases hl:lk S.env k with
  | none=>rw[hl]at hw; cases hw
  | some d=>
   rw[hl]at hw;obtain⟨v,g1,g2⟩:=h.env k d hl;unfold zmz at hw;split at hw
   .rename_i t heq;cases heq;cases hw;cases zhJ g2;cases want<;>cases t<;>simp[wanted,g1]
   .rename_i t heq;cases heq;cases hw;cases zhJ g2;simp[wanted,g1]
   cases hw
theorem zdW{c':Cx}{L:List LB}{H:zaj}(h:Rel c S M)(hle:c.le c')(hH:RelH c' L H){k:Option Nat}{d:D}{v:V}(hr:R c' d v){S':LSt}(hp:LSt.put ⟨S.N,S.env,L⟩ k d=some S'):Rel c' S' (St.put { M with heap:=H } k v):=by
 have h0:Rel c' ⟨S.N,S.env,L⟩ { M with heap:=H }:=⟨λk d hk=>by obtain⟨v,g1,g2⟩:=h.env k d hk; exact⟨v,g1,g2.mono hle⟩,h.len,hH⟩;cases k with
 | none=>cases hp; exact h0
 | some k=>
  simp only[LSt.put]at hp;split at hp
  .rename_i hk;cases hp;refine⟨λj e hj=>?_,by simp[St.put]; exact h.len,hH⟩;simp only[lk]at hj;split at hj
   .rename_i he;subst he;cases hj;exact⟨v,by simp[St.put,h.len,hk],hr⟩
   rename_i he;obtain⟨u,g1,g2⟩:=h0.env j e hj;exact⟨u,by simp only[St.put]; rw[qar he]; exact g1,g2⟩
  cases hp
theorem Rel.le0(h:Rel c S M):c.le c:=⟨λ_ _ h=>h,λ_ _ h=>h,λβ y hy=>⟨y,hy,Lc.up.refl y⟩,h.heap.apart⟩
theorem zdE{k:List KM}{QM:Ex->St->Prop}{d:Option Nat}{i:I}{l:List O}{bar e:Bool}(h:Rel c S M)(hB:B<=c.base)(hc:zb8 i=false){S':LSt}(hs:zmE S d i (zbn S.env g)=some S')(hk:∀ c' M',Step c M.heap c' M'.heap->c.le c'->M'.dfs=M.dfs->c'.base=c.base->Rel c' S' M'->EvO fns B bar rd.isNone e l M' (zjo (sem fns B rd QM k))):EvO fns B bar rd.isNone e (⟨d,i,g⟩:: l) M (zjo (sem fns B rd QM k)):=by
 cases hw:zbn S.env g with
 | none=>rw[hw]at hs; cases hs
 | some b=>
  rw[hw]at hs;have hw':=zcI h hw;cases b with
  | false=>exact EvO.skip hw' (hk c _ (by cases d<;>exact Step.refl _ _) h.le0 (by cases d<;>rfl) rfl (zdW (L:=S.heap) (H:=M.heap) h h.le0 h.heap (.lit _) hs))
  | true=>
   simp only[zmE,doI]at hs;cases hq:zag i with
   | true=>
    rw[hq]at hs;simp only at hs;cases hv:qL S.heap S.env i with
    | none=>rw[hv]at hs; cases hs
    | some v=>
     rw[hv]at hs;obtain⟨u,g1,g2⟩:=zve h hv;exact EvO.quiet hw' hq g1 (hk c _ (by cases d<;>exact Step.refl _ _) h.le0 (by cases d<;>rfl) rfl (zdW (L:=S.heap) (H:=M.heap) h h.le0 h.heap g2 hs))
   | false=>
    rw[hq]at hs;simp only at hs;cases hv:zhQ S.heap S.env i with
    | none=>rw[hv]at hs; cases hs
    | some x=>
     obtain⟨v,L'⟩:=x;rw[hv]at hs;obtain⟨u,H',c',g1,g2,g3,g4,g5⟩:=zqy h hB hv;exact EvO.eff hw' hq g1 (hk c' _ (by cases d<;>exact g3) g4 (by cases d<;>rfl) g3.base (zdW h g4 g2 g5 hs))
theorem EvC.zeH{id:Nat}{P:Ex->St->Prop}(h:EvC fns B rd (.exit id) M P):P (.exit id) M:=by
 obtain⟨N,ex,S',h1,h2⟩:=h;have:=h1 N (qap _);simp only[exec,qad,qag]at this;obtain⟨rfl,rfl⟩:=this;exact h2
theorem ztY(k:List K)(o:Option LSt)(Q:LX->LSt->Prop):wp fns k0 k o Q->∀ S,o=some S->EvL fns k0 k S Q:=by
 induction k,o,Q using wp.induct with
 | case1=>intro h; simp only[wp]at h
 | case2 S Q=>
  intro h S' hS; cases hS;simp only[wp]at h;intro c0 H0 c B rd M hd hw hr hB;exact⟨c,S,.normal,hw,hr,qdk,h⟩
 | case3 J k S Q=>
  intro h S' hS; cases hS;simp only[wp]at h;intro c0 H0 c B rd M hd hw hr hB;exact⟨c,S,hw,hr,h⟩
 | case4 id k S Q ih=>
  intro h S' hS; cases hS;simp only[wp]at h;intro c0 H0 c B rd M hd hw hr hB;exact ih h S rfl c0 H0 c B rd M hd hw hr hB
 | case5 id S Q=>
  intro h S' hS; cases hS;simp only[wp]at h;intro c0 H0 c B rd M hd hw hr hB;exact EvC.exit ⟨c,S,.exit id,hw,hr,rfl,h⟩
 | case6 id k S Q ih=>
  intro h S' hS; cases hS;simp only[wp,if_true]at h;intro c0 H0 c B rd M hd hw hr hB;refine EvC.exit ?_;simp only[zjo,sem,qaS,toM,if_true];exact ih h S rfl c0 H0 c B rd M hd hw hr hB
 | case7 id id' k S Q hne ih=>
  intro h S' hS; cases hS;simp only[wp,if_neg hne]at h;intro c0 H0 c B rd M hd hw hr hB;refine EvC.exit ?_;simp only[zjo,sem,qaS,toM,if_neg hne];have h1:=(EvC.zeH (ih h S rfl c0 H0 c B rd M hd hw hr hB):);exact h1
 | case8 id J k S Q ih=>
  intro h S' hS; cases hS;simp only[wp]at h;intro c0 H0 c B rd M hd hw hr hB;exact EvC.exit (EvC.zeH (ih h S rfl c0 H0 c B rd M hd hw hr hB):)
 | case9 id x k S Q ih=>
  intro h S' hS; cases hS;simp only[wp]at h;intro c0 H0 c B rd M hd hw hr hB;exact EvC.exit (EvC.zeH (ih h S rfl c0 H0 c B rd M hd hw hr hB):)
 | case10 id bar e l k S Q ih=>
  intro h S' hS; cases hS;simp only[wp]at h;intro c0 H0 c B rd M hd hw hr hB;exact EvC.exit (EvC.zeH (ih h S rfl c0 H0 c B rd M hd hw hr hB):)
 | case11 id id' k S Q ih=>
  intro h S' hS; cases hS;simp only[wp]at h;intro c0 H0 c B rd M hd hw hr hB;exact EvC.exit (EvC.zeH (ih h S rfl c0 H0 c B rd M hd hw hr hB):)
 | case12 bar e k S Q ih=>
  intro h S' hS; cases hS;simp only[wp]at h;intro c0 H0 c B rd M hd hw hr hB;exact EvO.nil (ih h S rfl c0 H0 c B rd M hd hw hr hB)
 | case13 bar e d i g l k S Q hi=>
  intro h S' hS; cases hS;rw[wp]at h;simp only[hi]at h;exact h
 | case14 bar e d i g l k S Q hi ih=>
  intro h S' hS; cases hS;rw[wp]at h;simp only[hi]at h;intro c0 H0 c B rd M hd hw hr hB;cases hs:zmE S d i (zbn S.env g)with
  | none=>rw[hs]at h; rw[wp]at h; cases h
  | some S'=>
   refine zdE hr hB hi hs λc' M' hstep hle hdd hb hr'=>?_
   exact ih h S' hs c0 H0 c' B rd M' hd (hw.go hstep hle hr.heap hdd) hr' (by rw[hb]; exact hB)
 | case15 a b k S Q ih=>
  intro h S' hS; cases hS;simp only[wp]at h;intro c0 H0 c B rd M hd hw hr hB;have:=ih h S rfl c0 H0 c B rd M hd hw hr hB;refine EvC.seq (EvC.mono this λex M' hx=>?_);cases ex<;>exact hx
 | case16 x a b k S Q ih=>
  intro h S' hS; cases hS;simp only[wp]at h;intro c0 H0 c B rd M hd hw hr hB;have:=ih h S rfl c0 H0 c B rd M hd hw hr hB;cases hb:zf2 (evD S.env x)with
  | none=>
   rw[hb]at this;obtain⟨N,ex,S',h1,h2⟩:=this;have:=h1 N (qap _);simp[zoE,exec]at this
  | some t=>
   rw[hb]at this;refine EvC.cond (zfD hr hb) ?_;cases t<;>exact this
 | case17 id x k S Q ih=>
  intro h S' hS; cases hS;simp only[wp]at h;intro c0 H0 c B rd M hd hw hr hB;have:=ih h S rfl c0 H0 c B rd M hd hw hr hB;refine EvC.block (EvC.mono this λex M' hx=>?_);cases ex with
  | exit id'=>
   simp only[zjo,sem,qaS,toM]at hx ⊢;exact hx
  | normal=>exact hx
  | ret=>exact hx
  | panic v e=>exact hx
 | case18 dr bar l k S Q ih=>
  intro h S' hS; cases hS;simp only[wp]at h;intro c0 H0 c B rd M hd hw hr hB;exact EvC.reg (ih h S rfl c0 H0 c B rd M hd hw hr hB)
 | case19 x k S Q=>
  intro h S' hS; cases hS;simp only[wp]at h;exact h
 | case20 k S Q ih=>
  intro h S' hS; cases hS;simp only[wp]at h;intro c0 H0 c B rd M hd hw hr hB;exact EvC.skip (ih h S rfl c0 H0 c B rd M hd hw hr hB)
 | case21 l k S Q ih=>
  intro h S' hS; cases hS;simp only[wp]at h;intro c0 H0 c B rd M hd hw hr hB;exact EvC.label (ih h S rfl c0 H0 c B rd M hd hw hr hB)
 | case22 k S Q=>
  intro h S' hS; cases hS;simp only[wp]at h;intro c0 H0 c B rd M hd hw hr hB;refine EvC.ret ?_;have:∀ k:List KM,(sem fns B rd (zrq k0 c0 H0 Q) k).2 .ret M=zrq k0 c0 H0 Q .ret M:=by
   intro k;induction k with
   | nil=>rfl
   | cons x k ih=>cases x<;>exact ih
  show(sem fns B rd (zrq k0 c0 H0 Q) (k.map (toM k0 c0 H0))).2 .ret M;rw[this];exact⟨c,S,.ret,hw,hr,qdk,h⟩
 | case23 id k S Q ih=>
  intro h S' hS; cases hS;simp only[wp]at h;intro c0 H0 c B rd M hd hw hr hB;exact ih h S rfl c0 H0 c B rd M hd hw hr hB
 | case24 x k S Q=>
  intro h S' hS; cases hS;simp only[wp]at h;exact h
 | case25 x ps a b k S Q=>
  intro h S' hS; cases hS;simp only[wp]at h;exact h
 | case26=>intro h; simp only[wp]at h
theorem zab{k:List K}(h:wp fns k0 k (some S) Q):EvL fns k0 k S Q:=ztY k (some S) Q h S rfl
end
def zaT(k0:Nat)(S S':LSt):Prop:=∀ c M,Rel c S M->∃ c',Rel c' S' M/\Step c M.heap c' M.heap/\c.leK k0 c'
theorem zaT.refl(k0:Nat)(S:LSt):zaT k0 S S:=λc M h=>⟨c,h,Step.refl _ _,Cx.leK.refl _ _⟩
theorem zaT.trans{k0:Nat}{S S' S'':LSt}(h:zaT k0 S S')(h':zaT k0 S' S''):zaT k0 S S'':=λc M hr=>by
 obtain⟨c1,h1,h2,h3⟩:=h c M hr;obtain⟨c2,g1,g2,g3⟩:=h' c1 M h1;exact⟨c2,g1,h2.trans g2,h3.trans g3⟩
section
variable {fns:Mach} {k0:Nat} {Q:LX->LSt->Prop} {c:Cx} {S S':LSt} {M:St} {B:Nat} {rd:Option Nat}
theorem EvL.zjG{k:List K}(hw:zaT k0 S S')(h:EvL fns k0 k S' Q):EvL fns k0 k S Q:=by
 intro c0 H0 c B rd M hd hway hr hB;obtain⟨c1,h1,h2,h3⟩:=hw c M hr;exact h c0 H0 c1 B rd M hd ⟨hway.step.trans h2,hway.le.trans h3,hway.dfs⟩ h1 (by rw[h2.base]; exact hB)
theorem zwl{k:List KM}{QM QM':Ex->St->Prop}(h:∀ ex M,QM ex M->QM' ex M):(∀ M,(sem fns B rd QM k).1 M->(sem fns B rd QM' k).1 M)/\(∀ ex M,(sem fns B rd QM k).2 ex M->(sem fns B rd QM' k).2 ex M):=by
 induction k with
 | nil=>exact⟨λM hm=>h _ _ hm,h⟩
 | cons x k ih=>
  have ht:∀ ex M,zjo (sem fns B rd QM k) ex M->zjo (sem fns B rd QM' k) ex M:=by
   intro ex M hx;cases ex with
   | normal=>exact ih.1 _ hx
   | exit id=>exact ih.2 _ _ hx
   | ret=>exact ih.2 _ _ hx
   | panic v e=>exact ih.2 _ _ hx
  cases x with
  | code c=>exact⟨λM hm=>EvC.mono hm ht,ih.2⟩
  | ops bar e l=>exact⟨λM hm=>by obtain⟨N,ex,S',h1,h2⟩:=hm; exact⟨N,ex,S',h1,ht _ _ h2⟩,ih.2⟩
  | blk id=>
   refine⟨ih.1,λex M hm=>?_⟩;cases ex with
   | exit id'=>
    simp only[sem]at hm ⊢;split at hm
    .rename_i he; rw[if_pos he]; exact ih.1 _ hm
    .rename_i he; rw[if_neg he]; exact ih.2 _ _ hm
   | normal=>exact ih.2 _ _ hm
   | ret=>exact ih.2 _ _ hm
   | panic v e=>exact ih.2 _ _ hm
  | inv J=>exact⟨λM hm=>hm,ih.2⟩
theorem EvL.mono{k:List K}{Q':LX->LSt->Prop}(h:EvL fns k0 k S Q)(hq:∀ x S',Q x S'->Q' x S'):EvL fns k0 k S Q':=by
 intro c0 H0 c B rd M hd hway hr hB;refine(zwl ?_).1 M (h c0 H0 c B rd M hd hway hr hB);rintro ex M' ⟨c',S',x,h1,h2,h3,h4⟩;exact⟨c',S',x,h1,h2,h3,hq _ _ h4⟩
theorem EvL.loop{α:Type}{x:C}{k:List K}(St:α->LSt)(P:α->Prop)(μ:α->Nat)(a0:α)(h0:zaT k0 S (St a0))(hp:P a0)
  (hstep:∀ a,P a->EvL fns k0 (.code x :: .inv (λS'=>∃ a',P a'/\μ a'<μ a/\zaT k0 S' (St a')):: k) (St a) Q):EvL fns k0 (.code (.loop x):: k) S Q:=by
 refine EvL.zjG h0 ?_;have key:∀ n a,μ a=n->P a->EvL fns k0 (.code (.loop x):: k) (St a) Q:=by
  intro n;induction n using Nat.strongRecOn with
  | _ n ih=>
   intro a ha hP c0 H0 c B rd M hd hway hr hB;have h1:=hstep a hP c0 H0 c B rd M hd hway hr hB;refine EvC.loop (EvC.mono h1 λex M' hx=>?_);cases ex with
   | normal=>
    obtain⟨c',S',g1,g2,a',g3,g4,g5⟩:=hx;obtain⟨c2,k1,k2,k3⟩:=g5 c' M' g2;refine ih (μ a') (by omega) a' rfl g3 c0 H0 c2 B rd M' hd ⟨g1.step.trans k2,g1.le.trans k3,g1.dfs⟩ k1 ?_;rw[k2.base,g1.step.base,<- hway.step.base];exact hB
   | exit id=>exact hx
   | ret=>exact hx
   | panic v e=>exact hx
 exact key _ a0 rfl hp
mutual
def D.sc(n:Nat):D->Prop
 | .ptr β _=>β<n
 | .eptr β _ _ _ _=>β<n
 | .sl β _ _ _ _ _=>β<n
 | .yld β=>β<n
 | .clo _ xs ys=>D.scs n xs/\D.scs n ys
 | .ifc _ d=>d.sc n
 | .agg ds=>D.scs n ds
 | .tup ds=>D.scs n ds
 | .any=>True
 | .lit _=>True
 | .fptr _ _=>True
 | .fz _ _ _=>True
 | .z0 _ _=>True
def D.scs(n:Nat):List D->Prop
 | []=>True
 | d :: r=>d.sc n/\D.scs n r
end
theorem zik{n:Nat}:∀ {ds:List D},D.scs n ds->∀ {i:Nat} {d:D},ds[i]? = some d->d.sc n
 | [],_,i,d,h=>by simp at h
 | e :: r,hs,0,d,h=>by simp at h; subst h; exact hs.1
 | e :: r,hs,i+1,d,h=>zik hs.2 (by simpa using h)
theorem zk8{n:Nat}:∀ {ds:List D},D.scs n ds↔∀ d,d∈ds->d.sc n
 | []=>by simp[D.scs]
 | e :: r=>by simp[D.scs,zk8 (ds:=r)]
def LB.sc(n:Nat):LB->Prop
 | .cells ds=>D.scs n ds
 | .els _ es=>∀ cells,cells∈es->D.scs n cells
 | .grow _ es=>∀ cells,cells∈es->D.scs n cells
 | .gone=>True
 | .lp _ _ _ E _ _ _=>∀ k d,lk E k=some d->d.sc n
 | .lost=>True
def Cx.cut(c:Cx)(n:Nat):Cx:={ c with ρ:=λβ=>if β<n then c.ρ β else none }
theorem zgJ{n β:Nat}(h:β<n):(c.cut n).ρ β=c.ρ β:=by simp[Cx.cut,h]
theorem R.cut{n:Nat}{d:D}{v:V}(hr:R c d v)(hs:d.sc n):R (c.cut n) d v:=by
 have aux:∀ {c d v},R c d v->∀ {n:Nat},d.sc n->R (c.cut n) d v:=by
  intro c d v hr;induction hr with
  | any v=>intro n _; exact .any v
  | lit v=>intro n _; exact .lit v
  | ptr h1=>intro n hs; exact .ptr (by rw[zgJ hs]; exact h1)
  | eptr h1 h2=>intro n hs; exact .eptr (by rw[zgJ hs]; exact h1) h2
  | sl h1 h2=>intro n hs; exact .sl (by rw[zgJ hs]; exact h1) h2
  | slg h1=>intro n hs; exact .slg (by rw[zgJ hs]; exact h1)
  | fz h1 h2 h3 h4 h5 h6 ih=>intro n _; exact .fz h1 h2 h3 h4 h5 h6
  | fz0=>intro n _; exact .fz0
  | fzn=>intro n _; exact .fzn
  | z0 h1 h2=>intro n _; exact .z0 h1 h2
  | z0n=>intro n _; exact .z0n
  | fptr h1 h2 h3 ih=>intro n _; exact .fptr h1 h2 h3
  | clo h1 h2 _ _ ih1 ih2=>intro n hs; exact .clo h1 h2 (λi d v g1 g2=>ih1 i d v g1 g2 (zik hs.1 g1)) λi d v g1 g2=>ih2 i d v g1 g2 (zik hs.2 g1)
  | yld h1=>intro n hs; exact .yld (by rw[zgJ hs]; exact h1)
  | ifc _ ih=>intro n hs; exact .ifc (ih hs)
  | agg h1 _ ih=>intro n hs; exact .agg h1 λi d v g1 g2=>ih i d v g1 g2 (zik hs g1)
  | tup h1 _ ih=>intro n hs; exact .tup h1 λi d v g1 g2=>ih i d v g1 g2 (zik hs g1)
 exact aux hr hs
theorem Rs.cut{n:Nat}{ds:List D}{vs:List V}(hr:Rs c ds vs)(hs:∀ d,d∈ds->d.sc n):Rs (c.cut n) ds vs:=⟨hr.1,λi d v h1 h2=>(hr.2 i d v h1 h2).cut (hs d (qay h1))⟩
def zme(E:List (Nat×D))(n:Nat):List (Nat×D)->Prop
 | []=>True
 |(k,d):: r=>(lk E k=some d/\d.sc n)/\zme E n r
variable{E E':List (Nat×D)}
theorem zvh{n:Nat}(h:zme E n E'){k:Nat}{d:D}(hk:lk E' k=some d):lk E k=some d/\d.sc n:=by
 induction E' with
 | nil=>cases hk
 | cons x r ih=>
  obtain⟨j,e⟩:=x;simp only[lk]at hk;split at hk
  .rename_i he; subst he; cases hk; exact h.1
  exact ih h.2 hk
def zcB(n:Nat):List LB->Prop
 | []=>True
 | b :: r=>b.sc n/\zcB n r
theorem zns{n:Nat}:∀ {L:List LB},zcB n L->∀ {i:Nat} {b:LB},L[i]? = some b->b.sc n
 | [],_,i,b,h=>by simp at h
 | e :: r,hs,0,b,h=>by simp at h; subst h; exact hs.1
 | e :: r,hs,i+1,b,h=>zns hs.2 (by simpa using h)
theorem zoq.cut{H:zaj}{n β:Nat}{lb:LB}(hβ:β<n)(h:zoq c H β lb)(hs:lb.sc n):zoq (c.cut n) H β lb:=by
 cases lb with
 | cells ds=>
  obtain⟨b,vs,h1,h2,h3⟩:=h;exact⟨b,vs,by rw[zgJ hβ]; exact h1,h2,h3.cut (zk8.1 hs)⟩
 | els m es=>
  obtain⟨h0,⟨g1,g2⟩| ⟨b,vs,h1,h2,h3⟩⟩:=h
  .exact⟨h0,.inl ⟨g1,by rw[zgJ hβ]; exact g2⟩⟩
  .refine⟨h0,.inr ⟨b,vs,by rw[zgJ hβ]; exact h1,h2,h3.len,h3.rel.cut λd hd=>?_⟩⟩;obtain⟨cells,k1,k2⟩:=qcC.1 hd;exact zk8.1 (hs cells k1) d k2
 | grow m es=>
  obtain⟨h0,⟨g1,g2⟩| ⟨g0,b,vs,h1,h2,h3⟩⟩:=h
  .exact⟨h0,.inl ⟨g1,by rw[zgJ hβ]; exact g2⟩⟩
  .refine⟨h0,.inr ⟨g0,b,vs,by rw[zgJ hβ]; exact h1,h2,h3.len,h3.rel.cut λd hd=>?_⟩⟩;obtain⟨cells,k1,k2⟩:=qcC.1 hd;exact zk8.1 (hs cells k1) d k2
 | gone=>show(c.cut n).ρ β=none; rw[zgJ hβ]; exact h
 | lp st pend N E ps asg body=>
  obtain⟨b,env,h1,h2,h3,h4⟩:=h;refine⟨b,env,by rw[zgJ hβ]; exact h1,h2,h3,λk d hk=>?_⟩;obtain⟨v,g1,g2⟩:=h4 k d hk;exact⟨v,g1,g2.cut (hs k d hk)⟩
 | lost=>
  obtain⟨b,h1,h2⟩:=h;exact⟨b,by rw[zgJ hβ]; exact h1,h2⟩
theorem zwC{H:zaj}(n:Nat):Step c H (c.cut n) H:=⟨qap _,rfl,rfl,λ_ _ h=>h,λ_ _ _=>rfl,λβ x b hx hb=>(by
 simp only[Cx.cut]at hx;split at hx
 .exact .inl ⟨β,x,hx,hb⟩
 cases hx),λ_ h=>h⟩
theorem zaT.cut{N:Nat}{E E':List (Nat×D)}{L R':List LB}(hk:k0<=L.length)(he:zme E L.length E')(hs:zcB L.length L):zaT k0 ⟨N,E,L ++ R'⟩ ⟨N,E',L⟩:=by
 intro c M h;refine⟨c.cut L.length,⟨λk d hkd=>?_,h.len,⟨h.heap.base,h.heap.za,h.heap.zf,?_,?_,?_,?_⟩⟩,zwC _,⟨λ_ _ h=>h,λ_ _ h=>h,λβ x hβ hx=>⟨x,by rw[zgJ (by omega)]; exact hx,Lc.up.refl x⟩⟩⟩
 .obtain⟨g1,g2⟩:=zvh he hkd;obtain⟨v,g3,g4⟩:=h.env k d g1;exact⟨v,g3,g4.cut g2⟩
 .intro β x b hx hb;simp only[Cx.cut]at hx;split at hx
  .exact h.heap.own β x b hx hb
  cases hx
 .intro β β' x x' b hx hx' hb hb';simp only[Cx.cut]at hx hx';split at hx
  .split at hx'
   .exact h.heap.inj β β' x x' b hx hx' hb hb'
   cases hx'
  cases hx
 .intro β x hx;simp only[Cx.cut]at hx;split at hx
  .assumption
  cases hx
 intro β o ho;have hβ:β<L.length:=(qab.1 ho).1;exact(h.heap.obj β o (by rw[qaf hβ]; exact ho)).cut hβ (zns hs ho)
theorem zaT.env{N:Nat}{E E':List (Nat×D)}{L:List LB}(he:∀ k d,lk E' k=some d->lk E k=some d):zaT k0 ⟨N,E,L⟩ ⟨N,E',L⟩:=
 λc M h=>⟨c,⟨λk d hk=>h.env k d (he k d hk),h.len,h.heap⟩,Step.refl _ _,Cx.leK.refl _ _⟩
def zcp(E:List (Nat×D)):List (Nat×D)->Prop
 | []=>True
 |(k,d):: r=>lk E k=some d/\zcp E r
theorem zsy(h:zcp E E'){k:Nat}{d:D}(hk:lk E' k=some d):lk E k=some d:=by
 induction E' with
 | nil=>cases hk
 | cons x r ih=>
  obtain⟨j,e⟩:=x;simp only[lk]at hk;split at hk
  .rename_i he; subst he; cases hk; exact h.1
  exact ih h.2 hk
theorem zaT.sub{N:Nat}{L:List LB}(he:zcp E E'):zaT k0 ⟨N,E,L⟩ ⟨N,E',L⟩:=zaT.env λk d hk=>zsy he hk
theorem zaT.ghost{N n k:Nat}{E:List (Nat×D)}{L:List LB}(hn:0<n)(hk:lk E k=some (.lit (.slice none 0 0))):zaT k0 ⟨N,E,L⟩ ⟨N,(k,.sl L.length 0 n 0 none 0):: E,L ++ [.grow n []]⟩:=by
 intro c M h;obtain⟨g1,g2,g3⟩:=h.heap.new (x:=.ghost) (lb:=.grow n []) (o:=[]) (.inl ⟨rfl,rfl⟩) λc' hle hρ=>⟨hn,.inl ⟨rfl,hρ⟩⟩
 rw[qaY]at g1 g2;refine⟨_,⟨λj d hj=>?_,h.len,g1⟩,g2,g3.leK k0⟩;simp only[lk]at hj;split at hj
 .rename_i he;subst he;cases hj;obtain⟨v,q1,q2⟩:=h.env k _ hk;cases zhJ q2;exact⟨_,q1,.slg (zat _ _ _)⟩
 obtain⟨v,q1,q2⟩:=h.env j d hj;exact⟨v,q1,q2.mono g3⟩
end
end Go.Lx
