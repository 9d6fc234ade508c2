/-
 What a machine's run of code, of a call, of a deferred call must come to; one operation; regions in the order of the text. Conditions: none.
-/
import Derived.Test.YtbjogdohfhdaiaaCfJ15
import Derived.RangeFuncRecord
set_option linter.unusedSimpArgs false
set_option linter.unusedVariables false
namespace Go.Mx
open Go Go.RowKit
def FW(rb:Option Nat):Fence:={ Fence.wide with round:=rb }
theorem zh6(rb:Option Nat)(n:Nat):(FW rb).depth.isSome=true->1<=n:=λh=>by cases h
def zgo(ι:Io)(rd rb:Option Nat):Prop:=(rd=none/\rb=none)\/∃ l b s sz,rd=some l/\rb=some b/\ι l=some (b,s,sz)
theorem zgo.mono{ι ι':Io}(h:Io.le ι ι'){rd rb:Option Nat}(hr:zgo ι rd rb):zgo ι' rd rb:=by
 rcases hr with h1 | ⟨l,b,s,sz,h1,h2,h3⟩
 .exact .inl h1
 exact .inr ⟨l,b,s,sz,h1,h2,h _ _ h3⟩
theorem zgo.zvi{ι:Io}{rd rb:Option Nat}(hr:zgo ι rd rb)(h:rd.isNone=true):rb=none:=by
 rcases hr with⟨_,h1⟩| ⟨l,b,s,sz,h1,h2,h3⟩
 .exact h1
 subst h1; cases h
def zg3(P:Program)(N B:Nat)(w1:World)(ι:Io)(ex:Ex)(S':St):Exit->Act->World->Prop:=λen a' w'=>∃ ι',Io.le ι ι' /\
 match ex with
 | .panic v e=>∃ u,en=.panic [{ v:=u,recovered:=false }]/\VRel ι' v u/\Sim P B w1 ι' S'.heap w'/\DfsRel ι' S'.dfs a'.defers/\(e=true->zbZ ι' N S'.env a')
 | .normal=>en=.normal/\FSim P N B w1 ι' S' a' w'
 | .exit id=>en=.exit id/\FSim P N B w1 ι' S' a' w'
 | .ret=>en=.ret/\FSim P N B w1 ι' S' a' w'
theorem zg3.mono{P:Program}{N B:Nat}{w1:World}{ι ι':Io}(h:Io.le ι ι'){ex:Ex}{S':St}{en:Exit}{a':Act}{w':World}(hp:zg3 P N B w1 ι' ex S' en a' w'):zg3 P N B w1 ι ex S' en a' w':=by
 obtain⟨ι'',h1,h2⟩:=hp;exact⟨ι'',h.trans h1,h2⟩
def zAX(P:Program)(B:Nat)(rd:Option Nat)(c:C)(S:St)(ex:Ex)(S':St):Prop:=
 ∀(N:Nat) (code:Code) (w1:World) (ι:Io) (a:Act) (w:World) (rb:Option Nat),comp P N code=c->FSim P N B w1 ι S a w->zgo ι rd rb->code.wpIn (FW rb) 0 P (zg3 P N B w1 ι ex S') a w
def zeF(P:Program)(B:Nat)(w1:World)(ι:Io)(cr:CR)(h':zaj):Ending->World->Prop:=λen w'=>∃ ι',Io.le ι ι'/\Sim P B w1 ι' h' w' /\
 match cr with
 | .ret v=>∃ u,en=.returned u/\VRel ι' v u
 | .pan v=>∃ u,en=.panicked [{ v:=u,recovered:=false }]/\VRel ι' v u
def zoG(P:Program)(B:Nat)(f:Nat)(args:List V)(h:zaj)(cr:CR)(h':zaj):Prop:=
 ∀(w1:World) (ι:Io) (w:World) (vs:Array Value),Sim P B w1 ι h w->zfT ι args vs->zfR P f=true/\CallsIn (FW none) 0 P f vs w (zeF P B w1 ι cr h')
def zCt(P:Program)(B:Nat)(f:Nat)(args:List V)(h:zaj)(cr:CR)(h':zaj):Prop:=
 ∀(w1:World) (ι:Io) (w:World) (vs:Array Value),Sim P B w1 ι h w->zfT ι args vs->CallsIn (FW none) 0 P f vs w λen w'=>zeF P B w1 ι cr h' en w'/\zte B h ι w w' (args.head?.bind zrt)
def ziO(P:Program)(B:Nat)(f:Nat)(args:List V)(h:zaj)(cr:CR)(h':zaj):Prop:=zoG P B f args h cr h'/\(wrF f=true->zCt P B f args h cr h')
theorem ziO.of{P:Program}{B f:Nat}{args:List V}{h h':zaj}{cr:CR}(h0:zoG P B f args h cr h')(hw:wrF f=false):ziO P B f args h cr h':=⟨h0,λh=>by rw[hw]at h; cases h⟩
def zdU(pv:Option Value):FrameMode:=match pv with | none=>.returning | some u=>.panicking [{ v:=u,recovered:=false }]
def zlJ(ι:Io):Option V->Option Value->Prop
 | none,none=>True
 | some v,some u=>VRel ι v u
 | _,_=>False
def zth(P:Program)(B:Nat)(f:Nat)(args:List V)(pv:Option V)(h:zaj)(pv':Option V)(h':zaj):Prop:=
 ∀(w1:World) (ι:Io) (w:World) (vs:Array Value) (pu:Option Value),Sim P B w1 ι h w->zfT ι args vs->zlJ ι pv pu->zfR P f=true /\
  CallsDIn (FW none) 0 P f vs (zdU pu) w λen u' w'=>(∃ v,en=.returned v)/\∃ ι' pu',Io.le ι ι'/\Sim P B w1 ι' h' w'/\settle u'=zdU pu'/\zlJ ι' pv' pu'
def zar(B:Nat)(h h':zaj):Prop:=B<=h.length->h.length<=h'.length/\∀ β,β<B->h'[β]? = h[β]?
structure RecOk (P:Program) (r:Rec):Prop where
 code:∀ B rd c S ex S',r.code B rd c S=some (ex,S')->zAX P B rd c S ex S'/\zar B S.heap S'.heap
 call:∀ B f args h cr h',r.call B f args h=some (cr,h')->ziO P B f args h cr h'/\zar B h h'
 dcall:∀ B f args pv h pv' h',r.dcall B f args pv h=some (pv',h')->zth P B f args pv h pv' h'/\zar B h h'
theorem zar.refl(B:Nat)(h:zaj):zar B h h:=λ_=>⟨qap _,λ_ _=>rfl⟩
theorem zar.trans{B:Nat}{h h' h'':zaj}(h1:zar B h h')(h2:zar B h' h''):zar B h h'':=λhB=>by
 obtain⟨g1,g2⟩:=h1 hB;obtain⟨g3,g4⟩:=h2 (qax hB g1);exact⟨qax g1 g3,λβ hβ=>(g4 β hβ).trans (g2 β hβ)⟩
theorem zar.snoc(B:Nat)(h:zaj)(o:Ob):zar B h (h ++ [o]):=λhB=>⟨by simp,λβ hβ=>qaf (by omega)⟩
theorem zar.set{B β:Nat}(h:zaj)(o:Ob)(hB:B<=β):zar B h (h.set β o):=λ_=>⟨by simp,λγ hγ=>qar (by omega)⟩
theorem zlM{B:Nat}{h h':zaj}{env:List V}{i:I}{v:V}(he:eff B h env i=some (v,h')):zar B h h':=by
 cases i with
 | alloc z=>simp only[eff]at he; cases he; exact zar.snoc _ _ _
 | box x=>
  simp only[eff]at he;split at he
  .cases he; exact zar.snoc _ _ _
  .cases he
 | bsl n len z parts=>
  simp only[eff]at he;split at he
  .cases he; exact zar.snoc _ _ _
  .cases he
 | store n x y=>
  simp only[eff]at he;split at he
  .rename_i β o l h1 h2;split at he
   .rename_i cs hcs;cases hb:Nat.ble B β && (l.length == n) && Nat.ble (o+n) cs.length with
    | false=>simp only[hb,qdm]at he; cases he
    | true=>
     simp only[hb,qdl]at he;cases he;simp only[qae]at hb;exact zar.set _ _ (qah hb.1.1)
   cases he
  .cases he
 | mk n bytes z x y=>
  simp only[eff]at he;split at he
  .rename_i l c h1 h2;cases hb:decide (0<=l) && decide (l<=c) && decide (c * (bytes:Int)<=zah)with
   | false=>simp only[hb,qdm]at he; cases he
   | true=>simp only[hb,qdl]at he; cases he; exact zar.snoc _ _ _
  .cases he
 | app n bytes x y=>
  simp only[eff]at he;split at he
  .rename_i k l h1 h2;cases hk:(k == 0)with
   | true=>simp only[hk,qdl]at he; cases he; exact zar.refl _ _
   | false=>
    simp only[hk,qdm]at he;cases hb:Nat.ble (k * bytes) zah with
    | false=>simp only[hb,qdm]at he; cases he
    | true=>simp only[hb,qdl]at he; cases he; exact zar.snoc _ _ _
  .rename_i β o n' len cap k l h1 h2;cases hn:(n == n')with
   | false=>simp only[hn,qbW,qdl]at he; cases he
   | true=>
    simp only[hn,qba,qdm]at he;cases hk:(k == 0)with
    | true=>simp only[hk,qdl]at he; cases he; exact zar.refl _ _
    | false=>
     simp only[hk,qdm]at he;split at he
     .rename_i cs c hcs;cases hr:Nat.ble (len+k) c with
      | true=>
       simp only[hr,qdl]at he;cases hb:Nat.ble B β && Nat.ble (o+(len+k)* n) cs.length with
       | false=>simp only[hb,qdm]at he; cases he
       | true=>
        simp only[hb,qdl]at he;cases he;simp only[qae]at hb;exact zar.set _ _ (qah hb.1)
      | false=>
       simp only[hr,qdm]at he;cases hb:Nat.ble (o+len * n) cs.length && Nat.ble ((len+k)* bytes) zah with
       | false=>simp only[hb,qdm]at he; cases he
       | true=>simp only[hb,qdl]at he; cases he; exact zar.snoc _ _ _
     .rename_i cs hcs;cases hin:Nat.ble (o+(len+k)* n) cs.length with
      | true=>
       simp only[hin,qdl]at he;cases hb:Nat.ble B β with
       | false=>simp only[hb,qdm]at he; cases he
       | true=>
        simp only[hb,qdl]at he;cases he;exact zar.set _ _ (qah hb)
      | false=>
       simp only[hin,qdm]at he;cases hb:Nat.ble B β && (o+len * n == cs.length) && Nat.ble ((len+k)* bytes) zah with
       | false=>simp only[hb,qdm]at he; cases he
       | true=>
        simp only[hb,qdl]at he;cases he;simp only[qae]at hb;exact(zar.set _ _ (qah hb.1.1)).trans (zar.snoc _ _ _)
     cases he
  .cases he
 | copy n x y=>
  simp only[eff]at he;split at he
  .rename_i β o n' len cap vy h1 h2;split at he
   .rename_i k l h3;split at he
    .rename_i cs hcs;cases hb:(n == n') && Nat.ble B β && Nat.ble (o+min k len * n) cs.length with
     | false=>simp only[hb,qdm]at he; cases he
     | true=>
      simp only[hb,qdl]at he;cases he;simp only[qae]at hb;exact zar.set _ _ (qah hb.1.2)
    cases he
   cases he
  .cases he
 | clr n z x=>
  simp only[eff]at he;split at he
  .cases he; exact zar.refl _ _
  .rename_i β o n' len cap h1;cases hn:!(n == n')with
   | true=>simp only[hn,qdl]at he; cases he
   | false=>
    simp only[hn,qdm]at he;cases hk:(len == 0)with
    | true=>simp only[hk,qdl]at he; cases he; exact zar.refl _ _
    | false=>
     simp only[hk,qdm]at he;split at he
     .rename_i cs hcs;cases hb:Nat.ble B β && Nat.ble (o+len * n) cs.length with
      | false=>simp only[hb,qdm]at he; cases he
      | true=>
       simp only[hb,qdl]at he;cases he;simp only[qae]at hb;exact zar.set _ _ (qah hb.1)
     cases he
  .cases he
 | _=>simp[eff]at he
section
variable {P:Program} {B N:Nat} {w1 w:World} {ι:Io} {S:St} {a:Act} {r:Rec}
theorem FSim.put(hF:FSim P N B w1 ι S a w){d:Option Nat}{v:V}{u:Value}(hv:VRel ι v u):FSim P N B w1 ι (S.put d v) (a.put d u) w:=by
 cases d with
 | none=>exact hF
 | some k=>exact⟨hF.sim,hF.env.put hv,hF.dfs⟩
theorem FSim.heap(hF:FSim P N B w1 ι S a w){ι':Io}(hι:Io.le ι ι'){h':zaj}{w':World}(hS:Sim P B w1 ι' h' w'):FSim P N B w1 ι' { S with heap:=h' } a w':=⟨hS,hF.env.mono hι,hF.dfs.mono hι⟩
theorem Sim.zxw{h:zaj}(hS:Sim P B w1 ι h w):Sim P h.length w ι h w where
 base:=qap _
 below:=Below.refl _ _
 obj β o hβ:=by
  have hlt:β<h.length:=(qab.1 hβ).1;have:=hS.obj β o hβ;cases o with
  | blk cs=>
   obtain⟨b,s,sz,arr,T,fr,h1,h2,h3,h4,h5,_⟩:=this;exact⟨b,s,sz,arr,T,fr,h1,h2,h3,h4,h5,λhc=>by omega⟩
  | _=>exact this
 own β o b s sz hβ _ hB:=by have:=(qab.1 hβ).1; omega
 old β o b s sz hβ hl _ hι:=hS.lt hβ hl hι
 inj β β' o o' b s sz s' sz' hβ _ _ _ hB:=by have:=(qab.1 hβ).1; omega
 scope:=hS.scope
theorem Sim.zAv{h h':zaj}{ι':Io}{w':World}(hS:Sim P B w1 ι h w)(hι:Io.le ι ι')(hS':Sim P h.length w ι' h' w')(hk:∀ β,β<h.length->h'[β]? = h[β]?):Sim P B w1 ι' h' w':=by
 have hold:∀ β o b s sz,β<h.length->h'[β]? = some o->o.live->ι' β=some (b,s,sz)->h[β]? = some o/\ι β=some (b,s,sz):=by
  intro β o b s sz hβ ho hl hb;rw[hk β hβ]at ho;obtain⟨b0,s0,sz0,ob,g1,g2⟩:=(hS.obj β o ho).at_ hl;have:=hι _ _ g1;rw[hb]at this; cases this;exact⟨ho,g1⟩
 refine⟨qax hS.base hS'.base,hS.below.trans (hS'.below.mono hS.below.size),?_,?_,?_,?_,hS'.scope⟩
 .intro β o hβ;by_cases hlt:β<h.length
  .rw[hk β hlt]at hβ;cases hd:o with
   | dead=>trivial
   | _=>
    rw[<- hd];have hl:o.live:=by rw[hd]; trivial
    exact(hS.obj β o hβ).mono hι λb s sz hb=>hS'.below.block b (hS.lt hβ hl hb)
  have:=hS'.obj β o hβ;cases o with
  | blk cs=>
   obtain⟨b,s,sz,arr,T,fr,h1,h2,h3,h4,h5,h6⟩:=this;exact⟨b,s,sz,arr,T,fr,h1,h2,h3,h4,h5,λ_=>h6 (by omega)⟩
  | _=>exact this
 .intro β o b s sz hβ hl hB hb;by_cases hlt:β<h.length
  .obtain⟨g1,g2⟩:=hold β o b s sz hlt hβ hl hb;exact hS.own β o b s sz g1 hl hB g2
  exact qax hS.below.size (hS'.own β o b s sz hβ hl (by omega) hb)
 .intro β o b s sz hβ hl hB hb;obtain⟨g1,g2⟩:=hold β o b s sz (qbb hB hS.base) hβ hl hb;exact hS.old β o b s sz g1 hl hB g2
 intro β β' o o' b s sz s' sz' h1 h2 h3 h4 h5 h6 h7 h8;by_cases hlt:β<h.length
 .obtain⟨g1,g2⟩:=hold β o b s sz hlt h1 h3 h7;by_cases hlt':β'<h.length
  .obtain⟨g3,g4⟩:=hold β' o' b s' sz' hlt' h2 h4 h8;exact hS.inj β β' o o' b s sz s' sz' g1 g3 h3 h4 h5 h6 g2 g4
  have e1:=hS.lt g1 h3 g2;have e2:=hS'.own β' o' b s' sz' h2 h4 (by omega) h8;omega
 by_cases hlt':β'<h.length
 .obtain⟨g3,g4⟩:=hold β' o' b s' sz' hlt' h2 h4 h8;have e1:=hS.lt g3 h4 g4;have e2:=hS'.own β o b s sz h1 h3 (by omega) h7;omega
 exact hS'.inj β β' o o' b s sz s' sz' h1 h2 h3 h4 (by omega) (by omega) h7 h8
end
def zhO(rb:Option Nat)(P:Program)(o:Oper)(a:Act)(w:World)(Kc:Value->List Deferred->World->Prop)(Kp:Value->World->Prop):Prop:=
 match (o.semAt rb a.eval).run P w with
 | .ok (.value u) w'=>Kc u a.defers w'
 | .ok .skip w'=>Kc undef a.defers w'
 | .ok (.defer d) w'=>Kc undef (d :: a.defers) w'
 | .ok (.enter f args) w'=>CallsIn (FW none) 0 P f args w' λen w''=>(∃ v,en=.returned v/\Kc v a.defers w'')\/(∃ v,en=.panicked [{ v:=v,recovered:=false }]/\Kp v w'')
 | .ok (.round l f tmps assign body) w'=>RoundIn (FW none) 0 P l f tmps assign body w' λen w''=>(∃ v,en=.returned v/\Kc v a.defers w'')\/(∃ v,en=.panicked [{ v:=v,recovered:=false }]/\Kp v w'')
 | .halt (.panic v) w'=>Kp v w'
 | _=>False
theorem zm7{F:Fence}{n:Nat}{P:Program}{ops:Array Oper}{Q Q':Exit->Act->World->Prop}(hQ:∀ en a w,Q en a w->Q' en a w){i:Nat}{K:Act->World->Prop}{a:Act}{w:World}(h:wpOpIn F n P ops Q i K a w):wpOpIn F n P ops Q' i K a w:=by
 unfold wpOpIn at h ⊢;split
 .rename_i ho; simp only[ho]at h; exact h
 rename_i o ho;simp only[ho]at h;split
 .rename_i hw;simp only[hw,if_true]at h;refine⟨h.1,?_⟩;have h:=h.2;generalize (o.semAt F.round a.eval).run P w=res at h;cases res with
  | ok x w'=>
   cases x<;>simp only[Oper.uponIn]at h ⊢ <;>
    first
     | exact h
     | exact⟨h.1,CallsIn.mono h.2 (λe w'' he=>by cases e<;>first | exact he | exact hQ _ _ _ he | (obtain⟨a0,w0,h0⟩:=he; exact⟨a0,w0,hQ _ _ _ h0⟩))⟩
     | exact⟨h.1,RoundIn.mono h.2 (λe w'' he=>by cases e<;>first | exact he | exact hQ _ _ _ he | (obtain⟨a0,w0,h0⟩:=he; exact⟨a0,w0,hQ _ _ _ h0⟩))⟩
  | halt x w'=>cases x<;>simp only[Oper.uponIn]at h ⊢<;>first | exact hQ _ _ _ h | exact h
 rename_i hw;simp only[hw]at h;exact h
theorem zbV{F:Fence}{n:Nat}{P:Program}{ops:Array Oper}{Q Q':Exit->Act->World->Prop}(hQ:∀ en a w,Q en a w->Q' en a w):∀(l:List Nat) (a:Act) (w:World),wpOpsIn F n P ops Q l a w->wpOpsIn F n P ops Q' l a w
 | [],a,w,h=>hQ _ _ _ h
 | i :: l,a,w,h=>by
  simp only[wpOpsIn]at h ⊢;split
  .rename_i ho; simp only[ho]at h; exact zbV hQ l a w h
  rename_i o ho;simp only[ho]at h;split
  .rename_i hw;simp only[hw,if_true]at h;refine⟨h.1,?_⟩;have h:=h.2;generalize (o.semAt F.round a.eval).run P w=res at h;cases res with
   | ok x w'=>
    cases x<;>simp only[Oper.uponIn]at h ⊢ <;>
     first
      | exact zbV hQ l _ _ h
      | exact⟨h.1,CallsIn.mono h.2 (λe w'' he=>by cases e<;>first | exact zbV hQ l _ _ he | exact hQ _ _ _ he | (obtain⟨a0,w0,h0⟩:=he; exact⟨a0,w0,hQ _ _ _ h0⟩))⟩
      | exact⟨h.1,RowsIn.mono h.2 (λ_ _ he=>zbV hQ l _ _ he)⟩
      | exact⟨h.1,RoundIn.mono h.2 (λe w'' he=>by cases e<;>first | exact zbV hQ l _ _ he | exact hQ _ _ _ he | (obtain⟨a0,w0,h0⟩:=he; exact⟨a0,w0,hQ _ _ _ h0⟩))⟩
   | halt x w'=>cases x<;>simp only[Oper.uponIn]at h ⊢<;>first | exact hQ _ _ _ h | exact h
  rename_i hw;simp only[hw]at h;exact⟨h.1,zbV hQ l _ _ h.2⟩
section
variable {P:Program} {B N:Nat} {w1 w:World} {ι:Io} {S:St} {a:Act} {r:Rec} {ops:Array Oper} {rd rb:Option Nat} {Q:Exit->Act->World->Prop}
theorem zhO.wp{o:Oper}{Kc:Value->List Deferred->World->Prop}{Kp:Value->World->Prop}{next:Act->World->Prop}(h:zhO rb P o a w Kc Kp)(hn:∀ v ds w',Kc v ds w'->next (({ a with defers:=ds }:Act).put o.dst v) w')
  (hq:∀ v w',Kp v w'->Q (.panic [{ v:=v,recovered:=false }]) a w'):o.wpIn (FW rb) 0 P a w next Q:=by
 unfold zhO at h;refine⟨λ_ _=>trivial,?_⟩;show o.uponIn (FW rb) 0 P a next Q ((o.semAt rb a.eval).run P w);generalize (o.semAt rb a.eval).run P w=res at h;split at h
 .exact hn _ _ _ h
 .exact hn _ _ _ h
 .exact hn _ _ _ h
 .refine⟨zh6 rb 0,CallsIn.mono (F:=FW rb) (n:=0) h λen w'' hk=>?_⟩;rcases hk with⟨v,he,hk⟩| ⟨v,he,hk⟩
  .subst he; exact hn _ _ _ hk
  subst he; exact hq _ _ hk
 .refine⟨zh6 rb 0,RoundIn.mono (F:=FW rb) (n:=0) h λen w'' hk=>?_⟩;rcases hk with⟨v,he,hk⟩| ⟨v,he,hk⟩
  .subst he; exact hn _ _ _ hk
  subst he; exact hq _ _ hk
 .exact hq _ _ h
 exact h.elim
def zx8:V->Option Bool
 | .lit (.bool b)=>some b
 | _=>none
def zAR:Value->Option Bool
 | .bool b=>some b
 | _=>none
theorem zyQ{v:V}{u:Value}(h:VRel ι v u):zx8 v=zAR u:=by
 cases h with
 | lit=>cases u<;>rfl
 | _=>rfl
theorem zob(env:List V)(k:Nat)(want:Bool):wanted env (some (k,want))=((env[k]?).bind zx8 == some want):=by
 simp only[wanted];cases env[k]? with
 | none=>rfl
 | some v=>
  cases v with
  | lit x=>cases x<;>simp[zx8]
  | _=>rfl
theorem zqW(ops:Array Oper)(tmps:Array Value)(j:Nat):yielded ops tmps j=(((ops[j]?).bind (·.dst)).bind (tmps[·]?)).bind zAR:=by
 unfold yielded;cases((ops[j]?).bind (·.dst)).bind (tmps[·]?)with
 | none=>rfl
 | some u=>cases u<;>rfl
theorem zkb(hE:zbZ ι N S.env a)(o:Oper):wanted S.env (irO P N ops o).g=Region.wanted o (yielded ops a.tmps):=by
 unfold Region.wanted irO;cases hg:o.guard with
 | none=>simp[wanted]
 | some jw=>
  obtain⟨j,want⟩:=jw;simp only[];rw[zob,zqW];congr 1
  cases hd:(ops[j]?).bind (·.dst)with
  | none=>
   have h1:S.env[N]? = none:=qaP (by rw[hE.2.1]; exact qap _);simp[h1]
  | some d=>
   simp only[qbP,qaa];rcases qbs d N with hlt | hge
   .have hlt1:d<S.env.length:=by rw[hE.2.1]; exact hlt
    have hlt':d<a.tmps.size:=by rw[hE.1]; exact hlt
    have h1:S.env[d]? = some S.env[d]:=qac hlt1;have h2:=hE.2.2 d _ h1;have h3:a.tmps.getD d undef=a.tmps[d]:=by simp[hlt']
    rw[h3]at h2;rw[h1,qaZ hlt'];exact zyQ h2
   have h1:S.env[d]? = none:=qaP (by rw[hE.2.1]; exact hge);have h2:a.tmps[d]? = none:=qbN (by rw[hE.1]; exact hge);rw[h1,h2]; rfl
theorem zgM(hF:FSim P N B w1 ι S a w)(o:Oper):wanted S.env (irO P N ops o).g=Region.wanted o (yielded ops a.tmps):=zkb hF.env o
theorem zlL{o:Oper}{c:Call}{x:Operand}{f:Nat}{xs ys:Array Value}(ho:o.op=.call c)(hc:c.callee=.value x)(hx:a.eval x=.func (.func f) xs ys)(hf:zfR P f=true)(w':World):
  (execOp a.eval o).run P w'=.ok (.enter f (xs ++ c.args.map a.eval ++ ys)) w':=by
 unfold zfR at hf;cases hfn:P.funcs[f]? with
 | none=>rw[hfn]at hf; cases hf
 | some fn=>
  rw[hfn]at hf;simp only[qae,qb1,qdt]at hf;have h1:¬ (fn.name = "runtime.NumGoroutine"):=hf.1;obtain⟨bd,hbd⟩:=qa3.1 hf.2;simp[execOp,ho,resolve,hc,hx,Deferred.ofValue,invoke,callFunc,hfn,h1,hbd]
theorem zfT.append{ι:Io}{l l':List V}{arr arr':Array Value}(h1:zfT ι l arr)(h2:zfT ι l' arr'):zfT ι (l ++ l') (arr ++ arr'):=by
 refine⟨by simp[h1.1,h2.1],λi x v hx hv=>?_⟩;rw[qbk]at hx;rw[qdb]at hv;rw[h1.1]at hv;split at hx
 .rename_i hc;rw[if_pos hc]at hv;exact h1.2 i x v hx hv
 rename_i hc;rw[if_neg hc]at hv;exact h2.2 _ x v hx hv
theorem zjQ{N:Nat}:∀(ps:List Nat) (vs:List V) (env env':List V) (us:List Value) (tm:Array Value),ze7 env ps vs=some env'->vs.length=us.length->(∀(i:Nat) x v,vs[i]? = some x->us[i]? = some v->VRel ι x v)->
  zbZ ι N env ⟨tm,[]⟩->ps.length=vs.length/\zbZ ι N env' ⟨(ps.zip us).foldl (λt x=>t.setIfInBounds x.1 x.2) tm,[]⟩
 | [],[],env,env',us,tm,hs,hl,_,hE=>by
  simp[ze7]at hs;subst hs;exact⟨rfl,by simpa using hE⟩
 | p :: ps,v :: vs,env,env',us,tm,hs,hl,hv,hE=>by
  cases us with
  | nil=>simp at hl
  | cons u us=>
   simp only[ze7]at hs;have hE':=hE.put (d:=p) (hv 0 v u rfl rfl);obtain⟨h1,h2⟩:=zjQ ps vs _ env' us (tm.setIfInBounds p u) hs (by simpa using hl) (λi x w hx hw=>hv (i+1) x w (by simpa using hx) (by simpa using hw)) hE';exact⟨by simp[h1],by simpa using h2⟩
 | [],_ :: _,_,_,_,_,hs,_,_,_=>by simp[ze7]at hs
 | _ :: _,[],_,_,_,_,hs,_,_,_=>by simp[ze7]at hs
variable{h h':zaj}{l:Nat}{pend:Option Jump}
theorem Sim.zyS(hS:Sim P B w1 ι h w){st:Bool}(hB:B<=l)(hs:zdb h l st pend=some h'){b s sz:Nat}(hι:ι l=some (b,s,sz)):
  ∃ R,w.heap[b]? = some (.loop R)/\Sim P B w1 ι h' (zgj w b (.loop { R with state:=(bif st then .ready else bif pend.isSome then .done else .busy),pending:=pend.map zfE })):=by
 unfold zdb at hs;split at hs
 .rename_i st0 pend0 env ps asg body hl;cases hs;obtain⟨b',s',sz',R,h1,h2,h3,h4,h5,h6,h7,h8,h9⟩:=hS.obj l _ hl;rw[hι]at h1; cases h1;refine⟨R,h2,hS.change (o':=.loop st pend env ps asg body) hl trivial hB hι (zbJ _ _ _) ⟨b,s,sz,_,hι,zdd _ (zaw h2),rfl,rfl,h5,h6,h7,h8,h9⟩⟩
 cases hs
theorem zeK{st:Bool}(hs:zdb h l st pend=some h'){B:Nat}(hB:B<=l):zar B h h':=by
 unfold zdb at hs;split at hs
 .cases hs; exact zar.set _ _ hB
 cases hs
theorem zrx(ps:Array Nat)(us:Array Value)(tm:Array Value):(ps.zip us).foldl (λt (x:Nat×Value)=>t.setIfInBounds x.1 x.2) tm=(ps.toList.zip us.toList).foldl (λt x=>t.setIfInBounds x.1 x.2) tm:=by
 rw[<- Array.foldl_toList,Array.toList_zip]
theorem zoJ(hr:RecOk P r){vs:List V}{cr:CR}(hc:round r B l vs h=some (cr,h'))(hS:Sim P B w1 ι h w){b s sz:Nat}(hι:ι l=some (b,s,sz)){us:Array Value}(hu:zfT ι vs us):
  ∃ f tmps assign body,(Instr.yield b us).run P w=.ok (.round b f tmps assign body) w/\RoundIn (FW none) 0 P b f tmps assign body w (zeF P B w1 ι cr h'):=by
 unfold round at hc;split at hc
 .rename_i env ps asg body hl;cases hB:Nat.ble B l with
  | false=>simp only[hB,qdm]at hc; cases hc
  | true=>
   simp only[hB,qdl]at hc;have hB:=qah hB;split at hc
   .rename_i env' hset;obtain⟨b',s',sz',R,g1,g2,g3,g4,g5,g6,g7,g8,g9⟩:=hS.obj l _ hl;rw[hι]at g1; cases g1;obtain⟨hlen,hE'⟩:=zjQ (N:=env.length) ps vs env env' us.toList R.tmps hset (by simpa using hu.1.symm) (λi x v hx hv=>hu.2 i x v hx (by simpa using hv)) ⟨g5,rfl,g6⟩;have hsz:us.size=R.params.size:=by
     have h1:R.params.toList.length=vs.length:=by rw[g7]; exact hlen
     rw[hu.1,<- h1]; simp
    refine⟨R.fn,_,R.assign,R.body,run_yield g2 hsz,?_⟩;rw[zrx,g7];refine roundIn_of_wpIn trivial ?_;split at hc
    .rename_i env1 h1 hcode;have hco:=(hr.code _ _ _ _ _ _ hcode).1 env.length R.assign w1 ι _ w (some b) g8 ⟨hS,hE',.nil⟩ (.inr ⟨l,b,s,sz,rfl,rfl,hι⟩);refine wpIn_mono hco λen a1 w2 hp=>?_
     obtain⟨ι1,hle1,rfl,hF1⟩:=hp;show ∃ w₂,(Instr.beginRound b).run P w2=.ok () w₂/\_;split at hc
     .rename_i e1 p1 a1' b1 hl1;have hι1:=hle1 _ _ hι;obtain⟨b'',s'',sz'',R1,k1,k2,k3,k4,k5,k6,k7,k8,k9⟩:=hF1.sim.obj l _ hl1;rw[hι1]at k1; cases k1;refine⟨_,run_beginRound k2 k3,?_⟩;have hS2:Sim P B w1 ι1 (h1.set l (.loop false none e1 p1 a1' b1)) (zgj w2 b (.loop { R1 with state:=.busy })):=
       hF1.sim.change (o':=.loop false none e1 p1 a1' b1) hl1 trivial hB hι1 (zbJ _ _ _) ⟨b,s,sz,_,hι1,zdd _ (zaw k2),rfl,k4,k5,k6,k7,k8,k9⟩
      cases hbody:r.code B (some l) body ⟨env1,[],h1.set l (.loop false none e1 p1 a1' b1)⟩with
      | none=>rw[hbody]at hc; simp[zbl]at hc
      | some res=>
       obtain⟨ex,S2⟩:=res;have hbo:=(hr.code _ _ _ _ _ _ hbody).1 env.length R.body w1 ι1 a1 (zgj w2 b (.loop { R1 with state:=.busy })) (some b) g9 ⟨hS2,hF1.env,hF1.dfs⟩ (.inr ⟨l,b,s,sz,rfl,rfl,hι1⟩);rw[hbody]at hc;have fin:∀(h2:zaj) (w3:World) (ι2:Io) (st:Bool) (pend:Option Jump),Io.le ι1 ι2->Sim P B w1 ι2 h2 w3->(st=true↔pend=none)->zdb h2 l st pend=some h' ->
         ∃ w4,(Instr.endRound b (pend.map zfE)).run P w3=.ok (.bool pend.isNone) w4/\Sim P B w1 ι2 h' w4:=by
        intro h2 w3 ι2 st pend hle hS3 hst hset;obtain⟨R3,q1,q2⟩:=hS3.zyS hB hset (hle _ _ hι1);have hen:=run_endRound (P:=P) (pend.map zfE) q1;rw[Option.isNone_map]at hen;refine⟨_,hen,?_⟩;have:(if pend.isNone=true then LoopState.ready else .done)=(bif st then .ready else bif pend.isSome then .done else .busy):=by
         cases pend with
         | none=>simp[hst.2 rfl]
         | some j=>
          have:st=false:=by
           cases st with
           | false=>rfl
           | true=>have:=hst.1 rfl; cases this
          simp[this]
        rw[<- this]at q2;exact q2
       refine wpIn_mono hbo λen2 a3 w3 hp2=>?_
       obtain⟨ι2,hle2,hp2⟩:=hp2;cases ex with
       | normal=>
        obtain⟨rfl,hF2⟩:=hp2;obtain⟨env2,dfs2,h2⟩:=S2;cases dfs2 with
        | cons _ _=>simp[zbl]at hc
        | nil=>
         simp only[zbl,qam,qag]at hc;obtain⟨h3,hset2,rfl,rfl⟩:=hc;obtain⟨w4,q1,q2⟩:=fin h2 w3 ι2 true none hle2 hF2.sim (by simp) hset2;exact⟨_,w4,q1,ι2,hle1.trans hle2,q2,_,rfl,.lit _⟩
       | ret=>
        obtain⟨rfl,hF2⟩:=hp2;obtain⟨env2,dfs2,h2⟩:=S2;cases dfs2 with
        | cons _ _=>simp[zbl]at hc
        | nil=>
         simp only[zbl,qam,qag]at hc;obtain⟨h3,hset2,rfl,rfl⟩:=hc;obtain⟨w4,q1,q2⟩:=fin h2 w3 ι2 false (some .ret) hle2 hF2.sim (by simp) hset2;exact⟨_,w4,q1,ι2,hle1.trans hle2,q2,_,rfl,.lit _⟩
       | exit id=>
        obtain⟨rfl,hF2⟩:=hp2;obtain⟨env2,dfs2,h2⟩:=S2;cases dfs2 with
        | cons _ _=>simp[zbl]at hc
        | nil=>
         simp only[zbl,qam,qag]at hc;obtain⟨h3,hset2,rfl,rfl⟩:=hc;obtain⟨w4,q1,q2⟩:=fin h2 w3 ι2 false (some (.exit id)) hle2 hF2.sim (by simp) hset2;exact⟨_,w4,q1,ι2,hle1.trans hle2,q2,_,rfl,.lit _⟩
       | panic v e=>
        obtain⟨env2,dfs2,h2⟩:=S2;cases dfs2<;>simp[zbl]at hc
     cases hc
    cases hc
   cases hc
 cases hc
theorem zi7(hr:RecOk P r){vs:List V}{cr:CR}(hc:round r B l vs h=some (cr,h')):zar B h h':=by
 unfold round at hc;split at hc
 .cases hB:Nat.ble B l with
  | false=>simp only[hB,qdm]at hc; cases hc
  | true=>
   simp only[hB,qdl]at hc;have hB:=qah hB;split at hc
   .split at hc
    .rename_i env1 h1 hcode;have k1:=(hr.code _ _ _ _ _ _ hcode).2;split at hc
     .rename_i body _ _ _ _ e1 p1 a1 b1 hl1;have k2:zar B h1 (h1.set l (.loop false none e1 p1 a1 b1)):=zar.set _ _ hB;generalize hb:r.code B (some l) _ ⟨env1,[],h1.set l (.loop false none e1 p1 a1 b1)⟩=res at hc;unfold zbl at hc;split at hc
      .simp only[qam,qag]at hc;obtain⟨h3,hset2,_,rfl⟩:=hc;exact((k1.trans k2).trans (hr.code _ _ _ _ _ _ hb).2).trans (zeK hset2 hB)
      .simp only[qam,qag]at hc;obtain⟨h3,hset2,_,rfl⟩:=hc;exact((k1.trans k2).trans (hr.code _ _ _ _ _ _ hb).2).trans (zeK hset2 hB)
      .simp only[qam,qag]at hc;obtain⟨h3,hset2,_,rfl⟩:=hc;exact((k1.trans k2).trans (hr.code _ _ _ _ _ _ hb).2).trans (zeK hset2 hB)
      cases hc
     cases hc
    cases hc
   cases hc
 cases hc
end
end Go.Mx
