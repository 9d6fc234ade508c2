/-
 What a machine's run of code, of a call, of a deferred call must come to; one operation; regions in the order of the text. Conditions: none.
-/
import Derived.Test.YtbjogdohfhdaiaaGreatESJ18
import Derived.RangeFuncRecord
set_option linter.unusedSimpArgs false
set_option linter.unusedVariables false
namespace Go.Mx
open Go Go.RowKit
def FW(rb:Option Nat):Fence:={ Fence.wide with round:=rb }
theorem zhx(rb:Option Nat)(n:Nat):(FW rb).depth.isSome=true→1≤n:=fun h=>by cases h
def zgy(ι:Io)(rd rb:Option Nat):Prop:=(rd=none∧rb=none)∨∃ l b s sz,rd=some l∧rb=some b∧ι l=some (b,s,sz)
theorem zgy.mono{ι ι':Io}(h:Io.le ι ι'){rd rb:Option Nat}(hr:zgy ι rd rb):zgy ι' rd rb:=by
 rcases hr with h1 | ⟨l,b,s,sz,h1,h2,h3⟩
 ·exact .inl h1
 exact .inr ⟨l,b,s,sz,h1,h2,h _ _ h3⟩
theorem zgy.ztX{ι:Io}{rd rb:Option Nat}(hr:zgy ι rd rb)(h:rd.isNone=true):rb=none:=by
 rcases hr with⟨_,h1⟩| ⟨l,b,s,sz,h1,h2,h3⟩
 ·exact h1
 subst h1; cases h
def zgL(P:Program)(N B:Nat)(w1:World)(ι:Io)(ex:Ex)(S':St):Exit→Act→World→Prop:=fun en a' w'=>∃ ι',Io.le ι ι' ∧
 match ex with
 | .panic v e=>∃ u,en=.panic [{ v:=u,recovered:=false }]∧VRel ι' v u∧Sim P B w1 ι' S'.heap w'∧DfsRel ι' S'.dfs a'.defers∧(e=true→zbR ι' N S'.env a')
 | .normal=>en=.normal∧FSim P N B w1 ι' S' a' w'
 | .exit id=>en=.exit id∧FSim P N B w1 ι' S' a' w'
 | .ret=>en=.ret∧FSim P N B w1 ι' S' a' w'
theorem zgL.mono{P:Program}{N B:Nat}{w1:World}{ι ι':Io}(h:Io.le ι ι'){ex:Ex}{S':St}{en:Exit}{a':Act}{w':World}(hp:zgL P N B w1 ι' ex S' en a' w'):zgL P N B w1 ι ex S' en a' w':=by
 obtain⟨ι'',h1,h2⟩:=hp;exact⟨ι'',h.trans h1,h2⟩
def zya(P:Program)(B:Nat)(rd:Option Nat)(c:C)(S:St)(ex:Ex)(S':St):Prop:=
 ∀(N:Nat) (code:Code) (w1:World) (ι:Io) (a:Act) (w:World) (rb:Option Nat),comp P N code=c→FSim P N B w1 ι S a w→zgy ι rd rb→code.wpIn (FW rb) 0 P (zgL P N B w1 ι ex S') a w
def zev(P:Program)(B:Nat)(w1:World)(ι:Io)(cr:CR)(h':zaj):Ending→World→Prop:=fun en w'=>∃ ι',Io.le ι ι'∧Sim P B w1 ι' h' w' ∧
 match cr with
 | .ret v=>∃ u,en=.returned u∧VRel ι' v u
 | .pan v=>∃ u,en=.panicked [{ v:=u,recovered:=false }]∧VRel ι' v u
def zno(P:Program)(B:Nat)(f:Nat)(args:List V)(h:zaj)(cr:CR)(h':zaj):Prop:=
 ∀(w1:World) (ι:Io) (w:World) (vs:Array Value),Sim P B w1 ι h w→zfE ι args vs→zfy P f=true∧CallsIn (FW none) 0 P f vs w (zev P B w1 ι cr h')
def zAx(P:Program)(B:Nat)(f:Nat)(args:List V)(h:zaj)(cr:CR)(h':zaj):Prop:=
 ∀(w1:World) (ι:Io) (w:World) (vs:Array Value),Sim P B w1 ι h w→zfE ι args vs→CallsIn (FW none) 0 P f vs w fun en w'=>zev P B w1 ι cr h' en w'∧zrT B h ι w w' (args.head?.bind zqt)
def zeP(P:Program)(B:Nat)(f:Nat)(args:List V)(h:zaj)(cr:CR)(h':zaj):Prop:=zno P B f args h cr h'∧(wrF f=true→zAx P B f args h cr h')
theorem zeP.of{P:Program}{B f:Nat}{args:List V}{h h':zaj}{cr:CR}(h0:zno P B f args h cr h')(hw:wrF f=false):zeP P B f args h cr h':=⟨h0,fun h=>by rw[hw]at h; cases h⟩
def zdF(pv:Option Value):FrameMode:=match pv with | none=>.returning | some u=>.panicking [{ v:=u,recovered:=false }]
def zlJ(ι:Io):Option V→Option Value→Prop
 | none,none=>True
 | some v,some u=>VRel ι v u
 | _,_=>False
def zrw(P:Program)(B:Nat)(f:Nat)(args:List V)(pv:Option V)(h:zaj)(pv':Option V)(h':zaj):Prop:=
 ∀(w1:World) (ι:Io) (w:World) (vs:Array Value) (pu:Option Value),Sim P B w1 ι h w→zfE ι args vs→zlJ ι pv pu→zfy P f=true ∧
  CallsDIn (FW none) 0 P f vs (zdF pu) w fun en u' w'=>(∃ v,en=.returned v)∧∃ ι' pu',Io.le ι ι'∧Sim P B w1 ι' h' w'∧settle u'=zdF pu'∧zlJ ι' pv' pu'
def zar(B:Nat)(h h':zaj):Prop:=B≤h.length→h.length≤h'.length∧∀ β,β<B→h'[β]? = h[β]?
structure RecOk (P:Program) (r:Rec):Prop where
 code:∀ B rd c S ex S',r.code B rd c S=some (ex,S')→zya P B rd c S ex S'∧zar B S.heap S'.heap
 call:∀ B f args h cr h',r.call B f args h=some (cr,h')→zeP P B f args h cr h'∧zar B h h'
 dcall:∀ B f args pv h pv' h',r.dcall B f args pv h=some (pv',h')→zrw P B f args pv h pv' h'∧zar B h h'
theorem zar.refl(B:Nat)(h:zaj):zar B h h:=fun _=>⟨qan _,fun _ _=>rfl⟩
theorem zar.trans{B:Nat}{h h' h'':zaj}(h1:zar B h h')(h2:zar B h' h''):zar B h h'':=fun hB=>by
 obtain⟨g1,g2⟩:=h1 hB;obtain⟨g3,g4⟩:=h2 (qam hB g1);exact⟨qam g1 g3,fun β hβ=>(g4 β hβ).trans (g2 β hβ)⟩
theorem zar.snoc(B:Nat)(h:zaj)(o:Ob):zar B h (h ++ [o]):=fun hB=>⟨by simp,fun β hβ=>qal (by omega)⟩
theorem zar.set{B β:Nat}(h:zaj)(o:Ob)(hB:B≤β):zar B h (h.set β o):=fun _=>⟨by simp,fun γ hγ=>qaq (by omega)⟩
theorem zmy{B:Nat}{h h':zaj}{env:List V}{i:I}{v:V}(he:eff B h env i=some (v,h')):zar B h h':=by
 cases i with
 | alloc z=>simp only[eff]at he; cases he; exact zar.snoc _ _ _
 | box x=>
  simp only[eff]at he;split at he
  ·cases he; exact zar.snoc _ _ _
  ·cases he
 | bsl n len z parts=>
  simp only[eff]at he;split at he
  ·cases he; exact zar.snoc _ _ _
  ·cases he
 | store n x y=>
  simp only[eff]at he;split at he
  ·rename_i β o l h1 h2;split at he
   ·rename_i cs hcs;cases hb:Nat.ble B β && (l.length == n) && Nat.ble (o+n) cs.length with
    | false=>simp only[hb,cond_false]at he; cases he
    | true=>
     simp only[hb,cond_true]at he;cases he;simp only[qaf]at hb;exact zar.set _ _ (qai hb.1.1)
   cases he
  ·cases he
 | mk n bytes z x y=>
  simp only[eff]at he;split at he
  ·rename_i l c h1 h2;cases hb:decide (0≤l) && decide (l≤c) && decide (c * (bytes:Int)≤zai)with
   | false=>simp only[hb,cond_false]at he; cases he
   | true=>simp only[hb,cond_true]at he; cases he; exact zar.snoc _ _ _
  ·cases he
 | app n bytes x y=>
  simp only[eff]at he;split at he
  ·rename_i k l h1 h2;cases hk:(k == 0)with
   | true=>simp only[hk,cond_true]at he; cases he; exact zar.refl _ _
   | false=>
    simp only[hk,cond_false]at he;cases hb:Nat.ble (k * bytes) zai with
    | false=>simp only[hb,cond_false]at he; cases he
    | true=>simp only[hb,cond_true]at he; cases he; exact zar.snoc _ _ _
  ·rename_i β o n' len cap k l h1 h2;cases hn:(n == n')with
   | false=>simp only[hn,qbO,cond_true]at he; cases he
   | true=>
    simp only[hn,qa8,cond_false]at he;cases hk:(k == 0)with
    | true=>simp only[hk,cond_true]at he; cases he; exact zar.refl _ _
    | false=>
     simp only[hk,cond_false]at he;split at he
     ·rename_i cs c hcs;cases hr:Nat.ble (len+k) c with
      | true=>
       simp only[hr,cond_true]at he;cases hb:Nat.ble B β && Nat.ble (o+(len+k)* n) cs.length with
       | false=>simp only[hb,cond_false]at he; cases he
       | true=>
        simp only[hb,cond_true]at he;cases he;simp only[qaf]at hb;exact zar.set _ _ (qai hb.1)
      | false=>
       simp only[hr,cond_false]at he;cases hb:Nat.ble (o+len * n) cs.length && Nat.ble ((len+k)* bytes) zai with
       | false=>simp only[hb,cond_false]at he; cases he
       | true=>simp only[hb,cond_true]at he; cases he; exact zar.snoc _ _ _
     ·rename_i cs hcs;cases hin:Nat.ble (o+(len+k)* n) cs.length with
      | true=>
       simp only[hin,cond_true]at he;cases hb:Nat.ble B β with
       | false=>simp only[hb,cond_false]at he; cases he
       | true=>
        simp only[hb,cond_true]at he;cases he;exact zar.set _ _ (qai hb)
      | false=>
       simp only[hin,cond_false]at he;cases hb:Nat.ble B β && (o+len * n == cs.length) && Nat.ble ((len+k)* bytes) zai with
       | false=>simp only[hb,cond_false]at he; cases he
       | true=>
        simp only[hb,cond_true]at he;cases he;simp only[qaf]at hb;exact(zar.set _ _ (qai hb.1.1)).trans (zar.snoc _ _ _)
     cases he
  ·cases he
 | copy n x y=>
  simp only[eff]at he;split at he
  ·rename_i β o n' len cap vy h1 h2;split at he
   ·rename_i k l h3;split at he
    ·rename_i cs hcs;cases hb:(n == n') && Nat.ble B β && Nat.ble (o+min k len * n) cs.length with
     | false=>simp only[hb,cond_false]at he; cases he
     | true=>
      simp only[hb,cond_true]at he;cases he;simp only[qaf]at hb;exact zar.set _ _ (qai hb.1.2)
    cases he
   cases he
  ·cases he
 | clr n z x=>
  simp only[eff]at he;split at he
  ·cases he; exact zar.refl _ _
  ·rename_i β o n' len cap h1;cases hn:!(n == n')with
   | true=>simp only[hn,cond_true]at he; cases he
   | false=>
    simp only[hn,cond_false]at he;cases hk:(len == 0)with
    | true=>simp only[hk,cond_true]at he; cases he; exact zar.refl _ _
    | false=>
     simp only[hk,cond_false]at he;split at he
     ·rename_i cs hcs;cases hb:Nat.ble B β && Nat.ble (o+len * n) cs.length with
      | false=>simp only[hb,cond_false]at he; cases he
      | true=>
       simp only[hb,cond_true]at he;cases he;simp only[qaf]at hb;exact zar.set _ _ (qai hb.1)
     cases he
  ·cases he
 | _=>simp[eff]at he
section
variable {P:Program} {B N:Nat} {w1 w:World} {ι:Io} {S:St} {a:Act} {r:Rec}
theorem FSim.put(hF:FSim P N B w1 ι S a w){d:Option Nat}{v:V}{u:Value}(hv:VRel ι v u):FSim P N B w1 ι (S.put d v) (a.put d u) w:=by
 cases d with
 | none=>exact hF
 | some k=>exact⟨hF.sim,hF.env.put hv,hF.dfs⟩
theorem FSim.heap(hF:FSim P N B w1 ι S a w){ι':Io}(hι:Io.le ι ι'){h':zaj}{w':World}(hS:Sim P B w1 ι' h' w'):FSim P N B w1 ι' { S with heap:=h' } a w':=⟨hS,hF.env.mono hι,hF.dfs.mono hι⟩
theorem Sim.zv5{h:zaj}(hS:Sim P B w1 ι h w):Sim P h.length w ι h w where
 base:=qan _
 below:=Below.refl _ _
 obj β o hβ:=by
  have hlt:β<h.length:=(qab.1 hβ).1;have:=hS.obj β o hβ;cases o with
  | blk cs=>
   obtain⟨b,s,sz,arr,T,fr,h1,h2,h3,h4,h5,_⟩:=this;exact⟨b,s,sz,arr,T,fr,h1,h2,h3,h4,h5,fun hc=>by omega⟩
  | _=>exact this
 own β o b s sz hβ _ hB:=by have:=(qab.1 hβ).1; omega
 old β o b s sz hβ hl _ hι:=hS.lt hβ hl hι
 inj β β' o o' b s sz s' sz' hβ _ _ _ hB:=by have:=(qab.1 hβ).1; omega
 scope:=hS.scope
theorem Sim.zyG{h h':zaj}{ι':Io}{w':World}(hS:Sim P B w1 ι h w)(hι:Io.le ι ι')(hS':Sim P h.length w ι' h' w')(hk:∀ β,β<h.length→h'[β]? = h[β]?):Sim P B w1 ι' h' w':=by
 have hold:∀ β o b s sz,β<h.length→h'[β]? = some o→o.live→ι' β=some (b,s,sz)→h[β]? = some o∧ι β=some (b,s,sz):=by
  intro β o b s sz hβ ho hl hb;rw[hk β hβ]at ho;obtain⟨b0,s0,sz0,ob,g1,g2⟩:=(hS.obj β o ho).at_ hl;have:=hι _ _ g1;rw[hb]at this; cases this;exact⟨ho,g1⟩
 refine⟨qam hS.base hS'.base,hS.below.trans (hS'.below.mono hS.below.size),?_,?_,?_,?_,hS'.scope⟩
 ·intro β o hβ;by_cases hlt:β<h.length
  ·rw[hk β hlt]at hβ;cases hd:o with
   | dead=>trivial
   | _=>
    rw[← hd];have hl:o.live:=by rw[hd]; trivial
    exact(hS.obj β o hβ).mono hι fun b s sz hb=>hS'.below.block b (hS.lt hβ hl hb)
  have:=hS'.obj β o hβ;cases o with
  | blk cs=>
   obtain⟨b,s,sz,arr,T,fr,h1,h2,h3,h4,h5,h6⟩:=this;exact⟨b,s,sz,arr,T,fr,h1,h2,h3,h4,h5,fun _=>h6 (by omega)⟩
  | _=>exact this
 ·intro β o b s sz hβ hl hB hb;by_cases hlt:β<h.length
  ·obtain⟨g1,g2⟩:=hold β o b s sz hlt hβ hl hb;exact hS.own β o b s sz g1 hl hB g2
  exact qam hS.below.size (hS'.own β o b s sz hβ hl (by omega) hb)
 ·intro β o b s sz hβ hl hB hb;obtain⟨g1,g2⟩:=hold β o b s sz (qbq hB hS.base) hβ hl hb;exact hS.old β o b s sz g1 hl hB g2
 intro β β' o o' b s sz s' sz' h1 h2 h3 h4 h5 h6 h7 h8;by_cases hlt:β<h.length
 ·obtain⟨g1,g2⟩:=hold β o b s sz hlt h1 h3 h7;by_cases hlt':β'<h.length
  ·obtain⟨g3,g4⟩:=hold β' o' b s' sz' hlt' h2 h4 h8;exact hS.inj β β' o o' b s sz s' sz' g1 g3 h3 h4 h5 h6 g2 g4
  have e1:=hS.lt g1 h3 g2;have e2:=hS'.own β' o' b s' sz' h2 h4 (by omega) h8;omega
 by_cases hlt':β'<h.length
 ·obtain⟨g3,g4⟩:=hold β' o' b s' sz' hlt' h2 h4 h8;have e1:=hS.lt g3 h4 g4;have e2:=hS'.own β o b s sz h1 h3 (by omega) h7;omega
 exact hS'.inj β β' o o' b s sz s' sz' h1 h2 h3 h4 (by omega) (by omega) h7 h8
end
def zho(rb:Option Nat)(P:Program)(o:Oper)(a:Act)(w:World)(Kc:Value→List Deferred→World→Prop)(Kp:Value→World→Prop):Prop:=
 match (o.semAt rb a.eval).run P w with
 | .ok (.value u) w'=>Kc u a.defers w'
 | .ok .skip w'=>Kc undef a.defers w'
 | .ok (.defer d) w'=>Kc undef (d :: a.defers) w'
 | .ok (.enter f args) w'=>CallsIn (FW none) 0 P f args w' fun en w''=>(∃ v,en=.returned v∧Kc v a.defers w'')∨(∃ v,en=.panicked [{ v:=v,recovered:=false }]∧Kp v w'')
 | .ok (.round l f tmps assign body) w'=>RoundIn (FW none) 0 P l f tmps assign body w' fun en w''=>(∃ v,en=.returned v∧Kc v a.defers w'')∨(∃ v,en=.panicked [{ v:=v,recovered:=false }]∧Kp v w'')
 | .halt (.panic v) w'=>Kp v w'
 | _=>False
theorem zlQ{F:Fence}{n:Nat}{P:Program}{ops:Array Oper}{Q Q':Exit→Act→World→Prop}(hQ:∀ en a w,Q en a w→Q' en a w){i:Nat}{K:Act→World→Prop}{a:Act}{w:World}(h:wpOpIn F n P ops Q i K a w):wpOpIn F n P ops Q' i K a w:=by
 unfold wpOpIn at h ⊢;split
 ·rename_i ho; simp only[ho]at h; exact h
 rename_i o ho;simp only[ho]at h;split
 ·rename_i hw;simp only[hw,if_true]at h;refine⟨h.1,?_⟩;have h:=h.2;generalize (o.semAt F.round a.eval).run P w=res at h;cases res with
  | ok x w'=>
   cases x<;>simp only[Oper.uponIn]at h ⊢ <;>
    first
     | exact h
     | exact⟨h.1,CallsIn.mono h.2 (fun e w'' he=>by cases e<;>first | exact he | exact hQ _ _ _ he | (obtain⟨a0,w0,h0⟩:=he; exact⟨a0,w0,hQ _ _ _ h0⟩))⟩
     | exact⟨h.1,RoundIn.mono h.2 (fun e w'' he=>by cases e<;>first | exact he | exact hQ _ _ _ he | (obtain⟨a0,w0,h0⟩:=he; exact⟨a0,w0,hQ _ _ _ h0⟩))⟩
  | halt x w'=>cases x<;>simp only[Oper.uponIn]at h ⊢<;>first | exact hQ _ _ _ h | exact h
 rename_i hw;simp only[hw]at h;exact h
theorem zbL{F:Fence}{n:Nat}{P:Program}{ops:Array Oper}{Q Q':Exit→Act→World→Prop}(hQ:∀ en a w,Q en a w→Q' en a w):∀(l:List Nat) (a:Act) (w:World),wpOpsIn F n P ops Q l a w→wpOpsIn F n P ops Q' l a w
 | [],a,w,h=>hQ _ _ _ h
 | i :: l,a,w,h=>by
  simp only[wpOpsIn]at h ⊢;split
  ·rename_i ho; simp only[ho]at h; exact zbL hQ l a w h
  rename_i o ho;simp only[ho]at h;split
  ·rename_i hw;simp only[hw,if_true]at h;refine⟨h.1,?_⟩;have h:=h.2;generalize (o.semAt F.round a.eval).run P w=res at h;cases res with
   | ok x w'=>
    cases x<;>simp only[Oper.uponIn]at h ⊢ <;>
     first
      | exact zbL hQ l _ _ h
      | exact⟨h.1,CallsIn.mono h.2 (fun e w'' he=>by cases e<;>first | exact zbL hQ l _ _ he | exact hQ _ _ _ he | (obtain⟨a0,w0,h0⟩:=he; exact⟨a0,w0,hQ _ _ _ h0⟩))⟩
      | exact⟨h.1,RowsIn.mono h.2 (fun _ _ he=>zbL hQ l _ _ he)⟩
      | exact⟨h.1,RoundIn.mono h.2 (fun e w'' he=>by cases e<;>first | exact zbL hQ l _ _ he | exact hQ _ _ _ he | (obtain⟨a0,w0,h0⟩:=he; exact⟨a0,w0,hQ _ _ _ h0⟩))⟩
   | halt x w'=>cases x<;>simp only[Oper.uponIn]at h ⊢<;>first | exact hQ _ _ _ h | exact h
  rename_i hw;simp only[hw]at h;exact⟨h.1,zbL hQ l _ _ h.2⟩
section
variable {P:Program} {B N:Nat} {w1 w:World} {ι:Io} {S:St} {a:Act} {r:Rec} {ops:Array Oper} {rd rb:Option Nat} {Q:Exit→Act→World→Prop}
theorem zho.wp{o:Oper}{Kc:Value→List Deferred→World→Prop}{Kp:Value→World→Prop}{next:Act→World→Prop}(h:zho rb P o a w Kc Kp)(hn:∀ v ds w',Kc v ds w'→next (({ a with defers:=ds }:Act).put o.dst v) w')
  (hq:∀ v w',Kp v w'→Q (.panic [{ v:=v,recovered:=false }]) a w'):o.wpIn (FW rb) 0 P a w next Q:=by
 unfold zho at h;refine⟨fun _ _=>trivial,?_⟩;show o.uponIn (FW rb) 0 P a next Q ((o.semAt rb a.eval).run P w);generalize (o.semAt rb a.eval).run P w=res at h;split at h
 ·exact hn _ _ _ h
 ·exact hn _ _ _ h
 ·exact hn _ _ _ h
 ·refine⟨zhx rb 0,CallsIn.mono (F:=FW rb) (n:=0) h fun en w'' hk=>?_⟩;rcases hk with⟨v,he,hk⟩| ⟨v,he,hk⟩
  ·subst he; exact hn _ _ _ hk
  subst he; exact hq _ _ hk
 ·refine⟨zhx rb 0,RoundIn.mono (F:=FW rb) (n:=0) h fun en w'' hk=>?_⟩;rcases hk with⟨v,he,hk⟩| ⟨v,he,hk⟩
  ·subst he; exact hn _ _ _ hk
  subst he; exact hq _ _ hk
 ·exact hq _ _ h
 exact h.elim
def zwJ:V→Option Bool
 | .lit (.bool b)=>some b
 | _=>none
def zzu:Value→Option Bool
 | .bool b=>some b
 | _=>none
theorem zwM{v:V}{u:Value}(h:VRel ι v u):zwJ v=zzu u:=by
 cases h with
 | lit=>cases u<;>rfl
 | _=>rfl
theorem zm5(env:List V)(k:Nat)(want:Bool):wanted env (some (k,want))=((env[k]?).bind zwJ == some want):=by
 simp only[wanted];cases env[k]? with
 | none=>rfl
 | some v=>
  cases v with
  | lit x=>cases x<;>simp[zwJ]
  | _=>rfl
theorem zpX(ops:Array Oper)(tmps:Array Value)(j:Nat):yielded ops tmps j=(((ops[j]?).bind (·.dst)).bind (tmps[·]?)).bind zzu:=by
 unfold yielded;cases((ops[j]?).bind (·.dst)).bind (tmps[·]?)with
 | none=>rfl
 | some u=>cases u<;>rfl
theorem zji(hE:zbR ι N S.env a)(o:Oper):wanted S.env (irO P N ops o).g=Region.wanted o (yielded ops a.tmps):=by
 unfold Region.wanted irO;cases hg:o.guard with
 | none=>simp[wanted]
 | some jw=>
  obtain⟨j,want⟩:=jw;simp only[];rw[zm5,zpX];congr 1
  cases hd:(ops[j]?).bind (·.dst)with
  | none=>
   have h1:S.env[N]? = none:=qaN (by rw[hE.2.1]; exact qan _);simp[h1]
  | some d=>
   simp only[qbd,qaa];rcases qa3 d N with hlt | hge
   ·have hlt1:d<S.env.length:=by rw[hE.2.1]; exact hlt
    have hlt':d<a.tmps.size:=by rw[hE.1]; exact hlt
    have h1:S.env[d]? = some S.env[d]:=qac hlt1;have h2:=hE.2.2 d _ h1;have h3:a.tmps.getD d undef=a.tmps[d]:=by simp[hlt']
    rw[h3]at h2;rw[h1,qaV hlt'];exact zwM h2
   have h1:S.env[d]? = none:=qaN (by rw[hE.2.1]; exact hge);have h2:a.tmps[d]? = none:=qbN (by rw[hE.1]; exact hge);rw[h1,h2]; rfl
theorem zgo(hF:FSim P N B w1 ι S a w)(o:Oper):wanted S.env (irO P N ops o).g=Region.wanted o (yielded ops a.tmps):=zji hF.env o
theorem zmF{o:Oper}{c:Call}{x:Operand}{f:Nat}{xs ys:Array Value}(ho:o.op=.call c)(hc:c.callee=.value x)(hx:a.eval x=.func (.func f) xs ys)(hf:zfy P f=true)(w':World):
  (execOp a.eval o).run P w'=.ok (.enter f (xs ++ c.args.map a.eval ++ ys)) w':=by
 unfold zfy at hf;cases hfn:P.funcs[f]? with
 | none=>rw[hfn]at hf; cases hf
 | some fn=>
  rw[hfn]at hf;simp only[qaf,qbn,beq_eq_false_iff_ne]at hf;have h1:¬ (fn.name = "runtime.NumGoroutine"):=hf.1;obtain⟨bd,hbd⟩:=qa1.1 hf.2;simp[execOp,ho,resolve,hc,hx,Deferred.ofValue,invoke,callFunc,hfn,h1,hbd]
theorem zfE.append{ι:Io}{l l':List V}{arr arr':Array Value}(h1:zfE ι l arr)(h2:zfE ι l' arr'):zfE ι (l ++ l') (arr ++ arr'):=by
 refine⟨by simp[h1.1,h2.1],fun i x v hx hv=>?_⟩;rw[qbk]at hx;rw[qda]at hv;rw[h1.1]at hv;split at hx
 ·rename_i hc;rw[if_pos hc]at hv;exact h1.2 i x v hx hv
 rename_i hc;rw[if_neg hc]at hv;exact h2.2 _ x v hx hv
theorem zjo{N:Nat}:∀(ps:List Nat) (vs:List V) (env env':List V) (us:List Value) (tm:Array Value),ze4 env ps vs=some env'→vs.length=us.length→(∀(i:Nat) x v,vs[i]? = some x→us[i]? = some v→VRel ι x v)→
  zbR ι N env ⟨tm,[]⟩→ps.length=vs.length∧zbR ι N env' ⟨(ps.zip us).foldl (fun t x=>t.setIfInBounds x.1 x.2) tm,[]⟩
 | [],[],env,env',us,tm,hs,hl,_,hE=>by
  simp[ze4]at hs;subst hs;exact⟨rfl,by simpa using hE⟩
 | p :: ps,v :: vs,env,env',us,tm,hs,hl,hv,hE=>by
  cases us with
  | nil=>simp at hl
  | cons u us=>
   simp only[ze4]at hs;have hE':=hE.put (d:=p) (hv 0 v u rfl rfl);obtain⟨h1,h2⟩:=zjo ps vs _ env' us (tm.setIfInBounds p u) hs (by simpa using hl) (fun i x w hx hw=>hv (i+1) x w (by simpa using hx) (by simpa using hw)) hE';exact⟨by simp[h1],by simpa using h2⟩
 | [],_ :: _,_,_,_,_,hs,_,_,_=>by simp[ze4]at hs
 | _ :: _,[],_,_,_,_,hs,_,_,_=>by simp[ze4]at hs
theorem Sim.zwe{h h':zaj}(hS:Sim P B w1 ι h w){l:Nat}{st:Bool}{pend:Option Jump}(hB:B≤l)(hs:zcW h l st pend=some h'){b s sz:Nat}(hι:ι l=some (b,s,sz)):
  ∃ R,w.heap[b]? = some (.loop R)∧Sim P B w1 ι h' (zfW w b (.loop { R with state:=(bif st then .ready else bif pend.isSome then .done else .busy),pending:=pend.map zfp })):=by
 unfold zcW at hs;split at hs
 ·rename_i st0 pend0 env ps asg body hl;cases hs;obtain⟨b',s',sz',R,h1,h2,h3,h4,h5,h6,h7,h8,h9⟩:=hS.obj l _ hl;rw[hι]at h1; cases h1;refine⟨R,h2,hS.change (o':=.loop st pend env ps asg body) hl trivial hB hι (zbE _ _ _) ⟨b,s,sz,_,hι,zc3 _ (zax h2),rfl,rfl,h5,h6,h7,h8,h9⟩⟩
 cases hs
theorem zep{h h':zaj}{l:Nat}{st:Bool}{pend:Option Jump}(hs:zcW h l st pend=some h'){B:Nat}(hB:B≤l):zar B h h':=by
 unfold zcW at hs;split at hs
 ·cases hs; exact zar.set _ _ hB
 cases hs
theorem zqQ(ps:Array Nat)(us:Array Value)(tm:Array Value):(ps.zip us).foldl (fun t (x:Nat×Value)=>t.setIfInBounds x.1 x.2) tm=(ps.toList.zip us.toList).foldl (fun t x=>t.setIfInBounds x.1 x.2) tm:=by
 rw[← Array.foldl_toList,Array.toList_zip]
theorem znQ(hr:RecOk P r){h h':zaj}{l:Nat}{vs:List V}{cr:CR}(hc:round r B l vs h=some (cr,h'))(hS:Sim P B w1 ι h w){b s sz:Nat}(hι:ι l=some (b,s,sz)){us:Array Value}(hu:zfE ι vs us):
  ∃ f tmps assign body,(Instr.yield b us).run P w=.ok (.round b f tmps assign body) w∧RoundIn (FW none) 0 P b f tmps assign body w (zev P B w1 ι cr h'):=by
 unfold round at hc;split at hc
 ·rename_i env ps asg body hl;cases hB:Nat.ble B l with
  | false=>simp only[hB,cond_false]at hc; cases hc
  | true=>
   simp only[hB,cond_true]at hc;have hB:=qai hB;split at hc
   ·rename_i env' hset;obtain⟨b',s',sz',R,g1,g2,g3,g4,g5,g6,g7,g8,g9⟩:=hS.obj l _ hl;rw[hι]at g1; cases g1;obtain⟨hlen,hE'⟩:=zjo (N:=env.length) ps vs env env' us.toList R.tmps hset (by simpa using hu.1.symm) (fun i x v hx hv=>hu.2 i x v hx (by simpa using hv)) ⟨g5,rfl,g6⟩;have hsz:us.size=R.params.size:=by
     have h1:R.params.toList.length=vs.length:=by rw[g7]; exact hlen
     rw[hu.1,← h1]; simp
    refine⟨R.fn,_,R.assign,R.body,run_yield g2 hsz,?_⟩;rw[zqQ,g7];refine roundIn_of_wpIn trivial ?_;split at hc
    ·rename_i env1 h1 hcode;have hco:=(hr.code _ _ _ _ _ _ hcode).1 env.length R.assign w1 ι _ w (some b) g8 ⟨hS,hE',.nil⟩ (.inr ⟨l,b,s,sz,rfl,rfl,hι⟩);refine wpIn_mono hco fun en a1 w2 hp=>?_
     obtain⟨ι1,hle1,rfl,hF1⟩:=hp;show ∃ w₂,(Instr.beginRound b).run P w2=.ok () w₂∧_;split at hc
     ·rename_i e1 p1 a1' b1 hl1;have hι1:=hle1 _ _ hι;obtain⟨b'',s'',sz'',R1,k1,k2,k3,k4,k5,k6,k7,k8,k9⟩:=hF1.sim.obj l _ hl1;rw[hι1]at k1; cases k1;refine⟨_,run_beginRound k2 k3,?_⟩;have hS2:Sim P B w1 ι1 (h1.set l (.loop false none e1 p1 a1' b1)) (zfW w2 b (.loop { R1 with state:=.busy })):=
       hF1.sim.change (o':=.loop false none e1 p1 a1' b1) hl1 trivial hB hι1 (zbE _ _ _) ⟨b,s,sz,_,hι1,zc3 _ (zax k2),rfl,k4,k5,k6,k7,k8,k9⟩
      cases hbody:r.code B (some l) body ⟨env1,[],h1.set l (.loop false none e1 p1 a1' b1)⟩with
      | none=>rw[hbody]at hc; simp[zbo]at hc
      | some res=>
       obtain⟨ex,S2⟩:=res;have hbo:=(hr.code _ _ _ _ _ _ hbody).1 env.length R.body w1 ι1 a1 (zfW w2 b (.loop { R1 with state:=.busy })) (some b) g9 ⟨hS2,hF1.env,hF1.dfs⟩ (.inr ⟨l,b,s,sz,rfl,rfl,hι1⟩);rw[hbody]at hc;have fin:∀(h2:zaj) (w3:World) (ι2:Io) (st:Bool) (pend:Option Jump),Io.le ι1 ι2→Sim P B w1 ι2 h2 w3→(st=true↔pend=none)→zcW h2 l st pend=some h' →
         ∃ w4,(Instr.endRound b (pend.map zfp)).run P w3=.ok (.bool pend.isNone) w4∧Sim P B w1 ι2 h' w4:=by
        intro h2 w3 ι2 st pend hle hS3 hst hset;obtain⟨R3,q1,q2⟩:=hS3.zwe hB hset (hle _ _ hι1);have hen:=run_endRound (P:=P) (pend.map zfp) q1;rw[Option.isNone_map]at hen;refine⟨_,hen,?_⟩;have:(if pend.isNone=true then LoopState.ready else .done)=(bif st then .ready else bif pend.isSome then .done else .busy):=by
         cases pend with
         | none=>simp[hst.2 rfl]
         | some j=>
          have:st=false:=by
           cases st with
           | false=>rfl
           | true=>have:=hst.1 rfl; cases this
          simp[this]
        rw[← this]at q2;exact q2
       refine wpIn_mono hbo fun en2 a3 w3 hp2=>?_
       obtain⟨ι2,hle2,hp2⟩:=hp2;cases ex with
       | normal=>
        obtain⟨rfl,hF2⟩:=hp2;obtain⟨env2,dfs2,h2⟩:=S2;cases dfs2 with
        | cons _ _=>simp[zbo]at hc
        | nil=>
         simp only[zbo,qak,qag]at hc;obtain⟨h3,hset2,rfl,rfl⟩:=hc;obtain⟨w4,q1,q2⟩:=fin h2 w3 ι2 true none hle2 hF2.sim (by simp) hset2;exact⟨_,w4,q1,ι2,hle1.trans hle2,q2,_,rfl,.lit _⟩
       | ret=>
        obtain⟨rfl,hF2⟩:=hp2;obtain⟨env2,dfs2,h2⟩:=S2;cases dfs2 with
        | cons _ _=>simp[zbo]at hc
        | nil=>
         simp only[zbo,qak,qag]at hc;obtain⟨h3,hset2,rfl,rfl⟩:=hc;obtain⟨w4,q1,q2⟩:=fin h2 w3 ι2 false (some .ret) hle2 hF2.sim (by simp) hset2;exact⟨_,w4,q1,ι2,hle1.trans hle2,q2,_,rfl,.lit _⟩
       | exit id=>
        obtain⟨rfl,hF2⟩:=hp2;obtain⟨env2,dfs2,h2⟩:=S2;cases dfs2 with
        | cons _ _=>simp[zbo]at hc
        | nil=>
         simp only[zbo,qak,qag]at hc;obtain⟨h3,hset2,rfl,rfl⟩:=hc;obtain⟨w4,q1,q2⟩:=fin h2 w3 ι2 false (some (.exit id)) hle2 hF2.sim (by simp) hset2;exact⟨_,w4,q1,ι2,hle1.trans hle2,q2,_,rfl,.lit _⟩
       | panic v e=>
        obtain⟨env2,dfs2,h2⟩:=S2;cases dfs2<;>simp[zbo]at hc
     cases hc
    cases hc
   cases hc
 cases hc
theorem ziR(hr:RecOk P r){h h':zaj}{l:Nat}{vs:List V}{cr:CR}(hc:round r B l vs h=some (cr,h')):zar B h h':=by
 unfold round at hc;split at hc
 ·cases hB:Nat.ble B l with
  | false=>simp only[hB,cond_false]at hc; cases hc
  | true=>
   simp only[hB,cond_true]at hc;have hB:=qai hB;split at hc
   ·split at hc
    ·rename_i env1 h1 hcode;have k1:=(hr.code _ _ _ _ _ _ hcode).2;split at hc
     ·rename_i body _ _ _ _ e1 p1 a1 b1 hl1;have k2:zar B h1 (h1.set l (.loop false none e1 p1 a1 b1)):=zar.set _ _ hB;generalize hb:r.code B (some l) _ ⟨env1,[],h1.set l (.loop false none e1 p1 a1 b1)⟩=res at hc;unfold zbo at hc;split at hc
      ·simp only[qak,qag]at hc;obtain⟨h3,hset2,_,rfl⟩:=hc;exact((k1.trans k2).trans (hr.code _ _ _ _ _ _ hb).2).trans (zep hset2 hB)
      ·simp only[qak,qag]at hc;obtain⟨h3,hset2,_,rfl⟩:=hc;exact((k1.trans k2).trans (hr.code _ _ _ _ _ _ hb).2).trans (zep hset2 hB)
      ·simp only[qak,qag]at hc;obtain⟨h3,hset2,_,rfl⟩:=hc;exact((k1.trans k2).trans (hr.code _ _ _ _ _ _ hb).2).trans (zep hset2 hB)
      cases hc
     cases hc
    cases hc
   cases hc
 cases hc
end
end Go.Mx
