/-
 What a machine's run of code, of a call, of a deferred call must come to; one operation; regions in the order of the text. Conditions: none.
-/
import Derived.Test.YtbjogdohfhdaiaaGreatErJ17
import Derived.RangeFuncRecord
set_option linter.unusedSimpArgs false
set_option linter.unusedVariables false
namespace Go.Mx
open Go Go.RowKit
def FW(rb:Option Nat):Fence:={ Fence.wide with round:=rb }
theorem zjZ(rb:Option Nat)(n:Nat):(FW rb).depth.isSome=true->1<=n:=λh=>by cases h
def zhl(ι:Io)(rd rb:Option Nat):Prop:=(rd=none/\rb=none)\/∃ l b s sz,rd=some l/\rb=some b/\ι l=some (b,s,sz)
theorem zhl.mono{ι ι':Io}(h:Io.le ι ι'){rd rb:Option Nat}(hr:zhl ι rd rb):zhl ι' rd rb:=by
 grind [zhl,Go.Mx.Io.le]
theorem zhl.zzj{ι:Io}{rd rb:Option Nat}(hr:zhl ι rd rb)(h:rd.isNone=true):rb=none:=by
 grind [zhl]
def zfT(P:Program)(N B:Nat)(w1:World)(ι:Io)(ex:Ex)(S':St):Exit->Act->World->Prop:=λen a' w'=>∃ ι',Io.le ι ι' /\
 match ex with
 | .panic v e=>∃ u,en=.panic [{ v:=u,recovered:=false }]/\VRel ι' v u/\Sim P B w1 ι' S'.heap w'/\DfsRel ι' S'.dfs a'.defers/\(e=true->zcq ι' N S'.env a')
 | .normal=>en=.normal/\FSim P N B w1 ι' S' a' w'
 | .exit id=>en=.exit id/\FSim P N B w1 ι' S' a' w'
 | .ret=>en=.ret/\FSim P N B w1 ι' S' a' w'
theorem zfT.mono{P:Program}{N B:Nat}{w1:World}{ι ι':Io}(h:Io.le ι ι'){ex:Ex}{S':St}{en:Exit}{a':Act}{w':World}(hp:zfT P N B w1 ι' ex S' en a' w'):zfT P N B w1 ι ex S' en a' w':=by
 obtain⟨ι'',h1,h2⟩:=hp;exact⟨ι'',h.trans h1,h2⟩
def zFh(P:Program)(B:Nat)(rd:Option Nat)(c:C)(S:St)(ex:Ex)(S':St):Prop:=
 ∀(N:Nat) (code:Code) (w1:World) (ι:Io) (a:Act) (w:World) (rb:Option Nat),comp P N code=c->FSim P N B w1 ι S a w->zhl ι rd rb->code.wpIn (FW rb) 0 P (zfT P N B w1 ι ex S') a w
def zfw(P:Program)(B:Nat)(w1:World)(ι:Io)(cr:CR)(h':zam):Ending->World->Prop:=λen w'=>∃ ι',Io.le ι ι'/\Sim P B w1 ι' h' w' /\
 match cr with
 | .ret v=>∃ u,en=.returned u/\VRel ι' v u
 | .pan v=>∃ u,en=.panicked [{ v:=u,recovered:=false }]/\VRel ι' v u
def zqa(P:Program)(B:Nat)(f:Nat)(args:List V)(h:zam)(cr:CR)(h':zam):Prop:=
 ∀(w1:World) (ι:Io) (w:World) (vs:Array Value),Sim P B w1 ι h w->zgq ι args vs->zhp P f=true/\CallsIn (FW none) 0 P f vs w (zfw P B w1 ι cr h')
def zG2(P:Program)(B:Nat)(f:Nat)(args:List V)(h:zam)(cr:CR)(h':zam):Prop:=
 ∀(w1:World) (ι:Io) (w:World) (vs:Array Value),Sim P B w1 ι h w->zgq ι args vs->CallsIn (FW none) 0 P f vs w λen w'=>zfw P B w1 ι cr h' en w'/\zvg B h ι w w' (args.head?.bind zum)
def zgb(P:Program)(B:Nat)(f:Nat)(args:List V)(h:zam)(cr:CR)(h':zam):Prop:=zqa P B f args h cr h'/\(wrF f=true->zG2 P B f args h cr h')
variable{h h':zam}
theorem zgb.of{P:Program}{B f:Nat}{args:List V}{cr:CR}(h0:zqa P B f args h cr h')(hw:wrF f=false):zgb P B f args h cr h':=⟨h0,λh=>by rw[hw]at h; cases h⟩
def zff(pv:Option Value):FrameMode:=match pv with | none=>.returning | some u=>.panicking [{ v:=u,recovered:=false }]
def zok(ι:Io):Option V->Option Value->Prop
 | none,none=>True
 | some v,some u=>VRel ι v u
 | _,_=>False
def zxx(P:Program)(B:Nat)(f:Nat)(args:List V)(pv:Option V)(h:zam)(pv':Option V)(h':zam):Prop:=
 ∀(w1:World) (ι:Io) (w:World) (vs:Array Value) (pu:Option Value),Sim P B w1 ι h w->zgq ι args vs->zok ι pv pu->zhp P f=true /\
  CallsDIn (FW none) 0 P f vs (zff pu) w λen u' w'=>(∃ v,en=.returned v)/\∃ ι' pu',Io.le ι ι'/\Sim P B w1 ι' h' w'/\settle u'=zff pu'/\zok ι' pv' pu'
def zaG(B:Nat)(h h':zam):Prop:=B<=h.length->h.length<=h'.length/\∀ β,β<B->h'[β]? = h[β]?
structure RecOk (P:Program) (r:Rec):Prop where
 code:∀ B rd c S ex S',r.code B rd c S=some (ex,S')->zFh P B rd c S ex S'/\zaG B S.heap S'.heap
 call:∀ B f args h cr h',r.call B f args h=some (cr,h')->zgb P B f args h cr h'/\zaG B h h'
 dcall:∀ B f args pv h pv' h',r.dcall B f args pv h=some (pv',h')->zxx P B f args pv h pv' h'/\zaG B h h'
theorem zaG.refl(B:Nat)(h:zam):zaG B h h:=λ_=>⟨qap _,λ_ _=>rfl⟩
theorem zaG.trans{B:Nat}{h'':zam}(h1:zaG B h h')(h2:zaG B h' h''):zaG B h h'':=λhB=>by
 grind [zaG]
theorem zaG.snoc(B:Nat)(h:zam)(o:Ob):zaG B h (h ++ [o]):=λhB=>⟨by simp,λβ hβ=>qar (by omega)⟩
theorem zaG.set{B β:Nat}(h:zam)(o:Ob)(hB:B<=β):zaG B h (h.set β o):=λ_=>⟨by simp,λγ hγ=>qaD (by omega)⟩
theorem zpm{B:Nat}{env:List V}{i:I}{v:V}(he:eff B h env i=some (v,h')):zaG B h h':=by
 cases i with
 | alloc z=>grind [eff,zaG]
 | box x=>
  grind [eff,zaG]
 | bsl n len z parts=>
  grind [eff,zaG]
 | store n x y=>
  grind [eff,zaG.set,qad]
 | mk n bytes z x y=>
  grind [eff,zaG]
 | app n bytes x y=>
  simp only[eff]at he;split at he
  .grind [zaG]
  .rename_i β o n' len cap k l h1 h2;cases hn:(n == n')with
   | false=>simp_all
   | true=>
    simp only[hn,qbs,qdu]at he;cases hk:(k == 0)with
    | true=>grind [zaG]
    | false=>
     simp only[hk,qdu]at he;split at he
     .grind [zaG.set,qad,zaG]
     .rename_i cs hcs;cases hin:Nat.ble (o+(len+k)* n) cs.length with
      | true=>
       grind [zaG.set,qad]
      | false=>
       simp only[hin,qdu]at he;cases hb:Nat.ble B β && (o+len * n == cs.length) && Nat.ble ((len+k)* bytes) zah with
       | false=>grind
       | true=>
        simp only[hb,qdt]at he;cases he;simp only[qai]at hb;exact(zaG.set _ _ (qad hb.1.1)).trans (zaG.snoc _ _ _)
     cases he
  .cases he
 | copy n x y=>
  simp only[eff]at he
  grind [zaG.set,qad]
 | clr n z x=>
  grind [eff,zaG.set,qad,zaG]
 | _=>simp[eff]at he
section
variable {P:Program} {B N:Nat} {w1 w:World} {ι:Io} {S:St} {a:Act} {r:Rec}
theorem FSim.put(hF:FSim P N B w1 ι S a w){d:Option Nat}{v:V}{u:Value}(hv:VRel ι v u):FSim P N B w1 ι (S.put d v) (a.put d u) w:=by
 cases d with
 | none=>exact hF
 | some k=>exact⟨hF.sim,hF.env.put hv,hF.dfs⟩
theorem FSim.heap(hF:FSim P N B w1 ι S a w){ι':Io}(hι:Io.le ι ι'){h':zam}{w':World}(hS:Sim P B w1 ι' h' w'):FSim P N B w1 ι' { S with heap:=h' } a w':=⟨hS,hF.env.mono hι,hF.dfs.mono hι⟩
theorem Sim.zz8{h:zam}(hS:Sim P B w1 ι h w):Sim P h.length w ι h w where
 base:=qap _
 below:=Below.refl _ _
 obj β o hβ:=by
  have hlt:β<h.length:=(qab.1 hβ).1;have:=hS.obj β o hβ;cases o with
  | blk cs=>
   grind [Go.Mx.zlp]
  | _=>exact this
 own β o b s sz hβ _ hB:=by have:=(qab.1 hβ).1; omega
 old β o b s sz hβ hl _ hι:=hS.lt hβ hl hι
 inj β β' o o' b s sz s' sz' hβ _ _ _ hB:=by have:=(qab.1 hβ).1; omega
 scope:=hS.scope
theorem Sim.zEP{h h':zam}{ι':Io}{w':World}(hS:Sim P B w1 ι h w)(hι:Io.le ι ι')(hS':Sim P h.length w ι' h' w')(hk:∀ β,β<h.length->h'[β]? = h[β]?):Sim P B w1 ι' h' w':=by
 have hold:∀ β o b s sz,β<h.length->h'[β]? = some o->o.live->ι' β=some (b,s,sz)->h[β]? = some o/\ι β=some (b,s,sz):=by
  grind [zlp.at_,Go.Mx.Sim,Go.Mx.Io.le]
 refine⟨qaq hS.base hS'.base,hS.below.trans (hS'.below.mono hS.below.size),?_,?_,?_,?_,hS'.scope⟩
 .intro β o hβ;by_cases hlt:β<h.length
  .rw[hk β hlt]at hβ;cases hd:o with
   | dead=>trivial
   | _=>
    rw[<- hd];have hl:o.live:=by rw[hd]; trivial
    exact(hS.obj β o hβ).mono hι λb s sz hb=>hS'.below.block b (hS.lt hβ hl hb)
  have:=hS'.obj β o hβ;cases o with
  | blk cs=>
   grind [Go.Mx.zlp]
  | _=>exact this
 .intro β o b s sz hβ hl hB hb;by_cases hlt:β<h.length
  .grind [Go.Mx.Sim]
  exact qaq hS.below.size (hS'.own β o b s sz hβ hl (by omega) hb)
 .grind [Go.Mx.Sim]
 grind [Go.Mx.Sim]
end
def ziT(rb:Option Nat)(P:Program)(o:Oper)(a:Act)(w:World)(Kc:Value->List Deferred->World->Prop)(Kp:Value->World->Prop):Prop:=
 match (o.semAt rb a.eval).run P w with
 | .ok (.value u) w'=>Kc u a.defers w'
 | .ok .skip w'=>Kc undef a.defers w'
 | .ok (.defer d) w'=>Kc undef (d :: a.defers) w'
 | .ok (.enter f args) w'=>CallsIn (FW none) 0 P f args w' λen w''=>(∃ v,en=.returned v/\Kc v a.defers w'')\/(∃ v,en=.panicked [{ v:=v,recovered:=false }]/\Kp v w'')
 | .ok (.round l f tmps assign body) w'=>RoundIn (FW none) 0 P l f tmps assign body w' λen w''=>(∃ v,en=.returned v/\Kc v a.defers w'')\/(∃ v,en=.panicked [{ v:=v,recovered:=false }]/\Kp v w'')
 | .halt (.panic v) w'=>Kp v w'
 | _=>False
theorem zoD{F:Fence}{n:Nat}{P:Program}{ops:Array Oper}{Q Q':Exit->Act->World->Prop}(hQ:∀ en a w,Q en a w->Q' en a w){i:Nat}{K:Act->World->Prop}{a:Act}{w:World}(h:wpOpIn F n P ops Q i K a w):wpOpIn F n P ops Q' i K a w:=by
 unfold wpOpIn at h ⊢;split
 .simp_all
 rename_i o ho;simp only[ho]at h;split
 .rename_i hw;simp only[hw,if_true]at h;refine⟨h.1,?_⟩;have h:=h.2;generalize (o.semAt F.round a.eval).run P w=res at h;cases res with
  | ok x w'=>
   cases x<;>simp only[Oper.uponIn]at h ⊢ <;>
    first
     | exact h
     | exact⟨h.1,CallsIn.mono h.2 (λe w'' he=>by cases e<;>first | exact he | exact hQ _ _ _ he | (obtain⟨a0,w0,h0⟩:=he; exact⟨a0,w0,hQ _ _ _ h0⟩))⟩
     | exact⟨h.1,RoundIn.mono h.2 (λe w'' he=>by cases e<;>first | exact he | exact hQ _ _ _ he | (obtain⟨a0,w0,h0⟩:=he; exact⟨a0,w0,hQ _ _ _ h0⟩))⟩
  | halt x w'=>cases x<;>simp only[Oper.uponIn]at h ⊢<;>first | exact hQ _ _ _ h | exact h
 simp_all
theorem zcF{F:Fence}{n:Nat}{P:Program}{ops:Array Oper}{Q Q':Exit->Act->World->Prop}(hQ:∀ en a w,Q en a w->Q' en a w):∀(l:List Nat) (a:Act) (w:World),wpOpsIn F n P ops Q l a w->wpOpsIn F n P ops Q' l a w
 | [],a,w,h=>hQ _ _ _ h
 | i :: l,a,w,h=>by
  simp only[wpOpsIn]at h ⊢;split
  .rename_i ho; simp only[ho]at h; exact zcF hQ l a w h
  rename_i o ho;simp only[ho]at h;split
  .rename_i hw;simp only[hw,if_true]at h;refine⟨h.1,?_⟩;have h:=h.2;generalize (o.semAt F.round a.eval).run P w=res at h;cases res with
   | ok x w'=>
    cases x<;>simp only[Oper.uponIn]at h ⊢ <;>
     first
      | exact zcF hQ l _ _ h
      | exact⟨h.1,CallsIn.mono h.2 (λe w'' he=>by cases e<;>first | exact zcF hQ l _ _ he | exact hQ _ _ _ he | (obtain⟨a0,w0,h0⟩:=he; exact⟨a0,w0,hQ _ _ _ h0⟩))⟩
      | exact⟨h.1,RowsIn.mono h.2 (λ_ _ he=>zcF hQ l _ _ he)⟩
      | exact⟨h.1,RoundIn.mono h.2 (λe w'' he=>by cases e<;>first | exact zcF hQ l _ _ he | exact hQ _ _ _ he | (obtain⟨a0,w0,h0⟩:=he; exact⟨a0,w0,hQ _ _ _ h0⟩))⟩
   | halt x w'=>cases x<;>simp only[Oper.uponIn]at h ⊢<;>first | exact hQ _ _ _ h | exact h
  rename_i hw;simp only[hw]at h;exact⟨h.1,zcF hQ l _ _ h.2⟩
section
variable {P:Program} {B N:Nat} {w1 w:World} {ι:Io} {S:St} {a:Act} {r:Rec} {ops:Array Oper} {rd rb:Option Nat} {Q:Exit->Act->World->Prop}
theorem ziT.wp{o:Oper}{Kc:Value->List Deferred->World->Prop}{Kp:Value->World->Prop}{next:Act->World->Prop}(h:ziT rb P o a w Kc Kp)(hn:∀ v ds w',Kc v ds w'->next (({ a with defers:=ds }:Act).put o.dst v) w')
  (hq:∀ v w',Kp v w'->Q (.panic [{ v:=v,recovered:=false }]) a w'):o.wpIn (FW rb) 0 P a w next Q:=by
 unfold ziT at h;refine⟨λ_ _=>trivial,?_⟩;show o.uponIn (FW rb) 0 P a next Q ((o.semAt rb a.eval).run P w);generalize (o.semAt rb a.eval).run P w=res at h;split at h
 .exact hn _ _ _ h
 .exact hn _ _ _ h
 .exact hn _ _ _ h
 .refine⟨zjZ rb 0,CallsIn.mono (F:=FW rb) (n:=0) h λen w'' hk=>?_⟩;rcases hk with⟨v,he,hk⟩| ⟨v,he,hk⟩<;> simp_all
 .refine⟨zjZ rb 0,RoundIn.mono (F:=FW rb) (n:=0) h λen w'' hk=>?_⟩;rcases hk with⟨v,he,hk⟩| ⟨v,he,hk⟩<;> simp_all
 .exact hq _ _ h
 exact h.elim
def zBi:V->Option Bool
 | .lit (.bool b)=>some b
 | _=>none
def zD4:Value->Option Bool
 | .bool b=>some b
 | _=>none
theorem zBt{v:V}{u:Value}(h:VRel ι v u):zBi v=zD4 u:=by
 cases h with
 | lit=>cases u<;>rfl
 | _=>rfl
theorem zqk(env:List V)(k:Nat)(want:Bool):wanted env (some (k,want))=((env[k]?).bind zBi == some want):=by
 simp only[wanted];cases env[k]? with
 | none=>rfl
 | some v=>
  cases v with
  | lit x=>cases x<;>simp[zBi]
  | _=>rfl
theorem ztw(ops:Array Oper)(tmps:Array Value)(j:Nat):yielded ops tmps j=(((ops[j]?).bind (·.dst)).bind (tmps[·]?)).bind zD4:=by
 unfold yielded;cases((ops[j]?).bind (·.dst)).bind (tmps[·]?)with
 | none=>rfl
 | some u=>cases u<;>rfl
theorem zlW(hE:zcq ι N S.env a)(o:Oper):wanted S.env (irO P N ops o).g=Region.wanted o (yielded ops a.tmps):=by
 unfold Region.wanted irO;cases hg:o.guard with
 | none=>simp[wanted]
 | some jw=>
  obtain⟨j,want⟩:=jw;simp only[];rw[zqk,ztw];congr 1
  cases hd:(ops[j]?).bind (·.dst)with
  | none=>
   grind [Go.Mx.zcq]
  | some d=>
   simp only[qbA,qaa];rcases qa0 d N with hlt | hge
   .have hlt1:d<S.env.length:=by rw[hE.2.1]; exact hlt
    have hlt':d<a.tmps.size:=by rw[hE.1]; exact hlt
    have h1:S.env[d]? = some S.env[d]:=qac hlt1;have h2:=hE.2.2 d _ h1;have h3:a.tmps.getD d undef=a.tmps[d]:=by simp[hlt']
    grind [zBt]
   grind [Go.Mx.zcq]
theorem zhX(hF:FSim P N B w1 ι S a w)(o:Oper):wanted S.env (irO P N ops o).g=Region.wanted o (yielded ops a.tmps):=zlW hF.env o
theorem zpk{o:Oper}{c:Call}{x:Operand}{f:Nat}{xs ys:Array Value}(ho:o.op=.call c)(hc:c.callee=.value x)(hx:a.eval x=.func (.func f) xs ys)(hf:zhp P f=true)(w':World):
  (execOp a.eval o).run P w'=.ok (.enter f (xs ++ c.args.map a.eval ++ ys)) w':=by
 unfold zhp at hf;cases hfn:P.funcs[f]? with
 | none=>rw[hfn]at hf; cases hf
 | some fn=>
  rw[hfn]at hf;simp only[qai,qbh,qdA]at hf;have h1:¬ (fn.name = "runtime.NumGoroutine"):=hf.1;obtain⟨bd,hbd⟩:=qa5.1 hf.2
  simp_all [execOp,resolve,Deferred.ofValue,invoke,callFunc]
theorem zgq.append{ι:Io}{l l':List V}{arr arr':Array Value}(h1:zgq ι l arr)(h2:zgq ι l' arr'):zgq ι (l ++ l') (arr ++ arr'):=by
 grind [Go.Mx.zgq]
theorem zlD{N:Nat}:∀(ps:List Nat) (vs:List V) (env env':List V) (us:List Value) (tm:Array Value),zgd env ps vs=some env'->vs.length=us.length->(∀(i:Nat) x v,vs[i]? = some x->us[i]? = some v->VRel ι x v)->
  zcq ι N env ⟨tm,[]⟩->ps.length=vs.length/\zcq ι N env' ⟨(ps.zip us).foldl (λt x=>t.setIfInBounds x.1 x.2) tm,[]⟩
 | [],[],env,env',us,tm,hs,hl,_,hE=>by
  simp_all [zgd]
 | p :: ps,v :: vs,env,env',us,tm,hs,hl,hv,hE=>by
  cases us with
  | nil=>simp at hl
  | cons u us=>
   simp only[zgd]at hs;have hE':=hE.put (d:=p) (hv 0 v u rfl rfl);obtain⟨h1,h2⟩:=zlD ps vs _ env' us (tm.setIfInBounds p u) hs (by simpa using hl) (λi x w hx hw=>hv (i+1) x w (by simpa using hx) (by simpa using hw)) hE'
   simp_all
 | [],_ :: _,_,_,_,_,hs,_,_,_=>by simp[zgd]at hs
 | _ :: _,[],_,_,_,_,hs,_,_,_=>by simp[zgd]at hs
variable{h h':zam}{l:Nat}
theorem Sim.zDj(hS:Sim P B w1 ι h w){st:Bool}{pend:Option Jump}(hB:B<=l)(hs:zeQ h l st pend=some h'){b s sz:Nat}(hι:ι l=some (b,s,sz)):
  ∃ R,w.heap[b]? = some (.loop R)/\Sim P B w1 ι h' (zhH w b (.loop { R with state:=(bif st then .ready else bif pend.isSome then .done else .busy),pending:=pend.map zg3 })):=by
 unfold zeQ at hs;split at hs
 .rename_i st0 pend0 env ps asg body hl;cases hs;obtain⟨b',s',sz',R,h1,h2,h3,h4,h5,h6,h7,h8,h9⟩:=hS.obj l _ hl;rw[hι]at h1; cases h1;refine⟨R,h2,hS.change (o':=.loop st pend env ps asg body) hl trivial hB hι (zcs _ _ _) ⟨b,s,sz,_,hι,zee _ (zbr h2),rfl,rfl,h5,h6,h7,h8,h9⟩⟩
 cases hs
theorem zw5(ps:Array Nat)(us:Array Value)(tm:Array Value):(ps.zip us).foldl (λt (x:Nat×Value)=>t.setIfInBounds x.1 x.2) tm=(ps.toList.zip us.toList).foldl (λt x=>t.setIfInBounds x.1 x.2) tm:=by
 grind [Array.toList_zip]
theorem zqR(hr:RecOk P r){vs:List V}{cr:CR}(hc:round r B l vs h=some (cr,h'))(hS:Sim P B w1 ι h w){b s sz:Nat}(hι:ι l=some (b,s,sz)){us:Array Value}(hu:zgq ι vs us):
  ∃ f tmps assign body,(Instr.yield b us).run P w=.ok (.round b f tmps assign body) w/\RoundIn (FW none) 0 P b f tmps assign body w (zfw P B w1 ι cr h'):=by
 unfold round at hc;split at hc
 .rename_i env ps asg body hl;cases hB:Nat.ble B l with
  | false=>simp_all
  | true=>
   simp only[hB,qdt]at hc;have hB:=qad hB;split at hc
   .rename_i env' hset;obtain⟨b',s',sz',R,g1,g2,g3,g4,g5,g6,g7,g8,g9⟩:=hS.obj l _ hl;rw[hι]at g1; cases g1;obtain⟨hlen,hE'⟩:=zlD (N:=env.length) ps vs env env' us.toList R.tmps hset (by simpa using hu.1.symm) (λi x v hx hv=>hu.2 i x v hx (by simpa using hv)) ⟨g5,rfl,g6⟩;have hsz:us.size=R.params.size:=by
     grind [Go.Mx.zgq]
    refine⟨R.fn,_,R.assign,R.body,run_yield g2 hsz,?_⟩;rw[zw5,g7];refine roundIn_of_wpIn trivial ?_;split at hc
    .rename_i env1 h1 hcode;have hco:=(hr.code _ _ _ _ _ _ hcode).1 env.length R.assign w1 ι _ w (some b) g8 ⟨hS,hE',.nil⟩ (.inr ⟨l,b,s,sz,rfl,rfl,hι⟩);refine wpIn_mono hco λen a1 w2 hp=>?_
     obtain⟨ι1,hle1,rfl,hF1⟩:=hp;show ∃ w₂,(Instr.beginRound b).run P w2=.ok () w₂/\_;split at hc
     .rename_i e1 p1 a1' b1 hl1;have hι1:=hle1 _ _ hι;obtain⟨b'',s'',sz'',R1,k1,k2,k3,k4,k5,k6,k7,k8,k9⟩:=hF1.sim.obj l _ hl1;rw[hι1]at k1; cases k1;refine⟨_,run_beginRound k2 k3,?_⟩;have hS2:Sim P B w1 ι1 (h1.set l (.loop false none e1 p1 a1' b1)) (zhH w2 b (.loop { R1 with state:=.busy })):=
       hF1.sim.change (o':=.loop false none e1 p1 a1' b1) hl1 trivial hB hι1 (zcs _ _ _) ⟨b,s,sz,_,hι1,zee _ (zbr k2),rfl,k4,k5,k6,k7,k8,k9⟩
      cases hbody:r.code B (some l) body ⟨env1,[],h1.set l (.loop false none e1 p1 a1' b1)⟩with
      | none=>rw[hbody]at hc; simp[zco]at hc
      | some res=>
       obtain⟨ex,S2⟩:=res;have hbo:=(hr.code _ _ _ _ _ _ hbody).1 env.length R.body w1 ι1 a1 (zhH w2 b (.loop { R1 with state:=.busy })) (some b) g9 ⟨hS2,hF1.env,hF1.dfs⟩ (.inr ⟨l,b,s,sz,rfl,rfl,hι1⟩);rw[hbody]at hc;have fin:∀(h2:zam) (w3:World) (ι2:Io) (st:Bool) (pend:Option Jump),Io.le ι1 ι2->Sim P B w1 ι2 h2 w3->(st=true↔pend=none)->zeQ h2 l st pend=some h' ->
         ∃ w4,(Instr.endRound b (pend.map zg3)).run P w3=.ok (.bool pend.isNone) w4/\Sim P B w1 ι2 h' w4:=by
        intro h2 w3 ι2 st pend hle hS3 hst hset;obtain⟨R3,q1,q2⟩:=hS3.zDj hB hset (hle _ _ hι1);have hen:=run_endRound (P:=P) (pend.map zg3) q1;rw[Option.isNone_map]at hen;refine⟨_,hen,?_⟩;have:(if pend.isNone=true then LoopState.ready else .done)=(bif st then .ready else bif pend.isSome then .done else .busy):=by
         cases pend<;>simp_all
        rw[<- this]at q2;exact q2
       refine wpIn_mono hbo λen2 a3 w3 hp2=>?_
       obtain⟨ι2,hle2,hp2⟩:=hp2;cases ex with
       | normal=>
        obtain⟨rfl,hF2⟩:=hp2;obtain⟨env2,dfs2,h2⟩:=S2;cases dfs2 with
        | cons _ _=>simp[zco]at hc
        | nil=>
         simp only[zco,qal,qan]at hc;obtain⟨h3,hset2,rfl,rfl⟩:=hc;obtain⟨w4,q1,q2⟩:=fin h2 w3 ι2 true none hle2 hF2.sim (by simp) hset2;exact⟨_,w4,q1,ι2,hle1.trans hle2,q2,_,rfl,.lit _⟩
       | ret=>
        obtain⟨rfl,hF2⟩:=hp2;obtain⟨env2,dfs2,h2⟩:=S2;cases dfs2 with
        | cons _ _=>simp[zco]at hc
        | nil=>
         simp only[zco,qal,qan]at hc;obtain⟨h3,hset2,rfl,rfl⟩:=hc;obtain⟨w4,q1,q2⟩:=fin h2 w3 ι2 false (some .ret) hle2 hF2.sim (by simp) hset2;exact⟨_,w4,q1,ι2,hle1.trans hle2,q2,_,rfl,.lit _⟩
       | exit id=>
        obtain⟨rfl,hF2⟩:=hp2;obtain⟨env2,dfs2,h2⟩:=S2;cases dfs2 with
        | cons _ _=>simp[zco]at hc
        | nil=>
         simp only[zco,qal,qan]at hc;obtain⟨h3,hset2,rfl,rfl⟩:=hc;obtain⟨w4,q1,q2⟩:=fin h2 w3 ι2 false (some (.exit id)) hle2 hF2.sim (by simp) hset2;exact⟨_,w4,q1,ι2,hle1.trans hle2,q2,_,rfl,.lit _⟩
       | panic v e=>
        grind [zco]
     cases hc
    cases hc
   cases hc
 cases hc
theorem zj2(hr:RecOk P r){vs:List V}{cr:CR}(hc:round r B l vs h=some (cr,h')):zaG B h h':=by
 unfold round at hc;split at hc
 .cases hB:Nat.ble B l with
  | false=>simp_all
  | true=>
   simp only[hB,qdt]at hc;have hB:=qad hB;split at hc
   .split at hc
    .rename_i env1 h1 hcode;have k1:=(hr.code _ _ _ _ _ _ hcode).2;split at hc
     .rename_i body _ _ _ _ e1 p1 a1 b1 hl1;have k2:zaG B h1 (h1.set l (.loop false none e1 p1 a1 b1)):=zaG.set _ _ hB;generalize hb:r.code B (some l) _ ⟨env1,[],h1.set l (.loop false none e1 p1 a1 b1)⟩=res at hc;unfold zco at hc
      grind [Go.Mx.zaG,Go.Mx.RecOk,Go.Mx.zeQ]
     cases hc
    cases hc
   cases hc
 cases hc
end
end Go.Mx
