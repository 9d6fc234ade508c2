/-
 One operation's step; regions in the order of the text. Conditions: none.
-/
import Derived.Test.YtbjogdohfhdaiaaGreatErJ18
set_option linter.unusedSimpArgs false
set_option linter.unusedVariables false
namespace Go.Mx
open Go Go.RowKit
section
variable {P:Program} {B N:Nat} {w1 w:World} {ι:Io} {S S':St} {a:Act} {r:Rec} {ops:Array Oper} {rd rb:Option Nat} {Q:Exit->Act->World->Prop} {ex:Ex} {bar e:Bool}
inductive Caller (o:Oper):I->Prop
 | call (c:Call) (f:Nat):o.op=.call c->c.callee=.value (.func f)->Caller o (.call f (c.args.toList.map opX))
 | zd8 (c:Call) (k:Nat):o.op=.call c->c.callee=.value (.tmp k)->Caller o (.zd8 (.s k) (c.args.toList.map opX))
 | panic (x:Operand):o.op=.panic x->Caller o (.panic (opX x))
 | defer (c:Call) (x:Operand):o.op=.defer c->c.callee=.value x->Caller o (.defer (opX x) (c.args.toList.map opX))
def calls:I->Bool
 | .call .. | .zd8 .. | .panic _ | .defer ..=>true
 | _=>false
theorem zpA(o:Oper)(h:calls (za1 P o)=true):Caller o (za1 P o):=by
 have key:∀ {b:Bool} {i:I},calls (bif b then i else .bad)=true->b=true/\calls i=true:=by
  grind [calls]
 obtain⟨dst,op,type,pos,after,guard⟩:=o;cases op with
 | call c=>
  simp only[za1,zj3]at h ⊢
  grind [calls,Caller]
 | panic x=>exact .panic x rfl
 | defer c=>
  grind [za1,calls,Caller]
 | alloc t=>
  grind [za1,calls]
 | build t parts=>
  grind [za1,calls]
 | buildSlice t len parts=>
  grind [za1,calls]
 | load t x=>simp only[za1]at h; obtain⟨_,h⟩:=key h; cases h
 | store t x y=>grind [za1,calls]
 | fieldAddr s x f=>
  grind [za1,calls]
 | field s x f=>
  grind [za1,calls]
 | indexAddr t x i=>
  grind [za1,calls]
 | index t x i=>
  grind [za1,calls]
 | makeFunc fn first cap=>cases fn<;>cases h
 | makeInterface t x=>grind [za1,calls]
 | binOp op t x y ty=>
  grind [za1,calls]
 | convert s d x=>simp only[za1]at h; split at h<;>cases h
 | makeSlice t l c=>
  grind [za1,calls]
 | slice t x lo hi mx=>
  grind [za1,calls]
 | _=>cases h
def nuI(bar:Bool)(i:I):Bool:=(zgr bar i && calls i)|| zpU i
def zwL(bar:Bool)(h:zam)(B:Nat):Nat:=bif bar then h.length else B
def zzG(bar:Bool)(w w1:World):World:=bif bar then w else w1
variable{h:zam}
theorem Sim.zy0(hS:Sim P B w1 ι h w)(bar:Bool):Sim P (zwL bar h B) (zzG bar w w1) ι h w:=by
 grind [Sim.zz8,zwL,zzG]
variable{h':zam}{w':World}
theorem Sim.back{ι':Io}(hS:Sim P B w1 ι h w)(hι:Io.le ι ι'){bar:Bool}(hS':Sim P (zwL bar h B) (zzG bar w w1) ι' h' w')(hk:zaG (zwL bar h B) h h'):Sim P B w1 ι' h' w'/\(bar=true->Below w.heap.size w w'):=by
 grind [Sim.zEP,zwL,zzG,Go.Mx.Sim,Go.Mx.zaG]
theorem zaG.back{bar:Bool}(hk:zaG (zwL bar h B) h h'):zaG B h h':=by
 grind [zwL,Go.Mx.zaG]
def ztX(w:World)(h h1:zam)(ι1:Io):Prop:=(∀ β o,β<h.length->h1[β]? = some o->o.live->∃ o0,h[β]? = some o0/\o0.live)/\∀ β o b s sz,h1[β]? = some o->o.live->h.length<=β->ι1 β=some (b,s,sz)->w.heap.size<=b
def Kc(P:Program)(N B:Nat)(w1:World)(ι:Io)(a:Act)(w:World)(h:zam)(dst:Option Nat)(ext nu wr:Bool)(t:Option Nat)(k:St->Option (Ex×St))(ex:Ex)(S':St):Value->List Deferred->World->Prop:=λu ds w'=>
 ∃ S1 ι1,k S1=some (ex,S')/\Io.le ι ι1/\FSim P N B w1 ι1 S1 (({ a with defers:=ds }:Act).put dst u) w'/\(ext=true->Below w.heap.size w w')/\(nu=true->ztX w h S1.heap ι1)/\(wr=true->zvg B h ι w w' t)
def Kp(P:Program)(N B:Nat)(w1:World)(ι:Io)(a:Act)(e:Bool)(ex:Ex)(S':St):Value->World->Prop:=λu w'=>
 ∃ v ι1,ex=.panic v e/\VRel ι1 v u/\Io.le ι ι1/\Sim P B w1 ι1 S'.heap w'/\DfsRel ι1 S'.dfs a.defers/\zcq ι1 N S'.env a
variable{k:St->Option (Ex×St)}
theorem zm0(hF:FSim P N B w1 ι S a w){o:O}{cr:CR}(hf:zpM e o S (some (cr,h')) k=some (ex,S'))(hk:zaG (zwL bar S.heap B) S.heap h'){ext nu wr:Bool}{t:Option Nat}(hext:ext=true->bar=true)(hnu:nu=true->bar=true){en:Ending}(hwr:wr=true->zvg B S.heap ι w w' t)(hp:zfw P (zwL bar S.heap B) (zzG bar w w1) ι cr h' en w'):
  (∃ v,en=.returned v/\Kc P N B w1 ι a w S.heap o.dst ext nu wr t k ex S' v a.defers w')\/(∃ v,en=.panicked [{ v:=v,recovered:=false }]/\Kp P N B w1 ι a e ex S' v w'):=by
 obtain⟨ι',hle,hS',hp⟩:=hp;obtain⟨hS2,hbel⟩:=hF.sim.back hle hS' hk;cases cr with
 | ret v=>
  obtain⟨u,rfl,hv⟩:=hp;refine .inl ⟨u,rfl,_,ι',hf,hle,(hF.heap hle hS2).put hv,λhe=>hbel (hext he),λhe=>?_,hwr⟩;have hb:=hnu he;subst hb;have hheap:(St.put { S with heap:=h' } o.dst v).heap=h':=by cases o.dst<;>rfl
  grind [zwL,zzG,Go.Mx.ztX,Go.Mx.Sim,Go.Mx.zaG]
 | pan v=>
  obtain⟨u,rfl,hv⟩:=hp;simp only[zpM,qae,qan]at hf;obtain⟨rfl,rfl⟩:=hf;exact .inr ⟨u,rfl,v,ι',rfl,hv,hle,hS2,hF.dfs.mono hle,hF.env.mono hle⟩
theorem ze5(hr:RecOk P r)(hF:FSim P N B w1 ι S a w)(hrd:zhl ι rd rb)(o:Oper)(h:zdv r B bar rd.isNone e S (irO P N ops o) k=some (ex,S')):
  (Region.wanted o (yielded ops a.tmps)=false/\k (S.put o.dst zbc)=some (ex,S'))\/
  (Region.wanted o (yielded ops a.tmps)=true/\zak (za1 P o)=true/\∃ v u,k (S.put o.dst v)=some (ex,S')/\VRel ι v u/\∀ w',(∀ b,ldB a o=some b->w'.heap[b]? = w.heap[b]?)->(execOp a.eval o).run P w'=.ok (.value u) w')\/
  (Region.wanted o (yielded ops a.tmps)=true/\zak (za1 P o)=false/\ziT rb P o a w (Kc P N B w1 ι a w S.heap o.dst (zgr bar (za1 P o)) (nuI bar (za1 P o)) (!calls (za1 P o)|| wrI (za1 P o)) (zzy S.env (za1 P o)) k ex S') (Kp P N B w1 ι a e ex S')):=by
 have hwe:=zhX (ops:=ops) hF o;unfold zdv at h;cases hw:wanted S.env (irO P N ops o).g with
 | false=>
  rw[hw]at h hwe;exact .inl ⟨hwe.symm,h⟩
 | true=>
  rw[hw]at h hwe;refine .inr ?_;have hi:(irO P N ops o).i=za1 P o:=rfl;have hdst:(irO P N ops o).dst=o.dst:=rfl;simp only[hi,hdst]at h;cases hc:calls (za1 P o)with
  | true=>
   refine .inr ⟨hwe.symm,?_,?_⟩
   .have hcl:=zpA o hc;generalize za1 P o=i at hcl;cases hcl<;>rfl
   .have hcl:=zpA o hc;generalize hio:za1 P o=i at hcl h hc;cases hcl with
    | call c f ho hcal=>
     simp only[]at h;split at h
     .rename_i vs hvs;cases hcall:r.call (bif zrn bar f then S.heap.length else B) f vs S.heap with
      | none=>rw[hcall]at h; cases h
      | some res=>
       obtain⟨cr,h'⟩:=res;rw[hcall]at h;obtain⟨hok,hkeep⟩:=hr.call _ _ _ _ _ _ hcall;obtain⟨hbody,hcalls⟩:=hok.1 (zzG (zrn bar f) w w1) ι w (c.args.map a.eval) (hF.sim.zy0 (zrn bar f)) (zg2 hF.env hvs);unfold ziT;rw[Oper.semAt_eq rb a.eval o (λc'=>by rw[ho]; simp),zpk ho hcal (xs:=#[]) (ys:=#[]) rfl hbody w];simp only[Array.append_empty,Array.empty_append];cases hwf:wrF f with
       | false=>exact CallsIn.mono hcalls λen w' hp=>zm0 hF h hkeep (λhe=>by simpa [zgr]using he) (λhe=>by simpa [nuI,zpU,zgr,calls]using he) (λhe=>by simp[calls,wrI,hwf]at he) hp
       | true=>
        have hcalls:=hok.2 hwf (zzG (zrn bar f) w w1) ι w (c.args.map a.eval) (hF.sim.zy0 (zrn bar f)) (zg2 hF.env hvs);refine CallsIn.mono hcalls λen w' hp=>zm0 hF h hkeep (λhe=>by simpa [zgr]using he) (λhe=>by simpa [nuI,zpU,zgr,calls]using he) (λhe=>?_) hp.1
        obtain⟨ob,k1,k2⟩:=hp.2;refine⟨ob,k1,λb hb=>?_⟩;obtain⟨β,s,sz,o1,m1,m2,m3,m4,m5⟩:=k2 b hb;refine⟨β,s,sz,o1,?_,m2,m3,m4,?_⟩
        .rw[<- m1];cases hxs:c.args.toList.map opX with
         | nil=>
          rw[hxs]at hvs;cases hvs;rfl
         | cons x xs=>
          rw[hxs]at hvs;simp only[evs]at hvs;simp only[zzy,zty,hwf,qdt,qaa];split at hvs
          .rename_i v vs' hv _;cases hvs;rw[hv];rfl
          cases hvs
        have hb:=hF.sim.base;cases hbb:zrn bar f<;>rw[hbb]at m5
        .exact m5
        exact qaq hb m5
     .cases h
    | zd8 c kk ho hcal=>
     simp only[]at h;split at h
     .rename_i v vs hv hvs;have hx:VRel ι v (a.eval (.tmp kk)):=zae (x:=.tmp kk) hF.env hv;have hargs:=zg2 hF.env hvs;unfold zno at h;split at h
      .rename_i f first cap
       cases hcall:r.call (bif bar then S.heap.length else B) f (first ++ vs ++ cap) S.heap with
       | none=>rw[hcall]at h; cases h
       | some res=>
        obtain⟨cr,h'⟩:=res;rw[hcall]at h;obtain⟨hok,hkeep⟩:=hr.call _ _ _ _ _ _ hcall;generalize hu0:a.eval (.tmp kk)=u0 at hx;cases hx with
        | clo _ _ _ xs ys g1 g2 g3 g4=>
         obtain⟨hbody,hcalls⟩:=hok.1 (zzG bar w w1) ι w (xs ++ c.args.map a.eval ++ ys) (hF.sim.zy0 bar) (zgq.append (zgq.append (l:=first) (arr:=xs) ⟨g1,g3⟩ hargs) ⟨g2,g4⟩);unfold ziT;rw[Oper.semAt_eq rb a.eval o (λc'=>by rw[ho]; simp),zpk ho hcal hu0 hbody w];exact CallsIn.mono hcalls λen w' hp=>zm0 hF h hkeep (λhe=>by simpa [zgr]using he) (λhe=>by simpa [nuI,zpU,zgr,calls]using he) (λhe=>by simp[calls,wrI]at he) hp
      .rename_i l;cases hcall:round r (bif bar then S.heap.length else B) l vs S.heap with
       | none=>rw[hcall]at h; cases h
       | some res=>
        obtain⟨cr,h'⟩:=res;rw[hcall]at h;have hkeep:=zj2 hr hcall;generalize hu0:a.eval (.tmp kk)=u0 at hx;cases hx with
        | yld _ b s sz hι=>
         obtain⟨f,tmps,assign,body,hy,hround⟩:=zqR hr hcall (hF.sim.zy0 bar) hι hargs;unfold ziT;have hrun:(execOp a.eval o).run P w=.ok (.round b f tmps assign body) w:=by
          simp[execOp,ho,resolve,hcal,hu0,Deferred.ofValue,invoke,hy]
         rw[Oper.semAt_eq rb a.eval o (λc'=>by rw[ho]; simp),hrun];exact RoundIn.mono hround λen w' hp=>zm0 hF h hkeep (λhe=>by simpa [zgr]using he) (λhe=>by simpa [nuI,zpU,zgr,calls]using he) (λhe=>by simp[calls,wrI]at he) hp
      cases h
     .cases h
    | panic x ho=>
     simp only[]at h;split at h
     .rename_i t v hv;simp only[qae,qan]at h;obtain⟨rfl,rfl⟩:=h;have hx:=zae hF.env hv;generalize hu0:a.eval x=u0 at hx;cases hx with
      | ifc _ _ u hu=>
       unfold ziT;have hrun:(execOp a.eval o).run P w=.halt (.panic (.iface t u)) w:=by
        simp[execOp,ho,hu0,Instr.panic,goPanic]
       rw[Oper.semAt_eq rb a.eval o (λc'=>by rw[ho]; simp),hrun];exact⟨_,ι,rfl,.ifc t v u hu,Io.le.refl _,hF.sim,hF.dfs,hF.env⟩
     .cases h
    | defer c x ho hcal=>
     simp only[]at h;split at h
     .rename_i f first cap vs hv hvs
      cases htop:rd.isNone with
      | false=>simp only[htop,qdu]at h; cases h
      | true=>
       simp only[htop,qdt]at h;have hrb:=hrd.zzj htop;subst hrb;have hx:=zae hF.env hv;have hargs:=zg2 hF.env hvs;generalize hu0:a.eval x=u0 at hx;cases hx with
       | clo _ _ _ xs ys g1 g2 g3 g4=>
        unfold ziT;have hrun:(o.semAt none a.eval).run P w=.ok (.defer { target:=.fn (.func f) ys,args:=xs ++ c.args.map a.eval }) w:=by
         rw[Oper.semAt_none];simp[execOp,ho,resolve,hcal,hu0,Deferred.ofValue]
        rw[hrun];refine⟨_,ι,h,Io.le.refl _,FSim.put (S:=⟨S.env,.fn f (first ++ vs ++ cap):: S.dfs,S.heap⟩) (a:=⟨a.tmps,{ target:=.fn (.func f) ys,args:=xs ++ c.args.map a.eval }:: a.defers⟩) ⟨hF.sim,hF.env,.cons (.fn f _ _ ys (zgq.append (zgq.append (l:=first) (arr:=xs) ⟨g1,g3⟩ hargs) ⟨g2,g4⟩)) hF.dfs⟩ (.lit _),λ_=>Below.refl _ _,λhe=>(by cases he),λhe=>(by cases he)⟩
     .cases h
  | false=>
   have hh:(bif zak (za1 P o)then(match q S.heap S.env (za1 P o)with | some v=>k (S.put o.dst v)| none=>none)
     else(match eff B S.heap S.env (za1 P o)with | some (v,h)=>k ({ S with heap:=h }.put o.dst v)| none=>none))=some (ex,S'):=by
    generalize za1 P o=i at h hc;cases i<;>first | exact h | cases hc
   cases hq:zak (za1 P o)with
   | true=>
    rw[hq]at hh;simp only[qdt]at hh;split at hh
    .rename_i v hv;obtain⟨u,h1,h2⟩:=zvX hF.sim hF.env o hv;exact .inl ⟨hwe.symm,rfl,v,u,hh,h2,h1⟩
    .cases hh
   | false=>
    rw[hq]at hh;simp only[qdu]at hh;split at hh
    .rename_i v h' hv;obtain⟨u,w',ι',hrun,hle,hS',hvr,hbel,hbut⟩:=zvO hF.sim hF.env o hv;refine .inr ⟨hwe.symm,rfl,?_⟩;unfold ziT;have hnd:∀ c,o.op≠.defer c:=by
      intro c hop;have hd:(∃ x xs,za1 P o=.defer x xs)\/za1 P o=.bad:=by
       unfold za1;rw[hop];simp only[];split
       .exact .inl ⟨_,_,rfl⟩
       exact .inr rfl
      rcases hd with⟨x,xs,hd⟩| hd<;>rw[hd]at hv<;>simp[eff]at hv
     have hext:zgr bar (za1 P o)=true->zgr false (za1 P o)=true:=by
      intro he;generalize za1 P o=i at he hc;cases i<;>first | exact he | cases hc
     have hnu:nuI bar (za1 P o)=true->ztX w S.heap ({ S with heap:=h' }.put o.dst v).heap ι':=by
      intro he;have hheap:(St.put { S with heap:=h' } o.dst v).heap=h':=by cases o.dst<;>rfl
      rw[hheap];generalize za1 P o=i at he hc hv;simp only[nuI,hc,qc0,qdm]at he;cases i<;>first | (cases he; done)| skip
      simp only[eff]at hv;split at hv
      .split at hv
       .rename_i β _ l _ _ _ cs hcs;rw[qdk]at hv;split at hv
        .simp only[qae,qan]at hv;obtain⟨_,rfl⟩:=hv;refine⟨λγ o hγ h1 h2=>?_,λγ o b s sz h1 h2 h3 h4=>?_⟩
         .by_cases hg:β=γ
          .subst hg;exact⟨_,zdF hcs,qds⟩
          rw[qaD hg]at h1;exact⟨o,h1,h2⟩
         have:=(qab.1 h1).1;simp at this;omega
        cases hv
       cases hv
      cases hv
     rw[Oper.semAt_eq rb a.eval o hnd];rcases hrun with hrun | ⟨hrun,rfl⟩
     .rw[hrun];exact⟨_,ι',hh,hle,(hF.heap hle hS').put hvr,λhe=>hbel (hext he),hnu,λ_=>hbut⟩
     rw[hrun];exact⟨_,ι',hh,hle,(hF.heap hle hS').put hvr,λhe=>hbel (hext he),hnu,λ_=>hbut⟩
    cases hh
theorem ztc(hr:RecOk P r){o:O}{top:Bool}(h:zdv r B bar top e S o k=some (ex,S'))(hk:∀ S1,k S1=some (ex,S')->zaG B S1.heap S'.heap):zaG B S.heap S'.heap:=by
 have hput:∀(S0:St) (d:Option Nat) (v:V),(S0.put d v).heap=S0.heap:=by
  intro S0 d v; cases d<;>rfl
 have hfin:∀ {x:Option (CR×zam)},zpM e o S x k=some (ex,S')->(∀ cr h',x=some (cr,h')->zaG B S.heap h')->zaG B S.heap S'.heap:=by
  intro x hx hkk;unfold zpM at hx
  grind [zaG.trans]
 unfold zdv at h;split at h
 .grind
 split at h
 .grind [Go.Mx.zaG,Go.Mx.RecOk]
 .split at h
  .refine hfin h λcr h' he=>zaG.back (bar:=bar) ?_
   unfold zno at he
   grind [zj2,Go.Mx.zwL,Go.Mx.RecOk]
  cases h
 .grind [zaG.refl]
 .grind
 rename_i i _ _ _ _;cases hq:zak o.i with
 | true=>
  grind
 | false=>
  simp only[hq,qdu]at h;split at h
  .rename_i v h' he;have:=hk _ h; rw[hput]at this; exact(zpm he).trans this
  cases h
theorem zgv(hr:RecOk P r){top:Bool}:∀(l:List O) (S S':St) (ex:Ex),zbg r B bar top e l S=some (ex,S')->zaG B S.heap S'.heap
 | [],S,S',ex,h=>by
  grind [zbg,zaG.refl]
 | o :: l,S,S',ex,h=>ztc hr h λS1 h1=>zgv hr l S1 S' ex h1
variable{i:Nat}{o:Oper}{K':Act->World->Prop}
theorem zhE(ho:ops[i]? = some o){Kc':Value->List Deferred->World->Prop}{Kp':Value->World->Prop}(hw:Region.wanted o (yielded ops a.tmps)=true)(h:ziT rb P o a w Kc' Kp')(hk:∀ u ds w',Kc' u ds w'->K' (({ a with defers:=ds }:Act).put o.dst u) w')(hq:∀ v w',Kp' v w'->Q (.panic [{ v:=v,recovered:=false }]) a w'):wpOpIn (FW rb) 0 P ops Q i K' a w:=by
 grind [wpOpIn,ziT.wp]
theorem zh8(ho:ops[i]? = some o)(hw:Region.wanted o (yielded ops a.tmps)=false)(h:K' (a.put o.dst undef) w):wpOpIn (FW rb) 0 P ops Q i K' a w:=by
 unfold wpOpIn;simp only[ho,hw,qbv,if_false];exact⟨λ_ _=>trivial,h⟩
theorem zio(h:zak (za1 P o)=true):∀ c,o.op≠.defer c:=by
 grind [za1,Go.Mx.zak]
theorem ziQ(ho:ops[i]? = some o)(hw:Region.wanted o (yielded ops a.tmps)=true)(hnd:∀ c,o.op≠.defer c){u:Value}(hy:(execOp a.eval o).run P w=.ok (.value u) w)(h:K' (a.put o.dst u) w):wpOpIn (FW rb) 0 P ops Q i K' a w:=by
 unfold wpOpIn;simp only[ho,hw,if_true];refine⟨λ_ _=>trivial,?_⟩;rw[Oper.semAt_eq _ a.eval o hnd,hy];exact h
theorem zxp{u:Value}(h:Kp P N B w1 ι a e ex S' u w'):zfT P N B w1 ι ex S' (.panic [{ v:=u,recovered:=false }]) a w':=by
 grind [Kp,Go.Mx.zfT]
theorem zfO(hr:RecOk P r):∀(l:List Nat) (S:St) (ι:Io) (a:Act) (w:World),FSim P N B w1 ι S a w->zhl ι rd rb->zbg r B bar rd.isNone e (l.filterMap λi=>(ops[i]?).map (irO P N ops)) S=some (ex,S')->
  wpOpsIn (FW rb) 0 P ops (zfT P N B w1 ι ex S') l a w
 | [],S,ι,a,w,hF,_,h=>by
  simp only[List.filterMap_nil,zbg,qae,qan]at h;obtain⟨rfl,rfl⟩:=h;exact⟨ι,Io.le.refl _,rfl,hF⟩
 | i :: l,S,ι,a,w,hF,hrd,h=>by
  rw[wpOpsIn_cons];cases ho:ops[i]? with
  | none=>
   simp only[qcE,ho,qdo]at h;unfold wpOpIn;simp only[ho];exact zfO hr l S ι a w hF hrd h
  | some o=>
   simp only[qcE,ho,qbe,zbg]at h;have hmono:∀ {ι1:Io} (hle:Io.le ι ι1) (a':Act) (w':World),wpOpsIn (FW rb) 0 P ops (zfT P N B w1 ι1 ex S') l a' w'->wpOpsIn (FW rb) 0 P ops (zfT P N B w1 ι ex S') l a' w':=by
    intro ι1 hle a' w' hh;exact zcF (λen a w hp=>hp.mono hle) l a' w' hh
   rcases ze5 (ops:=ops) hr hF hrd o h with⟨hw,hk⟩| ⟨hw,hq,v,u,hk,hv,hy⟩| ⟨hw,hq,hE⟩
   .exact zh8 ho hw (zfO hr l _ ι _ w (hF.put (.lit _)) hrd hk)
   .exact ziQ ho hw (zio hq) (hy w λ_ _=>rfl) (zfO hr l _ ι _ w (hF.put hv) hrd hk)
   refine zhE ho hw hE (λu ds w' ⟨S1,ι1,hk,hle,hF1,_⟩=>hmono hle _ _ (zfO hr l S1 ι1 _ w' hF1 (hrd.mono hle) hk)) (λv w' hp=>zxp hp)
end
section
variable {P:Program} {B N:Nat} {w1 w:World} {ι:Io} {S S':St} {a:Act} {r:Rec} {ops:Array Oper} {rd rb:Option Nat} {Q:Exit->Act->World->Prop} {ex:Ex} {bar e:Bool} {Sx:World->Prop}
variable{i:Nat}{o:Oper}{v:Value}
theorem zie(hi:ops[i]? = some o)(hnd:∀ c,o.op≠.defer c)(hy:YieldsIf P ops Sx o v a){K:Act->World->Prop}(hS:Sx w)(h:K (a.put o.dst v) w):wpOpIn (FW rb) 0 P ops Q i K a w:=by
 rcases hy with⟨hw,hv⟩| ⟨hw,rfl⟩<;> grind [ziQ,zh8]
variable{j:Nat}
theorem zpK{oi oj:Oper}(hj:ops[j]? = some oj)(hap:oi.apart ops oj=true)(hsi:∀ cs b,oi.op≠.select cs b)(hsj:∀ cs b,oj.op≠.select cs b)(hdj:∀ c,oj.op≠.defer c)(hQ:∀ c a w,Q (.panic c) (a.put oi.dst v) w->Q (.panic c) a w){K:Act->World->Prop}{a:Act}{w:World}(hy:YieldsIf P ops Sx oi v a)(h:wpOpIn (FW rb) 0 P ops Q j K (a.put oi.dst v) w):
  wpOpIn (FW rb) 0 P ops Q j (λa' w'=>YieldsIf P ops Sx oi v a'/\K (a'.put oi.dst v) w') a w:=by
 obtain⟨h1,h2,h3⟩:=Oper.apart_spec hap;have zgl:∀(a:Act),YieldsIf P ops Sx oi v a->∀ u,YieldsIf P ops Sx oi v (a.put oj.dst u):=λa hy u=>
  hy.of_same (execOp_put oi hsi a oj.dst u h3) (wanted_put oi a oj.dst u h3)
 have keepD:∀ d,YieldsIf P ops Sx oi v { a with defers:=d :: a.defers }:=λd=>hy.of_same rfl rfl
 unfold wpOpIn at *;simp only[hj]at *;rw[wanted_put oj a oi.dst v h1]at h;split
 .rename_i hw;simp only[hw,if_true]at h;refine⟨λ_ _=>trivial,?_⟩;have h:=h.2;rw[Oper.semAt_eq _ _ oj hdj,execOp_put oj hsj a oi.dst v h1]at h;rw[Oper.semAt_eq _ _ oj hdj];generalize (execOp a.eval oj).run P w=res at *;cases res with
  | ok x w'=>
   cases x<;>simp only[Oper.uponIn]at h ⊢<;>grind [Act.put_comm,Act.put_defers,CallsIn.mono,RoundIn.mono]
  | halt x w'=>
   cases x<;>simp only[Oper.uponIn]at h ⊢<;>simp_all
 rename_i hw;simp only[hw]at h;exact⟨λ_ _=>trivial,zgl a hy _,by rw[<- Act.put_comm a v undef h2]; exact h.2⟩
abbrev Prs:=List (Nat×Nat)
def Carry(ops:Array Oper)(Pr:Prs)(i:Nat)(w w':World):Prop:=∀ p∈Pr,zit ops ops.size i p.1=false->∀ o,w.heap[p.2]? = some o->w'.heap[p.2]? = some o
def zd5(rb:Option Nat)(P:Program)(ops:Array Oper)(Q:Exit->Act->World->Prop)(Pr:Prs):Nat->Array Bool->Act->World->Prop
 | 0,listed,a,w=>Region.ready .any ops listed=[]/\Q .normal a w
 | fuel+1,listed,a,w=>
  (Region.ready .any ops listed=[]->Q .normal a w)/\
  ∀ i∈Region.ready .any ops listed,wpOpIn (FW rb) 0 P ops Q i (λa' w'=>Carry ops Pr i w w'/\zd5 rb P ops Q Pr fuel (listed.setIfInBounds i true) a' w') a w
theorem zlZ{Pr:Prs}:∀(fuel:Nat) (listed:Array Bool) (a:Act) (w:World),zd5 rb P ops Q Pr fuel listed a w->wpAnyIn (FW rb) 0 P .any ops Q fuel listed a w
 | 0,_,_,_,h=>h
 | fuel+1,_,_,_,h=>⟨h.1,λi hi=>wpOpIn_mono (λa' w' h'=>zlZ fuel _ a' w' h'.2) (h.2 i hi)⟩
theorem zl5{Pr Pr':Prs}(hs:∀ p∈Pr,p∈Pr'):∀(fuel:Nat) (listed:Array Bool) (a:Act) (w:World),zd5 rb P ops Q Pr' fuel listed a w->zd5 rb P ops Q Pr fuel listed a w
 | 0,_,_,_,h=>h
 | fuel+1,_,_,_,h=>⟨h.1,λi hi=>wpOpIn_mono (λa' w' h'=>⟨λp hp=>h'.1 p (hs p hp),zl5 hs fuel _ a' w' h'.2⟩) (h.2 i hi)⟩
def zeJ(ops:Array Oper)(listed:Array Bool):Prop:=
 ∀ j oj,ops[j]? = some oj->listed.getD j false=true->∀ ed∈oj.after,Region.binds .any ed=true->listed.getD ed.on false=true
variable{listed:Array Bool}
theorem zcu(h:zeJ ops listed)(hi:i∈Region.ready .any ops listed):zeJ ops (listed.setIfInBounds i true):=by
 obtain⟨_,oi,hoi,hall⟩:=mem_ready.1 hi;intro j oj hj hl ed hed hb;by_cases hij:i=j
 .subst hij;have:oj=oi:=qaf (hj.symm.trans hoi);subst this;exact getD_set_true (hall ed hed hb)
 rw[getD_set_ne false hij]at hl;exact getD_set_true (h j oj hj hl ed hed hb)
def zms(ops:Array Oper)(i:Nat):List Nat->Prop
 | []=>True
 | k :: acc=>zyU ops i acc k=true/\zms ops i acc
theorem zlM(ops:Array Oper)(i:Nat):zms ops i (zwD ops i):=by
 unfold zwD
 suffices ∀(l:List Nat) (acc:List Nat),zms ops i acc->zms ops i (l.foldl (λacc k=>bif zyU ops i acc k then k :: acc else acc) acc)from this _ [] trivial
 intro l;induction l<;>grind [zms]
theorem zmF{i j:Nat}:∀ {acc:List Nat},zms ops i acc->j∈acc->∃ acc' oj,zms ops i acc'/\acc'.length<acc.length/\ops[j]? = some oj/\∃ ed∈oj.after,Region.binds .any ed=true/\(ed.on=i\/ed.on∈acc')
 | k :: acc,h,hj=>by
  rcases qav.1 hj with rfl | hj
  .grind [zyU,zms]
  obtain⟨acc',oj,g1,g2,g3⟩:=zmF h.2 hj
  grind
theorem ztj{n:Nat}(h:zit ops n j i=true):∃ oj,ops[j]? = some oj:=by
 obtain⟨_,oj,_,_,h1,_⟩:=zmF (zlM ops i) (qdd.1 h);exact⟨oj,h1⟩
theorem zjr(h:zeJ ops listed)(f j:Nat)(oj:Oper)(hj:ops[j]? = some oj)(hall:∀ ed∈oj.after,Region.binds .any ed=true->listed.getD ed.on false=true)(hr:zit ops f j i=true):listed.getD i false=true:=by
 have key:∀(n:Nat) (acc:List Nat) (j:Nat) (oj:Oper),acc.length<=n->zms ops i acc->j∈acc->ops[j]? = some oj->(∀ ed∈oj.after,Region.binds .any ed=true->listed.getD ed.on false=true)->listed.getD i false=true:=by
  intro n;induction n with
  | zero=>
   intro acc j oj hn _ hm;have:acc=[]:=qaG.1 (by omega);subst this;cases hm
  | succ n ih=>
   intro acc j oj hn hg hm hj hall;obtain⟨acc',oj',g1,g2,g3,ed,g4,g5,g6⟩:=zmF hg hm;have:oj'=oj:=qaf (g3.symm.trans hj);subst this;have h1:=hall ed g4 g5;rcases g6 with g6 | g6
   .rw[<- g6]; exact h1
   obtain⟨_,ok,_,_,k3,_⟩:=zmF g1 g6;exact ih acc' ed.on ok (by omega) g1 g6 k3 λe' he' hb'=>h ed.on ok k3 h1 e' he' hb'
 exact key _ _ j oj (qap _) (zlM ops i) (qdd.1 hr) hj hall
theorem zfp(h:zgK ops=true)(ho:ops[j]? = some o):∀ c,o.op≠.defer c:=by
 grind [Go.Mx.zgK]
theorem ztP(hcl:zeJ ops listed)(hj:j∈Region.ready .any ops listed)(hi:listed.getD i false=false):zit ops ops.size j i=false:=by
 grind [mem_ready,zjr]
theorem zf2(hr:i∈Region.ready .any ops listed):listed.getD i false=false:=by
 grind [mem_ready]
theorem zjt{oi:Oper}(hi:ops[i]? = some oi)(hsel:∀(j:Nat) (o:Oper) cs b,ops[j]? = some o->o.op≠.select cs b)(hnd:zgK ops=true)(hQ:∀ c a w,Q (.panic c) (a.put oi.dst v) w->Q (.panic c) a w){Pr Pr':Prs}(hsub:∀ p∈Pr,p∈Pr'){ob:Option Nat}(hob:∀ b,ob=some b->(i,b)∈Pr'):
  ∀(fuel:Nat) (listed:Array Bool) (a:Act) (w:World),zeJ ops listed ->
   (∀ j oj,ops[j]? = some oj->j≠i->listed.getD j true=false->(∀ e∈oj.after,Region.binds .any e=true->e.on≠i)->oi.apart ops oj=true)->
   i∈Region.ready .any ops listed->YieldsIf P ops (λw'=>∀ b,ob=some b->w'.heap[b]? = w.heap[b]?) oi v a->(∀ b,ob=some b->∃ o,w.heap[b]? = some o)->
   zd5 rb P ops Q Pr' fuel (listed.setIfInBounds i true) (a.put oi.dst v) w->zd5 rb P ops Q Pr (fuel+1) listed a w:=by
 intro fuel;induction fuel with
 | zero=>
  intro listed a w _ _ hr hy _ H;refine⟨λh=>(by rw[h]at hr; cases hr),λj hj=>?_⟩;by_cases hji:j=i
  .subst hji; exact zie hi (zfp hnd hi) hy (λ_ _=>rfl) ⟨λ_ _ _ _ ho=>ho,H⟩
  .have:=ready_mono hj hji;rw[H.1]at this;cases this
 | succ fuel ih=>
  intro listed a w hcl hfree hr hy hex H;refine⟨λh=>(by rw[h]at hr; cases hr),λj hj=>?_⟩;by_cases hji:j=i
  .subst hji; exact zie hi (zfp hnd hi) hy (λ_ _=>rfl) ⟨λ_ _ _ _ ho=>ho,zl5 hsub _ _ _ _ H⟩
  have h1:=H.2 j (ready_mono hj hji);obtain⟨hjun,oj,hoj,hall⟩:=mem_ready.1 hj;have hiun:=zf2 hr;have hnot:∀ e∈oj.after,Region.binds .any e=true->e.on≠i:=λe he hb heq=>by
   grind
  have h2:=zpK hoj (hfree j oj hoj hji hjun hnot) (λcs b=>hsel i oi cs b hi) (λcs b=>hsel j oj cs b hoj) (zfp hnd hoj) hQ hy h1;have hfree':∀ k ok,ops[k]? = some ok->k≠i->(listed.setIfInBounds j true).getD k true=false ->
    (∀ e∈ok.after,Region.binds .any e=true->e.on≠i)->oi.apart ops ok=true:=λk ok hk hki hun hno=>by
   refine hfree k ok hk hki ?_ hno;by_cases hjk:j=k<;>simp_all
  refine wpOpIn_mono (λa' w' h3=>?_) h2;have hsame:∀ b,ob=some b->w'.heap[b]? = w.heap[b]?:=λb hb=>by
   obtain⟨o,ho⟩:=hex b hb;rw[ho]; exact h3.2.1 (i,b) (hob b hb) (ztP hcl hj hiun) o ho
  have hy':YieldsIf P ops (λw''=>∀ b,ob=some b->w''.heap[b]? = w'.heap[b]?) oi v a':=by
   rcases h3.1 with⟨g1,g2⟩| g
   .exact .inl ⟨g1,λw'' hw''=>g2 w'' (λb hb=>(hw'' b hb).trans (hsame b hb))⟩
   exact .inr g
  refine⟨λp hp=>h3.2.1 p (hsub p hp),ih (listed.setIfInBounds j true) a' w' (zcu hcl hj) hfree' (ready_mono hr (Ne.symm hji)) hy' (λb hb=>by rw[hsame b hb]; exact hex b hb) ?_⟩;rw[Array.setIfInBounds_comm _ _ hji];exact h3.2.2
theorem zem(h:ops[i]? = some o):zdl P ops i=za1 P o:=by simp[zdl,h]
theorem zor{i:I}(h:zak i=true):zgr bar i=true:=by cases i<;>first | rfl | exact h | (simp[zak]at h)
theorem zdT{Q':Exit->Act->World->Prop}{Pr:Prs}(hQ:∀ en a w,Q en a w->Q' en a w):∀(fuel:Nat) (listed:Array Bool) (a:Act) (w:World),zd5 rb P ops Q Pr fuel listed a w->zd5 rb P ops Q' Pr fuel listed a w
 | 0,_,_,_,h=>⟨h.1,hQ _ _ _ h.2⟩
 | fuel+1,listed,a,w,h=>⟨λh0=>hQ _ _ _ (h.1 h0),λi hi=>by
  have hh:=wpOpIn_mono (λa' w' h'=>(⟨h'.1,zdT hQ fuel _ a' w' h'.2⟩:Carry ops Pr i w w'/\zd5 rb P ops Q' Pr fuel (listed.setIfInBounds i true) a' w')) (h.2 i hi)
  exact zoD hQ hh⟩
variable{k:St->Option (Ex×St)}
theorem znN(hr:RecOk P r)(hF:FSim P N B w1 ι S a w)(hrd:zhl ι rd rb)(ho:ops[i]? = some o)(h:zdv r B bar rd.isNone e S (irO P N ops o) k=some (ex,S')){K:Act->World->Prop}(hK:∀ S1 ι1 a1 wx,Io.le ι ι1->FSim P N B w1 ι1 S1 a1 wx->k S1=some (ex,S')->(zgr bar (zdl P ops i)=true->Below w.heap.size w wx)->
   ((zgr bar (zdl P ops i) && !alI (zdl P ops i)|| zpU (zdl P ops i))=true->ztX w S.heap S1.heap ι1)->((!calls (zdl P ops i)|| wrI (zdl P ops i))=true->wanted S.env (irO P N ops o).g=true->zvg B S.heap ι w wx (zzy S.env (zdl P ops i)))->(wanted S.env (irO P N ops o).g=false->wx=w)->
   (∃ u ds,a1=({ a with defers:=ds }:Act).put o.dst u)->K a1 wx):
  wpOpIn (FW rb) 0 P ops (zfT P N B w1 ι ex S') i K a w:=by
 have nul:∀ d (v:V),ztX w S.heap (S.put d v).heap ι:=λd v=>by
  have:(S.put d v).heap=S.heap:=by cases d<;>rfl
  grind [Go.Mx.ztX]
 have hwe:=zhX (ops:=ops) hF o;rcases ze5 (ops:=ops) hr hF hrd o h with⟨hw,hk⟩| ⟨hw,hq,v,u,hk,hv,hy⟩| ⟨hw,hq,hE⟩
 .exact zh8 ho hw (hK _ ι _ w (Io.le.refl _) (hF.put (.lit _)) hk (λ_=>Below.refl _ _) (λ_=>nul _ _) (λ_ _=>.zbX (Below.refl _ _)) (λ_=>rfl) ⟨undef,a.defers,rfl⟩)
 .exact ziQ ho hw (zio hq) (hy w λ_ _=>rfl) (hK _ ι _ w (Io.le.refl _) (hF.put hv) hk (λ_=>Below.refl _ _) (λ_=>nul _ _) (λ_ _=>.zbX (Below.refl _ _)) (λ_=>rfl) ⟨u,a.defers,rfl⟩)
 rw[<- hwe]at hw;refine zhE ho (hwe ▸ hw) hE (λu ds w' ⟨S1,ι1,hk,hle,hF1,hbel,hnu,hbut⟩=>hK S1 ι1 _ w' hle hF1 hk (λhe=>hbel (by rw[zem ho]at he; exact he)) (λhe=>hnu ?_) (λhe _=>?_) (λhe=>by rw[hw]at he; cases he) ⟨u,ds,rfl⟩) (λv w' hp=>zxp hp)
 .rw[zem ho]at he;generalize za1 P o=i at he hq;cases i<;>first | rfl | (cases he; done)| (cases hq; done)| (simpa [zgr,alI,nuI,zpU,calls,zak]using he)
 rw[zem ho]at he ⊢;exact hbut he
theorem zsb(ho:ops[i]? = some o)(h:zty (za1 P o)=none\/zx0 ops i=[]):zoa P N ops i=[irO P N ops o]:=by
 grind [zoa]
theorem zyD(ho:ops[i]? = some o){x:X}(h:zty (za1 P o)=some x){y:X}{l:List X}(hl:zx0 ops i=y :: l):zoa P N ops i=[{ dst:=none,i:=.avo (y :: l) x,g:=(irO P N ops o).g },irO P N ops o]:=by
 unfold zoa;simp only[ho];rw[h,hl]
variable{top:Bool}
theorem zw9{l:List X}{x:X}{g:Option (Nat×Bool)}(h:zdv r B bar top e S { dst:=none,i:=.avo l x,g:=g } k=some (ex,S')):k S=some (ex,S')/\(wanted S.env g=true->zwv S.heap S.env l x=true):=by
 unfold zdv at h
 grind [St.put,Go.Mx.q,Go.Mx.eff]
theorem zfn(ho:ops[i]? = some o){l:List Nat}(h:zbg r B bar top e ((i :: l).flatMap (zoa P N ops)) S=some (ex,S')):
  zdv r B bar top e S (irO P N ops o) (zbg r B bar top e (l.flatMap (zoa P N ops)))=some (ex,S')/\
  ∀ x y,wanted S.env (irO P N ops o).g=true->zty (za1 P o)=some x->y∈zx0 ops i->zwv S.heap S.env (zx0 ops i) x=true:=by
 rw[List.flatMap_cons]at h;cases ht:zty (za1 P o)with
 | none=>
  rw[zsb ho (.inl ht),qaN,zbg]at h;exact⟨h,λx y _ hx=>by cases hx⟩
 | some x0=>
  cases hl:zx0 ops i with
  | nil=>
   rw[zsb ho (.inr hl),qaN,zbg]at h;exact⟨h,λx y _ _ hy=>by cases hy⟩
  | cons y0 l0=>
   rw[zyD ho ht hl,qbc,qbc,qaU,zbg]at h;obtain⟨h1,h2⟩:=zw9 h;rw[zbg]at h1;exact⟨h1,λx y hw hx _=>by cases hx; exact h2 hw⟩
structure PrOk (bar:Bool) (P:Program) (ops:Array Oper) (a:Act) (M:Array Bool) (p:Nat×Nat):Prop where
 done:M.getD p.1 false=true
 rest:∀ j,j<ops.size->M.getD j false=false->zgr bar (zdl P ops j)=true\/zH5 (zdl P ops j)=true\/zit ops ops.size j p.1=true
 addr:∃ x,ldX ops p.1=some x/\zFH (a.eval x)=some p.2/\∀ k ok,ops[k]? = some ok->M.getD k false=false->∀ d,ok.dst=some d->x≠.tmp d
variable{M:Array Bool}
theorem zph(hcl:zeJ ops M)(hj:M.getD j false=true)(hi:M.getD i false=false):zit ops ops.size j i=false:=by
 grind [ztj,zjr,zeJ]
theorem PrOk.step{M:Array Bool}{p:Nat×Nat}(hp:PrOk bar P ops a M p){j:Nat}{oj:Oper}(hj:ops[j]? = some oj)(hjr:j∈Region.ready .any ops M){u:Value}{ds:List Deferred}:
  PrOk bar P ops (({ a with defers:=ds }:Act).put oj.dst u) (M.setIfInBounds j true) p:=by
 have hmono:∀ {k},(M.setIfInBounds j true).getD k false=false->M.getD k false=false:=λ{k} h=>by
  grind [getD_set_true]
 obtain⟨x,h1,h2,h3⟩:=hp.addr;refine⟨getD_set_true hp.done,λk hk hun=>hp.rest k hk (hmono hun),x,h1,?_,λk ok hk hun d hd=>h3 k ok hk (hmono hun) d hd⟩;rw[<- h2];congr 1
 cases hd:oj.dst with
 | none=>rfl
 | some d=>
  have:=h3 j oj hj (zf2 hjr) d hd;cases x with
  | tmp k=>
   have hne:k≠d:=λh=>this (by rw[h])
   simp only[Act.put,Act.eval];simp[hne,Ne.symm hne]
  | _=>rfl
theorem znH(hF:FSim P N B w1 ι S a w)(hcl:zeJ ops M)(ho:ops[i]? = some o)(hi:i∈Region.ready .any ops M){Pr:Prs}(hP:∀ p∈Pr,PrOk bar P ops a M p){w':World}(hbel:zgr bar (zdl P ops i)=true->Below w.heap.size w w')(hbut:(!calls (zdl P ops i)|| wrI (zdl P ops i))=true->wanted S.env (irO P N ops o).g=true->zvg B S.heap ι w w' (zzy S.env (zdl P ops i)))(hsk:wanted S.env (irO P N ops o).g=false->w'=w)(havo:∀ x y,wanted S.env (irO P N ops o).g=true->zty (za1 P o)=some x->y∈zx0 ops i->zwv S.heap S.env (zx0 ops i) x=true):Carry ops Pr i w w':=by
 intro p hp hre o0 ho0;have hlt:=(qbg.1 ho0).1;have hpo:=hP p hp;have hiu:=zf2 hi;rcases hpo.rest i (qbg.1 ho).1 hiu with h | h | h
 .rw[(hbel h).block _ hlt]; exact ho0
 .cases hw:wanted S.env (irO P N ops o).g with
  | false=>rw[hsk hw]; exact ho0
  | true=>
   obtain⟨x,hx⟩:=qa5.1 h;have hcal:(!calls (zdl P ops i)|| wrI (zdl P ops i))=true:=by
    generalize zdl P ops i=i0 at hx;cases i0 with
    | call f xs=>
     cases xs with
     | nil=>cases hx
     | cons y ys=>
      simp only[zty]at hx;cases hw:wrF f with
      | false=>rw[hw]at hx; cases hx
      | true=>simp[wrI,hw]
    | _=>first | rfl | cases hx
   obtain⟨ob,g1,g2⟩:=hbut hcal hw;rw[<- ho0];refine g1 _ hlt λhe=>?_
   obtain⟨β,s,sz,ob',k1,k2,k3,k4,k5⟩:=g2 _ he.symm;obtain⟨y,a1,a2,_⟩:=hpo.addr;have hmem:opX y∈zx0 ops i:=by
    unfold zx0;rw[List.mem_filterMap];have hlt:p.1<ops.size:=by
     cases ho:ops[p.1]? with
     | none=>simp[ldX,ho]at a1
     | some o=>exact(qbg.1 ho).1
    refine⟨p.1,qaW.2 hlt,?_⟩;rw[hre,zph hcl hpo.done hiu,a1];rfl
   rw[zem ho]at hx;have hv:=havo x _ hw hx hmem;unfold zwv at hv;unfold zzy at k1;rw[zem ho,hx]at k1;simp only[qaa]at k1;cases hev:ev S.env x with
   | none=>rw[hev]at k1; cases k1
   | some v=>
    rw[hev]at k1 hv;simp only[qaa]at k1;simp only[k1,qcs]at hv;have hv:=hv _ hmem;unfold zDz at hv;split at hv
    .rename_i γ off hγ;simp only[qai,qbh,qdA,ne_eq]at hv;obtain⟨cs,hcs⟩:=qa5.1 hv.1;have hr:=zae hF.env hγ;generalize hu0:a.eval y=u0 at hr;cases hr with
     | ptr _ _ b s2 sz2 hι=>
      rw[hu0]at a2;simp only[zFH,qae]at a2;rw[<- a2]at k2;rcases qa0 γ B with hγB | hγB
      .have h1:=hF.sim.old γ _ _ _ _ (zdF hcs) trivial hγB hι;have h2:=hF.sim.own β _ _ _ _ k3 k4 k5 k2;omega
      exact hv.2 (hF.sim.inj β γ _ _ _ _ _ _ _ k3 (zdF hcs) k4 trivial k5 hγB k2 hι).symm
    cases hv
 rw[h]at hre; cases hre
theorem zBX{o:O}(h:zdv r B bar top e S o k=some (ex,S'))(hk:∀ S1,k S1=some (ex,S')->∀ v e',ex=.panic v e'->e'=e):∀ v e',ex=.panic v e'->e'=e:=by
 have hfin:∀ {x:Option (CR×zam)},zpM e o S x k=some (ex,S')->∀ v e',ex=.panic v e'->e'=e:=by
  intro x hx;unfold zpM at hx
  grind
 grind [zdv]
theorem zs0{top:Bool}:∀(l:List O) (S S':St) (ex:Ex),zbg r B bar top e l S=some (ex,S')->∀ v e',ex=.panic v e'->e'=e
 | [],S,S',ex,h=>by
  grind [zbg]
 | o :: l,S,S',ex,h=>zBX h λS1 h1=>zs0 l S1 S' ex h1
end
end Go.Mx
