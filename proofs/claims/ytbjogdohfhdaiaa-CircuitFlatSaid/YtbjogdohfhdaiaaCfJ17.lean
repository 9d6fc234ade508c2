/-
 One operation's step; regions in the order of the text. Conditions: none.
-/
import Derived.Test.YtbjogdohfhdaiaaCfJ16
set_option linter.unusedSimpArgs false
set_option linter.unusedVariables false
namespace Go.Mx
open Go Go.RowKit
section
variable {P:Program} {B N:Nat} {w1 w:World} {ι:Io} {S S':St} {a:Act} {r:Rec} {ops:Array Oper} {rd rb:Option Nat} {Q:Exit->Act->World->Prop} {ex:Ex} {bar e:Bool}
inductive Caller (o:Oper):I->Prop
 | call (c:Call) (f:Nat):o.op=.call c->c.callee=.value (.func f)->Caller o (.call f (c.args.toList.map opX))
 | zdV (c:Call) (k:Nat):o.op=.call c->c.callee=.value (.tmp k)->Caller o (.zdV (.s k) (c.args.toList.map opX))
 | panic (x:Operand):o.op=.panic x->Caller o (.panic (opX x))
 | defer (c:Call) (x:Operand):o.op=.defer c->c.callee=.value x->Caller o (.defer (opX x) (c.args.toList.map opX))
def calls:I->Bool
 | .call .. | .zdV .. | .panic _ | .defer ..=>true
 | _=>false
theorem znm(o:Oper)(h:calls (zaA P o)=true):Caller o (zaA P o):=by
 have key:∀ {b:Bool} {i:I},calls (bif b then i else .bad)=true->b=true/\calls i=true:=by
  intro b i h;cases b with
  | true=>exact⟨rfl,h⟩
  | false=>cases h
 obtain⟨dst,op,type,pos,after,guard⟩:=o;cases op with
 | call c=>
  simp only[zaA,ziZ]at h ⊢;split at h
  .rename_i f hc;obtain⟨hb,_⟩:=key h;simp only[hb,qdl];exact .call c f rfl hc
  .rename_i k hc;exact .zdV c k rfl hc
  .split at h
   .split at h<;>cases h
   .cases h
   .cases h
   .split at h
    .obtain⟨_,h⟩:=key h;split at h
     .obtain⟨_,h⟩:=key h; cases h
     cases h
    cases h
   .split at h
    .obtain⟨_,h⟩:=key h; cases h
    cases h
   .split at h
    .obtain⟨_,h⟩:=key h;split at h
     .obtain⟨_,h⟩:=key h; cases h
     cases h
    cases h
   .cases h
   cases h
  .cases h
 | panic x=>exact .panic x rfl
 | defer c=>
  simp only[zaA]at h ⊢;split at h
  .rename_i x hc; exact .defer c x rfl hc
  .cases h
 | alloc t=>
  simp only[zaA]at h;split at h
  .obtain⟨_,h⟩:=key h; cases h
  .cases h
 | build t parts=>
  simp only[zaA]at h;split at h
  .obtain⟨_,h⟩:=key h;split at h
   .obtain⟨_,h⟩:=key h; cases h
   .obtain⟨_,h⟩:=key h; cases h
   cases h
  .cases h
 | buildSlice t len parts=>
  simp only[zaA]at h;split at h
  .obtain⟨_,h⟩:=key h;split at h
   .obtain⟨_,h⟩:=key h; cases h
   cases h
  .cases h
 | load t x=>simp only[zaA]at h; obtain⟨_,h⟩:=key h; cases h
 | store t x y=>simp only[zaA]at h; obtain⟨_,h⟩:=key h; cases h
 | fieldAddr s x f=>
  simp only[zaA]at h;split at h
  .split at h
   .obtain⟨_,h⟩:=key h; cases h
   cases h
  .cases h
 | field s x f=>
  simp only[zaA]at h;split at h
  .split at h
   .obtain⟨_,h⟩:=key h; cases h
   cases h
  .cases h
 | indexAddr t x i=>
  simp only[zaA]at h;split at h
  .obtain⟨_,h⟩:=key h; cases h
  .obtain⟨_,h⟩:=key h; cases h
  .cases h
 | index t x i=>
  simp only[zaA]at h;split at h
  .obtain⟨_,h⟩:=key h; cases h
  .split at h<;>cases h
  .cases h
 | makeFunc fn first cap=>cases fn<;>cases h
 | makeInterface t x=>simp only[zaA]at h; split at h<;>cases h
 | binOp op t x y ty=>
  simp only[zaA]at h;split at h
  .cases h
  all_goals first
   |(split at h<;>cases h; done)
   |(cases h; done)
   |(rename_i fs hs; cases hb:zqn P t fs<;>rw[hb]at h<;>simp only[qdl,qdm]at h<;>first | (split at h<;>cases h; done)| (cases h; done))
 | convert s d x=>simp only[zaA]at h; split at h<;>cases h
 | makeSlice t l c=>
  simp only[zaA]at h;split at h
  .obtain⟨_,h⟩:=key h;split at h
   .obtain⟨_,h⟩:=key h; cases h
   cases h
  .cases h
 | slice t x lo hi mx=>
  simp only[zaA]at h;split at h
  .obtain⟨_,h⟩:=key h; cases h
  .obtain⟨_,h⟩:=key h; cases h
  .cases h
 | _=>cases h
def nuI(bar:Bool)(i:I):Bool:=(zeZ bar i && calls i)|| zmn i
def zzx(bar:Bool)(h:zaj)(B:Nat):Nat:=bif bar then h.length else B
def zzK(bar:Bool)(w w1:World):World:=bif bar then w else w1
variable{h:zaj}
theorem Sim.zvf(hS:Sim P B w1 ι h w)(bar:Bool):Sim P (zzx bar h B) (zzK bar w w1) ι h w:=by
 cases bar with
 | true=>exact hS.zxw
 | false=>exact hS
variable{h':zaj}{w':World}
theorem Sim.back{ι':Io}(hS:Sim P B w1 ι h w)(hι:Io.le ι ι'){bar:Bool}(hS':Sim P (zzx bar h B) (zzK bar w w1) ι' h' w')(hk:zar (zzx bar h B) h h'):Sim P B w1 ι' h' w'/\(bar=true->Below w.heap.size w w'):=by
 cases bar with
 | true=>exact⟨hS.zAv hι hS' (hk (qap _)).2,λ_=>hS'.below⟩
 | false=>exact⟨hS',by simp⟩
theorem zar.back{bar:Bool}(hk:zar (zzx bar h B) h h'):zar B h h':=by
 cases bar with
 | true=>exact λhB=>⟨(hk (qap _)).1,λβ hβ=>(hk (qap _)).2 β (qbb hβ hB)⟩
 | false=>exact hk
def zvm(w:World)(h h1:zaj)(ι1:Io):Prop:=(∀ β o,β<h.length->h1[β]? = some o->o.live->∃ o0,h[β]? = some o0/\o0.live)/\∀ β o b s sz,h1[β]? = some o->o.live->h.length<=β->ι1 β=some (b,s,sz)->w.heap.size<=b
def Kc(P:Program)(N B:Nat)(w1:World)(ι:Io)(a:Act)(w:World)(h:zaj)(dst:Option Nat)(ext nu wr:Bool)(t:Option Nat)(k:St->Option (Ex×St))(ex:Ex)(S':St):Value->List Deferred->World->Prop:=λu ds w'=>
 ∃ S1 ι1,k S1=some (ex,S')/\Io.le ι ι1/\FSim P N B w1 ι1 S1 (({ a with defers:=ds }:Act).put dst u) w'/\(ext=true->Below w.heap.size w w')/\(nu=true->zvm w h S1.heap ι1)/\(wr=true->zte B h ι w w' t)
def Kp(P:Program)(N B:Nat)(w1:World)(ι:Io)(a:Act)(e:Bool)(ex:Ex)(S':St):Value->World->Prop:=λu w'=>
 ∃ v ι1,ex=.panic v e/\VRel ι1 v u/\Io.le ι ι1/\Sim P B w1 ι1 S'.heap w'/\DfsRel ι1 S'.dfs a.defers/\zbZ ι1 N S'.env a
variable{k:St->Option (Ex×St)}
theorem zkD(hF:FSim P N B w1 ι S a w){o:O}{cr:CR}(hf:zlH e o S (some (cr,h')) k=some (ex,S'))(hk:zar (zzx bar S.heap B) S.heap h'){ext nu wr:Bool}{t:Option Nat}(hext:ext=true->bar=true)(hnu:nu=true->bar=true){en:Ending}(hwr:wr=true->zte B S.heap ι w w' t)(hp:zeF P (zzx bar S.heap B) (zzK bar w w1) ι cr h' en w'):
  (∃ v,en=.returned v/\Kc P N B w1 ι a w S.heap o.dst ext nu wr t k ex S' v a.defers w')\/(∃ v,en=.panicked [{ v:=v,recovered:=false }]/\Kp P N B w1 ι a e ex S' v w'):=by
 obtain⟨ι',hle,hS',hp⟩:=hp;obtain⟨hS2,hbel⟩:=hF.sim.back hle hS' hk;cases cr with
 | ret v=>
  obtain⟨u,rfl,hv⟩:=hp;refine .inl ⟨u,rfl,_,ι',hf,hle,(hF.heap hle hS2).put hv,λhe=>hbel (hext he),λhe=>?_,hwr⟩;have hb:=hnu he;subst hb;have hheap:(St.put { S with heap:=h' } o.dst v).heap=h':=by cases o.dst<;>rfl
  rw[hheap];exact⟨λβ o hβ h1 h2=>⟨o,by rw[<-(hk (qap _)).2 β hβ]; exact h1,h2⟩,λβ o b s sz h1 h2 h3 h4=>hS'.own β o b s sz h1 h2 h3 h4⟩
 | pan v=>
  obtain⟨u,rfl,hv⟩:=hp;simp only[zlH,qad,qag]at hf;obtain⟨rfl,rfl⟩:=hf;exact .inr ⟨u,rfl,v,ι',rfl,hv,hle,hS2,hF.dfs.mono hle,hF.env.mono hle⟩
theorem zdE(hr:RecOk P r)(hF:FSim P N B w1 ι S a w)(hrd:zgo ι rd rb)(o:Oper)(h:zcj r B bar rd.isNone e S (irO P N ops o) k=some (ex,S')):
  (Region.wanted o (yielded ops a.tmps)=false/\k (S.put o.dst zaG)=some (ex,S'))\/
  (Region.wanted o (yielded ops a.tmps)=true/\zag (zaA P o)=true/\∃ v u,k (S.put o.dst v)=some (ex,S')/\VRel ι v u/\∀ w',(∀ b,ldB a o=some b->w'.heap[b]? = w.heap[b]?)->(execOp a.eval o).run P w'=.ok (.value u) w')\/
  (Region.wanted o (yielded ops a.tmps)=true/\zag (zaA P o)=false/\zhO rb P o a w (Kc P N B w1 ι a w S.heap o.dst (zeZ bar (zaA P o)) (nuI bar (zaA P o)) (!calls (zaA P o)|| wrI (zaA P o)) (zv8 S.env (zaA P o)) k ex S') (Kp P N B w1 ι a e ex S')):=by
 have hwe:=zgM (ops:=ops) hF o;unfold zcj at h;cases hw:wanted S.env (irO P N ops o).g with
 | false=>
  rw[hw]at h hwe;exact .inl ⟨hwe.symm,h⟩
 | true=>
  rw[hw]at h hwe;refine .inr ?_;have hi:(irO P N ops o).i=zaA P o:=rfl;have hdst:(irO P N ops o).dst=o.dst:=rfl;simp only[hi,hdst]at h;cases hc:calls (zaA P o)with
  | true=>
   refine .inr ⟨hwe.symm,?_,?_⟩
   .have hcl:=znm o hc;generalize zaA P o=i at hcl;cases hcl<;>rfl
   .have hcl:=znm o hc;generalize hio:zaA P o=i at hcl h hc;cases hcl with
    | call c f ho hcal=>
     simp only[]at h;split at h
     .rename_i vs hvs;cases hcall:r.call (bif zoT bar f then S.heap.length else B) f vs S.heap with
      | none=>rw[hcall]at h; cases h
      | some res=>
       obtain⟨cr,h'⟩:=res;rw[hcall]at h;obtain⟨hok,hkeep⟩:=hr.call _ _ _ _ _ _ hcall;obtain⟨hbody,hcalls⟩:=hok.1 (zzK (zoT bar f) w w1) ι w (c.args.map a.eval) (hF.sim.zvf (zoT bar f)) (zfJ hF.env hvs);unfold zhO;rw[Oper.semAt_eq rb a.eval o (λc'=>by rw[ho]; simp),zlL ho hcal (xs:=#[]) (ys:=#[]) rfl hbody w];simp only[Array.append_empty,Array.empty_append];cases hwf:wrF f with
       | false=>exact CallsIn.mono hcalls λen w' hp=>zkD hF h hkeep (λhe=>by simpa [zeZ]using he) (λhe=>by simpa [nuI,zmn,zeZ,calls]using he) (λhe=>by simp[calls,wrI,hwf]at he) hp
       | true=>
        have hcalls:=hok.2 hwf (zzK (zoT bar f) w w1) ι w (c.args.map a.eval) (hF.sim.zvf (zoT bar f)) (zfJ hF.env hvs);refine CallsIn.mono hcalls λen w' hp=>zkD hF h hkeep (λhe=>by simpa [zeZ]using he) (λhe=>by simpa [nuI,zmn,zeZ,calls]using he) (λhe=>?_) hp.1
        obtain⟨ob,k1,k2⟩:=hp.2;refine⟨ob,k1,λb hb=>?_⟩;obtain⟨β,s,sz,o1,m1,m2,m3,m4,m5⟩:=k2 b hb;refine⟨β,s,sz,o1,?_,m2,m3,m4,?_⟩
        .rw[<- m1];cases hxs:c.args.toList.map opX with
         | nil=>
          rw[hxs]at hvs;cases hvs;rfl
         | cons x xs=>
          rw[hxs]at hvs;simp only[evs]at hvs;simp only[zv8,zqc,hwf,qdl,qaa];split at hvs
          .rename_i v vs' hv _;cases hvs;rw[hv];rfl
          cases hvs
        have hb:=hF.sim.base;cases hbb:zoT bar f<;>rw[hbb]at m5
        .exact m5
        exact qax hb m5
     .cases h
    | zdV c kk ho hcal=>
     simp only[]at h;split at h
     .rename_i v vs hv hvs;have hx:VRel ι v (a.eval (.tmp kk)):=zac (x:=.tmp kk) hF.env hv;have hargs:=zfJ hF.env hvs;unfold zjk at h;split at h
      .rename_i f first cap
       cases hcall:r.call (bif bar then S.heap.length else B) f (first ++ vs ++ cap) S.heap with
       | none=>rw[hcall]at h; cases h
       | some res=>
        obtain⟨cr,h'⟩:=res;rw[hcall]at h;obtain⟨hok,hkeep⟩:=hr.call _ _ _ _ _ _ hcall;generalize hu0:a.eval (.tmp kk)=u0 at hx;cases hx with
        | clo _ _ _ xs ys g1 g2 g3 g4=>
         obtain⟨hbody,hcalls⟩:=hok.1 (zzK bar w w1) ι w (xs ++ c.args.map a.eval ++ ys) (hF.sim.zvf bar) (zfT.append (zfT.append (l:=first) (arr:=xs) ⟨g1,g3⟩ hargs) ⟨g2,g4⟩);unfold zhO;rw[Oper.semAt_eq rb a.eval o (λc'=>by rw[ho]; simp),zlL ho hcal hu0 hbody w];exact CallsIn.mono hcalls λen w' hp=>zkD hF h hkeep (λhe=>by simpa [zeZ]using he) (λhe=>by simpa [nuI,zmn,zeZ,calls]using he) (λhe=>by simp[calls,wrI]at he) hp
      .rename_i l;cases hcall:round r (bif bar then S.heap.length else B) l vs S.heap with
       | none=>rw[hcall]at h; cases h
       | some res=>
        obtain⟨cr,h'⟩:=res;rw[hcall]at h;have hkeep:=zi7 hr hcall;generalize hu0:a.eval (.tmp kk)=u0 at hx;cases hx with
        | yld _ b s sz hι=>
         obtain⟨f,tmps,assign,body,hy,hround⟩:=zoJ hr hcall (hF.sim.zvf bar) hι hargs;unfold zhO;have hrun:(execOp a.eval o).run P w=.ok (.round b f tmps assign body) w:=by
          simp[execOp,ho,resolve,hcal,hu0,Deferred.ofValue,invoke,hy]
         rw[Oper.semAt_eq rb a.eval o (λc'=>by rw[ho]; simp),hrun];exact RoundIn.mono hround λen w' hp=>zkD hF h hkeep (λhe=>by simpa [zeZ]using he) (λhe=>by simpa [nuI,zmn,zeZ,calls]using he) (λhe=>by simp[calls,wrI]at he) hp
      cases h
     .cases h
    | panic x ho=>
     simp only[]at h;split at h
     .rename_i t v hv;simp only[qad,qag]at h;obtain⟨rfl,rfl⟩:=h;have hx:=zac hF.env hv;generalize hu0:a.eval x=u0 at hx;cases hx with
      | ifc _ _ u hu=>
       unfold zhO;have hrun:(execOp a.eval o).run P w=.halt (.panic (.iface t u)) w:=by
        simp[execOp,ho,hu0,Instr.panic,goPanic]
       rw[Oper.semAt_eq rb a.eval o (λc'=>by rw[ho]; simp),hrun];exact⟨_,ι,rfl,.ifc t v u hu,Io.le.refl _,hF.sim,hF.dfs,hF.env⟩
     .cases h
    | defer c x ho hcal=>
     simp only[]at h;split at h
     .rename_i f first cap vs hv hvs
      cases htop:rd.isNone with
      | false=>simp only[htop,qdm]at h; cases h
      | true=>
       simp only[htop,qdl]at h;have hrb:=hrd.zvi htop;subst hrb;have hx:=zac hF.env hv;have hargs:=zfJ hF.env hvs;generalize hu0:a.eval x=u0 at hx;cases hx with
       | clo _ _ _ xs ys g1 g2 g3 g4=>
        unfold zhO;have hrun:(o.semAt none a.eval).run P w=.ok (.defer { target:=.fn (.func f) ys,args:=xs ++ c.args.map a.eval }) w:=by
         rw[Oper.semAt_none];simp[execOp,ho,resolve,hcal,hu0,Deferred.ofValue]
        rw[hrun];refine⟨_,ι,h,Io.le.refl _,FSim.put (S:=⟨S.env,.fn f (first ++ vs ++ cap):: S.dfs,S.heap⟩) (a:=⟨a.tmps,{ target:=.fn (.func f) ys,args:=xs ++ c.args.map a.eval }:: a.defers⟩) ⟨hF.sim,hF.env,.cons (.fn f _ _ ys (zfT.append (zfT.append (l:=first) (arr:=xs) ⟨g1,g3⟩ hargs) ⟨g2,g4⟩)) hF.dfs⟩ (.lit _),λ_=>Below.refl _ _,λhe=>(by cases he),λhe=>(by cases he)⟩
     .cases h
  | false=>
   have hh:(bif zag (zaA P o)then(match q S.heap S.env (zaA P o)with | some v=>k (S.put o.dst v)| none=>none)
     else(match eff B S.heap S.env (zaA P o)with | some (v,h)=>k ({ S with heap:=h }.put o.dst v)| none=>none))=some (ex,S'):=by
    generalize zaA P o=i at h hc;cases i<;>first | exact h | cases hc
   cases hq:zag (zaA P o)with
   | true=>
    rw[hq]at hh;simp only[qdl]at hh;split at hh
    .rename_i v hv;obtain⟨u,h1,h2⟩:=zts hF.sim hF.env o hv;exact .inl ⟨hwe.symm,rfl,v,u,hh,h2,h1⟩
    .cases hh
   | false=>
    rw[hq]at hh;simp only[qdm]at hh;split at hh
    .rename_i v h' hv;obtain⟨u,w',ι',hrun,hle,hS',hvr,hbel,hbut⟩:=ztP hF.sim hF.env o hv;refine .inr ⟨hwe.symm,rfl,?_⟩;unfold zhO;have hnd:∀ c,o.op≠.defer c:=by
      intro c hop;have hd:(∃ x xs,zaA P o=.defer x xs)\/zaA P o=.bad:=by
       unfold zaA;rw[hop];simp only[];split
       .exact .inl ⟨_,_,rfl⟩
       exact .inr rfl
      rcases hd with⟨x,xs,hd⟩| hd<;>rw[hd]at hv<;>simp[eff]at hv
     have hext:zeZ bar (zaA P o)=true->zeZ false (zaA P o)=true:=by
      intro he;generalize zaA P o=i at he hc;cases i<;>first | exact he | cases hc
     have hnu:nuI bar (zaA P o)=true->zvm w S.heap ({ S with heap:=h' }.put o.dst v).heap ι':=by
      intro he;have hheap:(St.put { S with heap:=h' } o.dst v).heap=h':=by cases o.dst<;>rfl
      rw[hheap];generalize zaA P o=i at he hc hv;simp only[nuI,hc,qcf,qb4]at he;cases i<;>first | (cases he; done)| skip
      simp only[eff]at hv;split at hv
      .split at hv
       .rename_i β _ l _ _ _ cs hcs;rw[qde]at hv;split at hv
        .simp only[qad,qag]at hv;obtain⟨_,rfl⟩:=hv;refine⟨λγ o hγ h1 h2=>?_,λγ o b s sz h1 h2 h3 h4=>?_⟩
         .by_cases hg:β=γ
          .subst hg;exact⟨_,zcn hcs,qdk⟩
          rw[qar hg]at h1;exact⟨o,h1,h2⟩
         have:=(qab.1 h1).1;simp at this;omega
        cases hv
       cases hv
      cases hv
     rw[Oper.semAt_eq rb a.eval o hnd];rcases hrun with hrun | ⟨hrun,rfl⟩
     .rw[hrun];exact⟨_,ι',hh,hle,(hF.heap hle hS').put hvr,λhe=>hbel (hext he),hnu,λ_=>hbut⟩
     rw[hrun];exact⟨_,ι',hh,hle,(hF.heap hle hS').put hvr,λhe=>hbel (hext he),hnu,λ_=>hbut⟩
    cases hh
theorem zqs(hr:RecOk P r){o:O}{top:Bool}(h:zcj r B bar top e S o k=some (ex,S'))(hk:∀ S1,k S1=some (ex,S')->zar B S1.heap S'.heap):zar B S.heap S'.heap:=by
 have hput:∀(S0:St) (d:Option Nat) (v:V),(S0.put d v).heap=S0.heap:=by
  intro S0 d v; cases d<;>rfl
 have hfin:∀ {x:Option (CR×zaj)},zlH e o S x k=some (ex,S')->(∀ cr h',x=some (cr,h')->zar B S.heap h')->zar B S.heap S'.heap:=by
  intro x hx hkk;unfold zlH at hx;split at hx
  .rename_i v h';have:=hk _ hx;rw[hput]at this;exact(hkk _ _ rfl).trans this
  .rename_i v h';simp only[qad,qag]at hx;obtain⟨_,rfl⟩:=hx;exact hkk _ _ rfl
  cases hx
 unfold zcj at h;split at h
 .have:=hk _ h; rw[hput]at this; exact this
 split at h
 .split at h
  .rename_i f xs _ vs _;exact hfin h λcr h' he=>zar.back (bar:=zoT bar _) (hr.call _ _ _ _ _ _ he).2
  cases h
 .split at h
  .refine hfin h λcr h' he=>zar.back (bar:=bar) ?_
   unfold zjk at he;split at he
   .exact(hr.call _ _ _ _ _ _ he).2
   .exact zi7 hr he
   cases he
  cases h
 .split at h
  .simp only[qad,qag]at h;obtain⟨_,rfl⟩:=h;exact zar.refl _ _
  cases h
 .split at h
  .cases top with
   | true=>
    simp only[qdl]at h;have:=hk _ h; rw[hput]at this; exact this
   | false=>simp only[qdm]at h; cases h
  cases h
 rename_i i _ _ _ _;cases hq:zag o.i with
 | true=>
  simp only[hq,qdl]at h;split at h
  .have:=hk _ h; rw[hput]at this; exact this
  .cases h
 | false=>
  simp only[hq,qdm]at h;split at h
  .rename_i v h' he;have:=hk _ h; rw[hput]at this; exact(zlM he).trans this
  cases h
theorem zfw(hr:RecOk P r){top:Bool}:∀(l:List O) (S S':St) (ex:Ex),zaI r B bar top e l S=some (ex,S')->zar B S.heap S'.heap
 | [],S,S',ex,h=>by
  simp only[zaI,qad,qag]at h;obtain⟨_,rfl⟩:=h;exact zar.refl _ _
 | o :: l,S,S',ex,h=>zqs hr h λS1 h1=>zfw hr l S1 S' ex h1
variable{i:Nat}{o:Oper}{K':Act->World->Prop}
theorem zgi(ho:ops[i]? = some o){Kc':Value->List Deferred->World->Prop}{Kp':Value->World->Prop}(hw:Region.wanted o (yielded ops a.tmps)=true)(h:zhO rb P o a w Kc' Kp')(hk:∀ u ds w',Kc' u ds w'->K' (({ a with defers:=ds }:Act).put o.dst u) w')(hq:∀ v w',Kp' v w'->Q (.panic [{ v:=v,recovered:=false }]) a w'):wpOpIn (FW rb) 0 P ops Q i K' a w:=by
 unfold wpOpIn;simp only[ho,hw,if_true];exact h.wp hk hq
theorem zgw(ho:ops[i]? = some o)(hw:Region.wanted o (yielded ops a.tmps)=false)(h:K' (a.put o.dst undef) w):wpOpIn (FW rb) 0 P ops Q i K' a w:=by
 unfold wpOpIn;simp only[ho,hw,qaQ,if_false];exact⟨λ_ _=>trivial,h⟩
theorem zgl(h:zag (zaA P o)=true):∀ c,o.op≠.defer c:=by
 intro c hop;unfold zaA at h;rw[hop]at h;simp only[]at h;split at h<;>cases h
theorem zhr(ho:ops[i]? = some o)(hw:Region.wanted o (yielded ops a.tmps)=true)(hnd:∀ c,o.op≠.defer c){u:Value}(hy:(execOp a.eval o).run P w=.ok (.value u) w)(h:K' (a.put o.dst u) w):wpOpIn (FW rb) 0 P ops Q i K' a w:=by
 unfold wpOpIn;simp only[ho,hw,if_true];refine⟨λ_ _=>trivial,?_⟩;rw[Oper.semAt_eq _ a.eval o hnd,hy];exact h
theorem ztF{u:Value}(h:Kp P N B w1 ι a e ex S' u w'):zg3 P N B w1 ι ex S' (.panic [{ v:=u,recovered:=false }]) a w':=by
 obtain⟨v,ι1,rfl,h1,h2,h3,h4,h5⟩:=h;exact⟨ι1,h2,u,rfl,h1,h3,h4,λ_=>h5⟩
theorem zep(hr:RecOk P r):∀(l:List Nat) (S:St) (ι:Io) (a:Act) (w:World),FSim P N B w1 ι S a w->zgo ι rd rb->zaI r B bar rd.isNone e (l.filterMap λi=>(ops[i]?).map (irO P N ops)) S=some (ex,S')->
  wpOpsIn (FW rb) 0 P ops (zg3 P N B w1 ι ex S') l a w
 | [],S,ι,a,w,hF,_,h=>by
  simp only[List.filterMap_nil,zaI,qad,qag]at h;obtain⟨rfl,rfl⟩:=h;exact⟨ι,Io.le.refl _,rfl,hF⟩
 | i :: l,S,ι,a,w,hF,hrd,h=>by
  rw[wpOpsIn_cons];cases ho:ops[i]? with
  | none=>
   simp only[qcv,ho,qc3]at h;unfold wpOpIn;simp only[ho];exact zep hr l S ι a w hF hrd h
  | some o=>
   simp only[qcv,ho,qaM,zaI]at h;have hmono:∀ {ι1:Io} (hle:Io.le ι ι1) (a':Act) (w':World),wpOpsIn (FW rb) 0 P ops (zg3 P N B w1 ι1 ex S') l a' w'->wpOpsIn (FW rb) 0 P ops (zg3 P N B w1 ι ex S') l a' w':=by
    intro ι1 hle a' w' hh;exact zbV (λen a w hp=>hp.mono hle) l a' w' hh
   rcases zdE (ops:=ops) hr hF hrd o h with⟨hw,hk⟩| ⟨hw,hq,v,u,hk,hv,hy⟩| ⟨hw,hq,hE⟩
   .exact zgw ho hw (zep hr l _ ι _ w (hF.put (.lit _)) hrd hk)
   .exact zhr ho hw (zgl hq) (hy w λ_ _=>rfl) (zep hr l _ ι _ w (hF.put hv) hrd hk)
   refine zgi ho hw hE (λu ds w' ⟨S1,ι1,hk,hle,hF1,_⟩=>hmono hle _ _ (zep hr l S1 ι1 _ w' hF1 (hrd.mono hle) hk)) (λv w' hp=>ztF hp)
end
section
variable {P:Program} {B N:Nat} {w1 w:World} {ι:Io} {S S':St} {a:Act} {r:Rec} {ops:Array Oper} {rd rb:Option Nat} {Q:Exit->Act->World->Prop} {ex:Ex} {bar e:Bool} {Sx:World->Prop}
variable{i:Nat}{o:Oper}{v:Value}
theorem zgS(hi:ops[i]? = some o)(hnd:∀ c,o.op≠.defer c)(hy:YieldsIf P ops Sx o v a){K:Act->World->Prop}(hS:Sx w)(h:K (a.put o.dst v) w):wpOpIn (FW rb) 0 P ops Q i K a w:=by
 rcases hy with⟨hw,hv⟩| ⟨hw,rfl⟩
 .exact zhr hi hw hnd (hv w hS) h
 exact zgw hi hw h
variable{j:Nat}
theorem zmr{oi oj:Oper}(hj:ops[j]? = some oj)(hap:oi.apart ops oj=true)(hsi:∀ cs b,oi.op≠.select cs b)(hsj:∀ cs b,oj.op≠.select cs b)(hdj:∀ c,oj.op≠.defer c)(hQ:∀ c a w,Q (.panic c) (a.put oi.dst v) w->Q (.panic c) a w){K:Act->World->Prop}{a:Act}{w:World}(hy:YieldsIf P ops Sx oi v a)(h:wpOpIn (FW rb) 0 P ops Q j K (a.put oi.dst v) w):
  wpOpIn (FW rb) 0 P ops Q j (λa' w'=>YieldsIf P ops Sx oi v a'/\K (a'.put oi.dst v) w') a w:=by
 obtain⟨h1,h2,h3⟩:=Oper.apart_spec hap;have zev:∀(a:Act),YieldsIf P ops Sx oi v a->∀ u,YieldsIf P ops Sx oi v (a.put oj.dst u):=λa hy u=>
  hy.of_same (execOp_put oi hsi a oj.dst u h3) (wanted_put oi a oj.dst u h3)
 have keepD:∀ d,YieldsIf P ops Sx oi v { a with defers:=d :: a.defers }:=λd=>hy.of_same rfl rfl
 unfold wpOpIn at *;simp only[hj]at *;rw[wanted_put oj a oi.dst v h1]at h;split
 .rename_i hw;simp only[hw,if_true]at h;refine⟨λ_ _=>trivial,?_⟩;have h:=h.2;rw[Oper.semAt_eq _ _ oj hdj,execOp_put oj hsj a oi.dst v h1]at h;rw[Oper.semAt_eq _ _ oj hdj];generalize (execOp a.eval oj).run P w=res at *;cases res with
  | ok x w'=>
   cases x<;>simp only[Oper.uponIn]at h ⊢
   case value u=>exact⟨zev a hy u,by rw[<- Act.put_comm a v u h2]; exact h⟩
   case skip=>exact⟨zev a hy _,by rw[<- Act.put_comm a v undef h2]; exact h⟩
   case defer d=>
    refine⟨zev _ (keepD d) _,?_⟩;rw[<- Act.put_comm _ v undef h2,<- Act.put_defers];exact h
   case enter f args=>
    refine⟨h.1,CallsIn.mono h.2 λe w'' he=>?_⟩;cases e with
    | returned u=>exact⟨zev a hy u,by rw[<- Act.put_comm a v u h2]; exact he⟩
    | panicked c=>exact hQ _ _ _ he
    | outgrown=>exact he
   case row row args=>exact⟨h.1,RowsIn.mono h.2 λu w'' he=>⟨zev a hy u,by rw[<- Act.put_comm a v u h2]; exact he⟩⟩
   case round l f tmps assign body=>
    refine⟨h.1,RoundIn.mono h.2 λe w'' he=>?_⟩;cases e with
    | returned u=>exact⟨zev a hy u,by rw[<- Act.put_comm a v u h2]; exact he⟩
    | panicked c=>exact hQ _ _ _ he
    | outgrown=>exact he
  | halt x w'=>
   cases x<;>simp only[Oper.uponIn]at h ⊢
   case panic u=>exact hQ _ _ _ h
 rename_i hw;simp only[hw]at h;exact⟨λ_ _=>trivial,zev a hy _,by rw[<- Act.put_comm a v undef h2]; exact h.2⟩
abbrev Prs:=List (Nat×Nat)
def Carry(ops:Array Oper)(Pr:Prs)(i:Nat)(w w':World):Prop:=∀ p∈Pr,zfn ops ops.size i p.1=false->∀ o,w.heap[p.2]? = some o->w'.heap[p.2]? = some o
def zdr(rb:Option Nat)(P:Program)(ops:Array Oper)(Q:Exit->Act->World->Prop)(Pr:Prs):Nat->Array Bool->Act->World->Prop
 | 0,listed,a,w=>Region.ready .any ops listed=[]/\Q .normal a w
 | fuel+1,listed,a,w=>
  (Region.ready .any ops listed=[]->Q .normal a w)/\
  ∀ i∈Region.ready .any ops listed,wpOpIn (FW rb) 0 P ops Q i (λa' w'=>Carry ops Pr i w w'/\zdr rb P ops Q Pr fuel (listed.setIfInBounds i true) a' w') a w
theorem zjw{Pr:Prs}:∀(fuel:Nat) (listed:Array Bool) (a:Act) (w:World),zdr rb P ops Q Pr fuel listed a w->wpAnyIn (FW rb) 0 P .any ops Q fuel listed a w
 | 0,_,_,_,h=>h
 | fuel+1,_,_,_,h=>⟨h.1,λi hi=>wpOpIn_mono (λa' w' h'=>zjw fuel _ a' w' h'.2) (h.2 i hi)⟩
theorem zjA{Pr Pr':Prs}(hs:∀ p∈Pr,p∈Pr'):∀(fuel:Nat) (listed:Array Bool) (a:Act) (w:World),zdr rb P ops Q Pr' fuel listed a w->zdr rb P ops Q Pr fuel listed a w
 | 0,_,_,_,h=>h
 | fuel+1,_,_,_,h=>⟨h.1,λi hi=>wpOpIn_mono (λa' w' h'=>⟨λp hp=>h'.1 p (hs p hp),zjA hs fuel _ a' w' h'.2⟩) (h.2 i hi)⟩
def zdQ(ops:Array Oper)(listed:Array Bool):Prop:=
 ∀ j oj,ops[j]? = some oj->listed.getD j false=true->∀ ed∈oj.after,Region.binds .any ed=true->listed.getD ed.on false=true
variable{listed:Array Bool}
theorem zbI(h:zdQ ops listed)(hi:i∈Region.ready .any ops listed):zdQ ops (listed.setIfInBounds i true):=by
 obtain⟨_,oi,hoi,hall⟩:=mem_ready.1 hi;intro j oj hj hl ed hed hb;by_cases hij:i=j
 .subst hij;have:oj=oi:=qal (hj.symm.trans hoi);subst this;exact getD_set_true (hall ed hed hb)
 rw[getD_set_ne false hij]at hl;exact getD_set_true (h j oj hj hl ed hed hb)
def zos(ops:Array Oper)(i:Nat):List Nat->Prop
 | []=>True
 | k :: acc=>zux ops i acc k=true/\zos ops i acc
theorem zjP(ops:Array Oper)(i:Nat):zos ops i (ztj ops i):=by
 unfold ztj
 suffices ∀(l:List Nat) (acc:List Nat),zos ops i acc->zos ops i (l.foldl (λacc k=>bif zux ops i acc k then k :: acc else acc) acc)from this _ [] trivial
 intro l;induction l with
 | nil=>exact λacc h=>h
 | cons k l ih=>
  intro acc h;rw[qbO];refine ih _ ?_;cases hw:zux ops i acc k with
  | false=>exact h
  | true=>exact⟨hw,h⟩
theorem zky{i j:Nat}:∀ {acc:List Nat},zos ops i acc->j∈acc->∃ acc' oj,zos ops i acc'/\acc'.length<acc.length/\ops[j]? = some oj/\∃ ed∈oj.after,Region.binds .any ed=true/\(ed.on=i\/ed.on∈acc')
 | k :: acc,h,hj=>by
  rcases qbc.1 hj with rfl | hj
  .obtain⟨h1,h2⟩:=h;unfold zux at h1;split at h1
   .rename_i ok hok;obtain⟨ed,hed,hb⟩:=Array.any_eq_true'.1 h1;simp only[qae,qby,qdp,qcl]at hb;exact⟨acc,ok,h2,qaW _,hok,ed,hed,hb.1,hb.2⟩
   cases h1
  obtain⟨acc',oj,g1,g2,g3⟩:=zky h.2 hj;exact⟨acc',oj,g1,qcN g2,g3⟩
theorem zrb{n:Nat}(h:zfn ops n j i=true):∃ oj,ops[j]? = some oj:=by
 obtain⟨_,oj,_,_,h1,_⟩:=zky (zjP ops i) (qcl.1 h);exact⟨oj,h1⟩
theorem zhy(h:zdQ ops listed)(f j:Nat)(oj:Oper)(hj:ops[j]? = some oj)(hall:∀ ed∈oj.after,Region.binds .any ed=true->listed.getD ed.on false=true)(hr:zfn ops f j i=true):listed.getD i false=true:=by
 have key:∀(n:Nat) (acc:List Nat) (j:Nat) (oj:Oper),acc.length<=n->zos ops i acc->j∈acc->ops[j]? = some oj->(∀ ed∈oj.after,Region.binds .any ed=true->listed.getD ed.on false=true)->listed.getD i false=true:=by
  intro n;induction n with
  | zero=>
   intro acc j oj hn _ hm;have:acc=[]:=qa5.1 (by omega);subst this;cases hm
  | succ n ih=>
   intro acc j oj hn hg hm hj hall;obtain⟨acc',oj',g1,g2,g3,ed,g4,g5,g6⟩:=zky hg hm;have:oj'=oj:=qal (g3.symm.trans hj);subst this;have h1:=hall ed g4 g5;rcases g6 with g6 | g6
   .rw[<- g6]; exact h1
   obtain⟨_,ok,_,_,k3,_⟩:=zky g1 g6;exact ih acc' ed.on ok (by omega) g1 g6 k3 λe' he' hb'=>h ed.on ok k3 h1 e' he' hb'
 exact key _ _ j oj (qap _) (zjP ops i) (qcl.1 hr) hj hall
theorem zeb(h:zgc ops=true)(ho:ops[j]? = some o):∀ c,o.op≠.defer c:=by
 intro c hop;have:=qcr.1 h o (Array.mem_of_getElem? ho);rw[hop]at this;cases this
theorem zqR(hcl:zdQ ops listed)(hj:j∈Region.ready .any ops listed)(hi:listed.getD i false=false):zfn ops ops.size j i=false:=by
 obtain⟨_,oj,hoj,hall⟩:=mem_ready.1 hj;cases hr:zfn ops ops.size j i with
 | false=>rfl
 | true=>
  have:=zhy hcl ops.size j oj hoj hall hr;rw[hi]at this; cases this
theorem zeD(hr:i∈Region.ready .any ops listed):listed.getD i false=false:=by
 have h0:=(mem_ready.1 hr).1;rcases qbs i listed.size with h' | h'
 .simp[h']at h0 ⊢; exact h0
 simp[qbN h']
theorem zhC{oi:Oper}(hi:ops[i]? = some oi)(hsel:∀(j:Nat) (o:Oper) cs b,ops[j]? = some o->o.op≠.select cs b)(hnd:zgc ops=true)(hQ:∀ c a w,Q (.panic c) (a.put oi.dst v) w->Q (.panic c) a w){Pr Pr':Prs}(hsub:∀ p∈Pr,p∈Pr'){ob:Option Nat}(hob:∀ b,ob=some b->(i,b)∈Pr'):
  ∀(fuel:Nat) (listed:Array Bool) (a:Act) (w:World),zdQ ops listed ->
   (∀ j oj,ops[j]? = some oj->j≠i->listed.getD j true=false->(∀ e∈oj.after,Region.binds .any e=true->e.on≠i)->oi.apart ops oj=true)->
   i∈Region.ready .any ops listed->YieldsIf P ops (λw'=>∀ b,ob=some b->w'.heap[b]? = w.heap[b]?) oi v a->(∀ b,ob=some b->∃ o,w.heap[b]? = some o)->
   zdr rb P ops Q Pr' fuel (listed.setIfInBounds i true) (a.put oi.dst v) w->zdr rb P ops Q Pr (fuel+1) listed a w:=by
 intro fuel;induction fuel with
 | zero=>
  intro listed a w _ _ hr hy _ H;refine⟨λh=>(by rw[h]at hr; cases hr),λj hj=>?_⟩;by_cases hji:j=i
  .subst hji; exact zgS hi (zeb hnd hi) hy (λ_ _=>rfl) ⟨λ_ _ _ _ ho=>ho,H⟩
  .have:=ready_mono hj hji;rw[H.1]at this;cases this
 | succ fuel ih=>
  intro listed a w hcl hfree hr hy hex H;refine⟨λh=>(by rw[h]at hr; cases hr),λj hj=>?_⟩;by_cases hji:j=i
  .subst hji; exact zgS hi (zeb hnd hi) hy (λ_ _=>rfl) ⟨λ_ _ _ _ ho=>ho,zjA hsub _ _ _ _ H⟩
  have h1:=H.2 j (ready_mono hj hji);obtain⟨hjun,oj,hoj,hall⟩:=mem_ready.1 hj;have hiun:=zeD hr;have hnot:∀ e∈oj.after,Region.binds .any e=true->e.on≠i:=λe he hb heq=>by
   have h1:=hall e he hb;rw[heq,hiun]at h1; cases h1
  have h2:=zmr hoj (hfree j oj hoj hji hjun hnot) (λcs b=>hsel i oi cs b hi) (λcs b=>hsel j oj cs b hoj) (zeb hnd hoj) hQ hy h1;have hfree':∀ k ok,ops[k]? = some ok->k≠i->(listed.setIfInBounds j true).getD k true=false ->
    (∀ e∈ok.after,Region.binds .any e=true->e.on≠i)->oi.apart ops ok=true:=λk ok hk hki hun hno=>by
   refine hfree k ok hk hki ?_ hno;by_cases hjk:j=k
   .subst hjk; exact hjun
   rw[getD_set_ne true hjk]at hun; exact hun
  refine wpOpIn_mono (λa' w' h3=>?_) h2;have hsame:∀ b,ob=some b->w'.heap[b]? = w.heap[b]?:=λb hb=>by
   obtain⟨o,ho⟩:=hex b hb;rw[ho]; exact h3.2.1 (i,b) (hob b hb) (zqR hcl hj hiun) o ho
  have hy':YieldsIf P ops (λw''=>∀ b,ob=some b->w''.heap[b]? = w'.heap[b]?) oi v a':=by
   rcases h3.1 with⟨g1,g2⟩| g
   .exact .inl ⟨g1,λw'' hw''=>g2 w'' (λb hb=>(hw'' b hb).trans (hsame b hb))⟩
   exact .inr g
  refine⟨λp hp=>h3.2.1 p (hsub p hp),ih (listed.setIfInBounds j true) a' w' (zbI hcl hj) hfree' (ready_mono hr (Ne.symm hji)) hy' (λb hb=>by rw[hsame b hb]; exact hex b hb) ?_⟩;rw[Array.setIfInBounds_comm _ _ hji];exact h3.2.2
theorem zc6(h:ops[i]? = some o):zck P ops i=zaA P o:=by simp[zck,h]
theorem zmv{i:I}(h:zag i=true):zeZ bar i=true:=by cases i<;>first | rfl | exact h | (simp[zag]at h)
theorem zcE{Q':Exit->Act->World->Prop}{Pr:Prs}(hQ:∀ en a w,Q en a w->Q' en a w):∀(fuel:Nat) (listed:Array Bool) (a:Act) (w:World),zdr rb P ops Q Pr fuel listed a w->zdr rb P ops Q' Pr fuel listed a w
 | 0,_,_,_,h=>⟨h.1,hQ _ _ _ h.2⟩
 | fuel+1,listed,a,w,h=>⟨λh0=>hQ _ _ _ (h.1 h0),λi hi=>by
  have hh:=wpOpIn_mono (λa' w' h'=>(⟨h'.1,zcE hQ fuel _ a' w' h'.2⟩:Carry ops Pr i w w'/\zdr rb P ops Q' Pr fuel (listed.setIfInBounds i true) a' w')) (h.2 i hi)
  exact zm7 hQ hh⟩
variable{k:St->Option (Ex×St)}
theorem zlr(hr:RecOk P r)(hF:FSim P N B w1 ι S a w)(hrd:zgo ι rd rb)(ho:ops[i]? = some o)(h:zcj r B bar rd.isNone e S (irO P N ops o) k=some (ex,S')){K:Act->World->Prop}(hK:∀ S1 ι1 a1 wx,Io.le ι ι1->FSim P N B w1 ι1 S1 a1 wx->k S1=some (ex,S')->(zeZ bar (zck P ops i)=true->Below w.heap.size w wx)->
   ((zeZ bar (zck P ops i) && !alI (zck P ops i)|| zmn (zck P ops i))=true->zvm w S.heap S1.heap ι1)->((!calls (zck P ops i)|| wrI (zck P ops i))=true->wanted S.env (irO P N ops o).g=true->zte B S.heap ι w wx (zv8 S.env (zck P ops i)))->(wanted S.env (irO P N ops o).g=false->wx=w)->
   (∃ u ds,a1=({ a with defers:=ds }:Act).put o.dst u)->K a1 wx):
  wpOpIn (FW rb) 0 P ops (zg3 P N B w1 ι ex S') i K a w:=by
 have nul:∀ d (v:V),zvm w S.heap (S.put d v).heap ι:=λd v=>by
  have:(S.put d v).heap=S.heap:=by cases d<;>rfl
  rw[this];exact⟨λβ o _ h1 h2=>⟨o,h1,h2⟩,λβ o b s sz h1 _ h3 _=>by have:=(qab.1 h1).1; omega⟩
 have hwe:=zgM (ops:=ops) hF o;rcases zdE (ops:=ops) hr hF hrd o h with⟨hw,hk⟩| ⟨hw,hq,v,u,hk,hv,hy⟩| ⟨hw,hq,hE⟩
 .exact zgw ho hw (hK _ ι _ w (Io.le.refl _) (hF.put (.lit _)) hk (λ_=>Below.refl _ _) (λ_=>nul _ _) (λ_ _=>.zbe (Below.refl _ _)) (λ_=>rfl) ⟨undef,a.defers,rfl⟩)
 .exact zhr ho hw (zgl hq) (hy w λ_ _=>rfl) (hK _ ι _ w (Io.le.refl _) (hF.put hv) hk (λ_=>Below.refl _ _) (λ_=>nul _ _) (λ_ _=>.zbe (Below.refl _ _)) (λ_=>rfl) ⟨u,a.defers,rfl⟩)
 rw[<- hwe]at hw;refine zgi ho (hwe ▸ hw) hE (λu ds w' ⟨S1,ι1,hk,hle,hF1,hbel,hnu,hbut⟩=>hK S1 ι1 _ w' hle hF1 hk (λhe=>hbel (by rw[zc6 ho]at he; exact he)) (λhe=>hnu ?_) (λhe _=>?_) (λhe=>by rw[hw]at he; cases he) ⟨u,ds,rfl⟩) (λv w' hp=>ztF hp)
 .rw[zc6 ho]at he;generalize zaA P o=i at he hq;cases i<;>first | rfl | (cases he; done)| (cases hq; done)| (simpa [zeZ,alI,nuI,zmn,calls,zag]using he)
 rw[zc6 ho]at he ⊢;exact hbut he
theorem zqe(ho:ops[i]? = some o)(h:zqc (zaA P o)=none\/zu3 ops i=[]):zmG P N ops i=[irO P N ops o]:=by
 unfold zmG;simp only[ho];rcases h with h | h
 .rw[h]
 rw[h];cases zqc (zaA P o)<;> rfl
theorem zvb(ho:ops[i]? = some o){x:X}(h:zqc (zaA P o)=some x){y:X}{l:List X}(hl:zu3 ops i=y :: l):zmG P N ops i=[{ dst:=none,i:=.avo (y :: l) x,g:=(irO P N ops o).g },irO P N ops o]:=by
 unfold zmG;simp only[ho];rw[h,hl]
variable{top:Bool}
theorem zs5{l:List X}{x:X}{g:Option (Nat×Bool)}(h:zcj r B bar top e S { dst:=none,i:=.avo l x,g:=g } k=some (ex,S')):k S=some (ex,S')/\(wanted S.env g=true->zrm S.heap S.env l x=true):=by
 unfold zcj at h;cases hw:wanted S.env g with
 | false=>
  simp only[hw,St.put]at h;exact⟨h,λh=>by cases h⟩
 | true=>
  simp only[hw,St.put,zag,qdl,q]at h;cases hv:zrm S.heap S.env l x with
  | false=>simp only[hv,qdm]at h; cases h
  | true=>
   simp only[hv,qdl]at h;exact⟨h,λ_=>rfl⟩
theorem zd9(ho:ops[i]? = some o){l:List Nat}(h:zaI r B bar top e ((i :: l).flatMap (zmG P N ops)) S=some (ex,S')):
  zcj r B bar top e S (irO P N ops o) (zaI r B bar top e (l.flatMap (zmG P N ops)))=some (ex,S')/\
  ∀ x y,wanted S.env (irO P N ops o).g=true->zqc (zaA P o)=some x->y∈zu3 ops i->zrm S.heap S.env (zu3 ops i) x=true:=by
 rw[List.flatMap_cons]at h;cases ht:zqc (zaA P o)with
 | none=>
  rw[zqe ho (.inl ht),qcm,zaI]at h;exact⟨h,λx y _ hx=>by cases hx⟩
 | some x0=>
  cases hl:zu3 ops i with
  | nil=>
   rw[zqe ho (.inr hl),qcm,zaI]at h;exact⟨h,λx y _ _ hy=>by cases hy⟩
  | cons y0 l0=>
   rw[zvb ho ht hl,qaL,qaL,qbe,zaI]at h;obtain⟨h1,h2⟩:=zs5 h;rw[zaI]at h1;exact⟨h1,λx y hw hx _=>by cases hx; exact h2 hw⟩
structure PrOk (bar:Bool) (P:Program) (ops:Array Oper) (a:Act) (M:Array Bool) (p:Nat×Nat):Prop where
 done:M.getD p.1 false=true
 rest:∀ j,j<ops.size->M.getD j false=false->zeZ bar (zck P ops j)=true\/zCZ (zck P ops j)=true\/zfn ops ops.size j p.1=true
 addr:∃ x,ldX ops p.1=some x/\zBC (a.eval x)=some p.2/\∀ k ok,ops[k]? = some ok->M.getD k false=false->∀ d,ok.dst=some d->x≠.tmp d
variable{M:Array Bool}
theorem zmw(hcl:zdQ ops M)(hj:M.getD j false=true)(hi:M.getD i false=false):zfn ops ops.size j i=false:=by
 cases hr:zfn ops ops.size j i with
 | false=>rfl
 | true=>
  cases hoj:ops[j]? with
  | none=>
   obtain⟨oj,hoj'⟩:=zrb hr;rw[hoj]at hoj'; cases hoj'
  | some oj=>
   have:=zhy hcl ops.size j oj hoj (λed hed hb=>hcl j oj hoj hj ed hed hb) hr;rw[hi]at this; cases this
theorem PrOk.step{p:Nat×Nat}(hp:PrOk bar P ops a M p){oj:Oper}(hj:ops[j]? = some oj)(hjr:j∈Region.ready .any ops M){u:Value}{ds:List Deferred}:
  PrOk bar P ops (({ a with defers:=ds }:Act).put oj.dst u) (M.setIfInBounds j true) p:=by
 have hmono:∀ {k},(M.setIfInBounds j true).getD k false=false->M.getD k false=false:=λ{k} h=>by
  cases hM:M.getD k false with
  | false=>rfl
  | true=>rw[getD_set_true hM]at h; cases h
 obtain⟨x,h1,h2,h3⟩:=hp.addr;refine⟨getD_set_true hp.done,λk hk hun=>hp.rest k hk (hmono hun),x,h1,?_,λk ok hk hun d hd=>h3 k ok hk (hmono hun) d hd⟩;rw[<- h2];congr 1
 cases hd:oj.dst with
 | none=>rfl
 | some d=>
  have:=h3 j oj hj (zeD hjr) d hd;cases x with
  | tmp k=>
   have hne:k≠d:=λh=>this (by rw[h])
   simp only[Act.put,Act.eval];simp[hne,Ne.symm hne]
  | _=>rfl
theorem zk4(hF:FSim P N B w1 ι S a w)(hcl:zdQ ops M)(ho:ops[i]? = some o)(hi:i∈Region.ready .any ops M){Pr:Prs}(hP:∀ p∈Pr,PrOk bar P ops a M p){w':World}(hbel:zeZ bar (zck P ops i)=true->Below w.heap.size w w')(hbut:(!calls (zck P ops i)|| wrI (zck P ops i))=true->wanted S.env (irO P N ops o).g=true->zte B S.heap ι w w' (zv8 S.env (zck P ops i)))(hsk:wanted S.env (irO P N ops o).g=false->w'=w)(havo:∀ x y,wanted S.env (irO P N ops o).g=true->zqc (zaA P o)=some x->y∈zu3 ops i->zrm S.heap S.env (zu3 ops i) x=true):Carry ops Pr i w w':=by
 intro p hp hre o0 ho0;have hlt:=(qaR.1 ho0).1;have hpo:=hP p hp;have hiu:=zeD hi;rcases hpo.rest i (qaR.1 ho).1 hiu with h | h | h
 .rw[(hbel h).block _ hlt]; exact ho0
 .cases hw:wanted S.env (irO P N ops o).g with
  | false=>rw[hsk hw]; exact ho0
  | true=>
   obtain⟨x,hx⟩:=qa3.1 h;have hcal:(!calls (zck P ops i)|| wrI (zck P ops i))=true:=by
    generalize zck P ops i=i0 at hx;cases i0 with
    | call f xs=>
     cases xs with
     | nil=>cases hx
     | cons y ys=>
      simp only[zqc]at hx;cases hw:wrF f with
      | false=>rw[hw]at hx; cases hx
      | true=>simp[wrI,hw]
    | _=>first | rfl | cases hx
   obtain⟨ob,g1,g2⟩:=hbut hcal hw;rw[<- ho0];refine g1 _ hlt λhe=>?_
   obtain⟨β,s,sz,ob',k1,k2,k3,k4,k5⟩:=g2 _ he.symm;obtain⟨y,a1,a2,_⟩:=hpo.addr;have hmem:opX y∈zu3 ops i:=by
    unfold zu3;rw[List.mem_filterMap];have hlt:p.1<ops.size:=by
     cases ho:ops[p.1]? with
     | none=>simp[ldX,ho]at a1
     | some o=>exact(qaR.1 ho).1
    refine⟨p.1,qbq.2 hlt,?_⟩;rw[hre,zmw hcl hpo.done hiu,a1];rfl
   rw[zc6 ho]at hx;have hv:=havo x _ hw hx hmem;unfold zrm at hv;unfold zv8 at k1;rw[zc6 ho,hx]at k1;simp only[qaa]at k1;cases hev:ev S.env x with
   | none=>rw[hev]at k1; cases k1
   | some v=>
    rw[hev]at k1 hv;simp only[qaa]at k1;simp only[k1,qa2]at hv;have hv:=hv _ hmem;unfold zyH at hv;split at hv
    .rename_i γ off hγ;simp only[qae,qb1,qdt,ne_eq]at hv;obtain⟨cs,hcs⟩:=qa3.1 hv.1;have hr:=zac hF.env hγ;generalize hu0:a.eval y=u0 at hr;cases hr with
     | ptr _ _ b s2 sz2 hι=>
      rw[hu0]at a2;simp only[zBC,qad]at a2;rw[<- a2]at k2;rcases qbs γ B with hγB | hγB
      .have h1:=hF.sim.old γ _ _ _ _ (zcn hcs) trivial hγB hι;have h2:=hF.sim.own β _ _ _ _ k3 k4 k5 k2;omega
      exact hv.2 (hF.sim.inj β γ _ _ _ _ _ _ _ k3 (zcn hcs) k4 trivial k5 hγB k2 hι).symm
    cases hv
 rw[h]at hre; cases hre
theorem zyx{o:O}(h:zcj r B bar top e S o k=some (ex,S'))(hk:∀ S1,k S1=some (ex,S')->∀ v e',ex=.panic v e'->e'=e):∀ v e',ex=.panic v e'->e'=e:=by
 have hfin:∀ {x:Option (CR×zaj)},zlH e o S x k=some (ex,S')->∀ v e',ex=.panic v e'->e'=e:=by
  intro x hx;unfold zlH at hx;split at hx
  .exact hk _ hx
  .simp only[qad,qag]at hx;obtain⟨rfl,_⟩:=hx;intro v e' he; cases he; rfl
  cases hx
 unfold zcj at h;split at h
 .exact hk _ h
 split at h
 .split at h
  .exact hfin h
  cases h
 .split at h
  .exact hfin h
  cases h
 .split at h
  .simp only[qad,qag]at h;obtain⟨rfl,_⟩:=h;intro v e' he; cases he; rfl
  cases h
 .split at h
  .cases top with
   | true=>simp only[qdl]at h; exact hk _ h
   | false=>simp only[qdm]at h; cases h
  cases h
 cases hq:zag o.i with
 | true=>
  simp only[hq,qdl]at h;split at h
  .exact hk _ h
  .cases h
 | false=>
  simp only[hq,qdm]at h;split at h
  .exact hk _ h
  cases h
theorem zo1{top:Bool}:∀(l:List O) (S S':St) (ex:Ex),zaI r B bar top e l S=some (ex,S')->∀ v e',ex=.panic v e'->e'=e
 | [],S,S',ex,h=>by
  simp only[zaI,qad,qag]at h;obtain⟨rfl,_⟩:=h;intro v e' he; cases he
 | o :: l,S,S',ex,h=>zyx h λS1 h1=>zo1 l S1 S' ex h1
end
end Go.Mx
