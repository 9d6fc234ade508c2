/-
 One operation's step; regions in the order of the text. Conditions: none.
-/
import Derived.Test.YtbjogdohfhdaiaaCkJ9
set_option linter.unusedSimpArgs false
set_option linter.unusedVariables false
namespace Go.Mx
open Go Go.RowKit
section
variable {P:Program} {B N:Nat} {w1 w:World} {ι:Io} {S S':St} {a:Act} {r:Rec} {ops:Array Oper} {rd rb:Option Nat} {Q:Exit->Act->World->Prop} {ex:Ex} {bar e:Bool}
inductive Caller (o:Oper):I->Prop
 | call (c:Call) (f:Nat):o.op=.call c->c.callee=.value (.func f)->Caller o (.call f (c.args.toList.map opX))
 | callv (c:Call) (k:Nat):o.op=.call c->c.callee=.value (.tmp k)->Caller o (.callv (.s k) (c.args.toList.map opX))
 | panic (x:Operand):o.op=.panic x->Caller o (.panic (opX x))
 | defer (c:Call) (x:Operand):o.op=.defer c->c.callee=.value x->Caller o (.defer (opX x) (c.args.toList.map opX))
def calls:I->Bool
 | .call .. | .callv .. | .panic _ | .defer ..=>true
 | _=>false
theorem zkb(o:Oper)(h:calls (zas P o)=true):Caller o (zas P o):=by
 have key:∀ {b:Bool} {i:I},calls (bif b then i else .bad)=true->b=true/\calls i=true:=by
  intro b i h;cases b with
  | true=>exact⟨rfl,h⟩
  | false=>cases h
 obtain⟨dst,op,type,pos,after,guard⟩:=o;cases op with
 | call c=>
  simp only[zas,zgG]at h ⊢;split at h
  .rename_i f hc;obtain⟨hb,_⟩:=key h;simp only[hb,qcE];exact .call c f rfl hc
  .rename_i k hc;exact .callv c k rfl hc
  .split at h
   .split at h<;>cases h
   .cases h
   .cases h
   .split at h
    .obtain⟨_,h⟩:=key h;split at h
     .obtain⟨_,h⟩:=key h; cases h
     cases h
    cases h
   .split at h
    .obtain⟨_,h⟩:=key h; cases h
    cases h
   .split at h
    .obtain⟨_,h⟩:=key h;split at h
     .obtain⟨_,h⟩:=key h; cases h
     cases h
    cases h
   .cases h
   cases h
  .cases h
 | panic x=>exact .panic x rfl
 | defer c=>
  simp only[zas]at h ⊢;split at h
  .rename_i x hc; exact .defer c x rfl hc
  .cases h
 | alloc t=>
  simp only[zas]at h;split at h
  .obtain⟨_,h⟩:=key h; cases h
  .cases h
 | build t parts=>
  simp only[zas]at h;split at h
  .obtain⟨_,h⟩:=key h;split at h
   .obtain⟨_,h⟩:=key h; cases h
   .obtain⟨_,h⟩:=key h; cases h
   cases h
  .cases h
 | buildSlice t len parts=>
  simp only[zas]at h;split at h
  .obtain⟨_,h⟩:=key h;split at h
   .obtain⟨_,h⟩:=key h; cases h
   cases h
  .cases h
 | load t x=>simp only[zas]at h; obtain⟨_,h⟩:=key h; cases h
 | store t x y=>simp only[zas]at h; obtain⟨_,h⟩:=key h; cases h
 | fieldAddr s x f=>
  simp only[zas]at h;split at h
  .split at h
   .obtain⟨_,h⟩:=key h; cases h
   cases h
  .cases h
 | field s x f=>
  simp only[zas]at h;split at h
  .split at h
   .obtain⟨_,h⟩:=key h; cases h
   cases h
  .cases h
 | indexAddr t x i=>
  simp only[zas]at h;split at h
  .obtain⟨_,h⟩:=key h; cases h
  .obtain⟨_,h⟩:=key h; cases h
  .cases h
 | index t x i=>
  simp only[zas]at h;split at h
  .obtain⟨_,h⟩:=key h; cases h
  .split at h<;>cases h
  .cases h
 | makeFunc fn first cap=>cases fn<;>cases h
 | makeInterface t x=>simp only[zas]at h; split at h<;>cases h
 | binOp op t x y ty=>
  simp only[zas]at h;split at h
  .cases h
  all_goals first
   |(split at h<;>cases h; done)
   |(cases h; done)
   |(rename_i fs hs; cases hb:znj P t fs<;>rw[hb]at h<;>simp only[qcE,qcF]at h<;>first | (split at h<;>cases h; done)| (cases h; done))
 | convert s d x=>simp only[zas]at h; split at h<;>cases h
 | makeSlice t l c=>
  simp only[zas]at h;split at h
  .obtain⟨_,h⟩:=key h;split at h
   .obtain⟨_,h⟩:=key h; cases h
   cases h
  .cases h
 | slice t x lo hi mx=>
  simp only[zas]at h;split at h
  .obtain⟨_,h⟩:=key h; cases h
  .obtain⟨_,h⟩:=key h; cases h
  .cases h
 | _=>cases h
def nuI(bar:Bool)(i:I):Bool:=(zd0 bar i && calls i)|| zkh i
def ztC(bar:Bool)(h:zaj)(B:Nat):Nat:=bif bar then h.length else B
def ztE(bar:Bool)(w w1:World):World:=bif bar then w else w1
variable{h:zaj}
theorem Sim.zrs(hS:Sim P B w1 ι h w)(bar:Bool):Sim P (ztC bar h B) (ztE bar w w1) ι h w:=by
 cases bar with
 | true=>exact hS.zrz
 | false=>exact hS
variable{h':zaj}{w':World}
theorem Sim.back{ι':Io}(hS:Sim P B w1 ι h w)(hι:Io.le ι ι'){bar:Bool}(hS':Sim P (ztC bar h B) (ztE bar w w1) ι' h' w')(hk:zam (ztC bar h B) h h'):Sim P B w1 ι' h' w'/\(bar=true->Below w.heap.size w w'):=by
 cases bar with
 | true=>exact⟨hS.zt5 hι hS' (hk (qam _)).2,λ_=>hS'.below⟩
 | false=>exact⟨hS',by simp⟩
theorem zam.back{bar:Bool}(hk:zam (ztC bar h B) h h'):zam B h h':=by
 cases bar with
 | true=>exact λhB=>⟨(hk (qam _)).1,λβ hβ=>(hk (qam _)).2 β (qbq hβ hB)⟩
 | false=>exact hk
def zrg(w:World)(h h1:zaj)(ι1:Io):Prop:=(∀ β o,β<h.length->h1[β]? = some o->o.live->∃ o0,h[β]? = some o0/\o0.live)/\∀ β o b s sz,h1[β]? = some o->o.live->h.length<=β->ι1 β=some (b,s,sz)->w.heap.size<=b
def Kc(P:Program)(N B:Nat)(w1:World)(ι:Io)(a:Act)(w:World)(h:zaj)(dst:Option Nat)(ext nu wr:Bool)(t:Option Nat)(k:St->Option (Ex×St))(ex:Ex)(S':St):Value->List Deferred->World->Prop:=λu ds w'=>
 ∃ S1 ι1,k S1=some (ex,S')/\Io.le ι ι1/\FSim P N B w1 ι1 S1 (({ a with defers:=ds }:Act).put dst u) w'/\(ext=true->Below w.heap.size w w')/\(nu=true->zrg w h S1.heap ι1)/\(wr=true->zpz B h ι w w' t)
def Kp(P:Program)(N B:Nat)(w1:World)(ι:Io)(a:Act)(e:Bool)(ex:Ex)(S':St):Value->World->Prop:=λu w'=>
 ∃ v ι1,ex=.panic v e/\VRel ι1 v u/\Io.le ι ι1/\Sim P B w1 ι1 S'.heap w'/\DfsRel ι1 S'.dfs a.defers/\zbK ι1 N S'.env a
variable{k:St->Option (Ex×St)}
theorem ziy(hF:FSim P N B w1 ι S a w){o:O}{cr:CR}(hf:zlZ e o S (some (cr,h')) k=some (ex,S'))(hk:zam (ztC bar S.heap B) S.heap h'){ext nu wr:Bool}{t:Option Nat}(hext:ext=true->bar=true)(hnu:nu=true->bar=true){en:Ending}(hwr:wr=true->zpz B S.heap ι w w' t)(hp:zdP P (ztC bar S.heap B) (ztE bar w w1) ι cr h' en w'):
  (∃ v,en=.returned v/\Kc P N B w1 ι a w S.heap o.dst ext nu wr t k ex S' v a.defers w')\/(∃ v,en=.panicked [{ v:=v,recovered:=false }]/\Kp P N B w1 ι a e ex S' v w'):=by
 obtain⟨ι',hle,hS',hp⟩:=hp;obtain⟨hS2,hbel⟩:=hF.sim.back hle hS' hk;cases cr with
 | ret v=>
  obtain⟨u,rfl,hv⟩:=hp;refine .inl ⟨u,rfl,_,ι',hf,hle,(hF.heap hle hS2).put hv,λhe=>hbel (hext he),λhe=>?_,hwr⟩;have hb:=hnu he;subst hb;have hheap:(St.put { S with heap:=h' } o.dst v).heap=h':=by cases o.dst<;>rfl
  rw[hheap];exact⟨λβ o hβ h1 h2=>⟨o,by rw[<-(hk (qam _)).2 β hβ]; exact h1,h2⟩,λβ o b s sz h1 h2 h3 h4=>hS'.own β o b s sz h1 h2 h3 h4⟩
 | pan v=>
  obtain⟨u,rfl,hv⟩:=hp;simp only[zlZ,qad,qag]at hf;obtain⟨rfl,rfl⟩:=hf;exact .inr ⟨u,rfl,v,ι',rfl,hv,hle,hS2,hF.dfs.mono hle,hF.env.mono hle⟩
theorem zcX(hr:RecOk P r)(hF:FSim P N B w1 ι S a w)(hrd:zfh ι rd rb)(o:Oper)(h:zcq r B bar rd.isNone e S (irO P N ops o) k=some (ex,S')):
  (Region.wanted o (yielded ops a.tmps)=false/\k (S.put o.dst zaE)=some (ex,S'))\/
  (Region.wanted o (yielded ops a.tmps)=true/\zae (zas P o)=true/\∃ v u,k (S.put o.dst v)=some (ex,S')/\VRel ι v u/\∀ w',(∀ b,ldB a o=some b->w'.heap[b]? = w.heap[b]?)->(execOp a.eval o).run P w'=.ok (.value u) w')\/
  (Region.wanted o (yielded ops a.tmps)=true/\zae (zas P o)=false/\zgf rb P o a w (Kc P N B w1 ι a w S.heap o.dst (zd0 bar (zas P o)) (nuI bar (zas P o)) (!calls (zas P o)|| wrI (zas P o)) (zrv S.env (zas P o)) k ex S') (Kp P N B w1 ι a e ex S')):=by
 have hwe:=zfr (ops:=ops) hF o;unfold zcq at h;cases hw:wanted S.env (irO P N ops o).g with
 | false=>
  rw[hw]at h hwe;exact .inl ⟨hwe.symm,h⟩
 | true=>
  rw[hw]at h hwe;refine .inr ?_;have hi:(irO P N ops o).i=zas P o:=rfl;have hdst:(irO P N ops o).dst=o.dst:=rfl;simp only[hi,hdst]at h;cases hc:calls (zas P o)with
  | true=>
   refine .inr ⟨hwe.symm,?_,?_⟩
   .have hcl:=zkb o hc;generalize zas P o=i at hcl;cases hcl<;>rfl
   .have hcl:=zkb o hc;generalize hio:zas P o=i at hcl h hc;cases hcl with
    | call c f ho hcal=>
     simp only[]at h;split at h
     .rename_i vs hvs;cases hcall:r.call (bif zmx bar f then S.heap.length else B) f vs S.heap with
      | none=>rw[hcall]at h; cases h
      | some res=>
       obtain⟨cr,h'⟩:=res;rw[hcall]at h;obtain⟨hok,hkeep⟩:=hr.call _ _ _ _ _ _ hcall;obtain⟨hbody,hcalls⟩:=hok.1 (ztE (zmx bar f) w w1) ι w (c.args.map a.eval) (hF.sim.zrs (zmx bar f)) (zeI hF.env hvs);unfold zgf;rw[Oper.semAt_eq rb a.eval o (λc'=>by rw[ho]; simp),zkk ho hcal (xs:=#[]) (ys:=#[]) rfl hbody w];simp only[Array.append_empty,Array.empty_append];cases hwf:wrF f with
       | false=>exact CallsIn.mono hcalls λen w' hp=>ziy hF h hkeep (λhe=>by simpa [zd0]using he) (λhe=>by simpa [nuI,zkh,zd0,calls]using he) (λhe=>by simp[calls,wrI,hwf]at he) hp
       | true=>
        have hcalls:=hok.2 hwf (ztE (zmx bar f) w w1) ι w (c.args.map a.eval) (hF.sim.zrs (zmx bar f)) (zeI hF.env hvs);refine CallsIn.mono hcalls λen w' hp=>ziy hF h hkeep (λhe=>by simpa [zd0]using he) (λhe=>by simpa [nuI,zkh,zd0,calls]using he) (λhe=>?_) hp.1
        obtain⟨ob,k1,k2⟩:=hp.2;refine⟨ob,k1,λb hb=>?_⟩;obtain⟨β,s,sz,o1,m1,m2,m3,m4,m5⟩:=k2 b hb;refine⟨β,s,sz,o1,?_,m2,m3,m4,?_⟩
        .rw[<- m1];cases hxs:c.args.toList.map opX with
         | nil=>
          rw[hxs]at hvs;cases hvs;rfl
         | cons x xs=>
          rw[hxs]at hvs;simp only[evs]at hvs;simp only[zrv,zlF,hwf,qcE,qab];split at hvs
          .rename_i v vs' hv _;cases hvs;rw[hv];rfl
          cases hvs
        have hb:=hF.sim.base;cases hbb:zmx bar f<;>rw[hbb]at m5
        .exact m5
        exact qaE hb m5
     .cases h
    | callv c kk ho hcal=>
     simp only[]at h;split at h
     .rename_i v vs hv hvs;have hx:VRel ι v (a.eval (.tmp kk)):=zac (x:=.tmp kk) hF.env hv;have hargs:=zeI hF.env hvs;unfold zmQ at h;split at h
      .rename_i f first cap
       cases hcall:r.call (bif bar then S.heap.length else B) f (first ++ vs ++ cap) S.heap with
       | none=>rw[hcall]at h; cases h
       | some res=>
        obtain⟨cr,h'⟩:=res;rw[hcall]at h;obtain⟨hok,hkeep⟩:=hr.call _ _ _ _ _ _ hcall;generalize hu0:a.eval (.tmp kk)=u0 at hx;cases hx with
        | clo _ _ _ xs ys g1 g2 g3 g4=>
         obtain⟨hbody,hcalls⟩:=hok.1 (ztE bar w w1) ι w (xs ++ c.args.map a.eval ++ ys) (hF.sim.zrs bar) (zeR.append (zeR.append (l:=first) (arr:=xs) ⟨g1,g3⟩ hargs) ⟨g2,g4⟩);unfold zgf;rw[Oper.semAt_eq rb a.eval o (λc'=>by rw[ho]; simp),zkk ho hcal hu0 hbody w];exact CallsIn.mono hcalls λen w' hp=>ziy hF h hkeep (λhe=>by simpa [zd0]using he) (λhe=>by simpa [nuI,zkh,zd0,calls]using he) (λhe=>by simp[calls,wrI]at he) hp
      .rename_i l;cases hcall:round r (bif bar then S.heap.length else B) l vs S.heap with
       | none=>rw[hcall]at h; cases h
       | some res=>
        obtain⟨cr,h'⟩:=res;rw[hcall]at h;have hkeep:=zgQ hr hcall;generalize hu0:a.eval (.tmp kk)=u0 at hx;cases hx with
        | yld _ b s sz hι=>
         obtain⟨f,tmps,assign,body,hy,hround⟩:=zly hr hcall (hF.sim.zrs bar) hι hargs;unfold zgf;have hrun:(execOp a.eval o).run P w=.ok (.round b f tmps assign body) w:=by
          simp[execOp,ho,resolve,hcal,hu0,Deferred.ofValue,invoke,hy]
         rw[Oper.semAt_eq rb a.eval o (λc'=>by rw[ho]; simp),hrun];exact RoundIn.mono hround λen w' hp=>ziy hF h hkeep (λhe=>by simpa [zd0]using he) (λhe=>by simpa [nuI,zkh,zd0,calls]using he) (λhe=>by simp[calls,wrI]at he) hp
      cases h
     .cases h
    | panic x ho=>
     simp only[]at h;split at h
     .rename_i t v hv;simp only[qad,qag]at h;obtain⟨rfl,rfl⟩:=h;have hx:=zac hF.env hv;generalize hu0:a.eval x=u0 at hx;cases hx with
      | ifc _ _ u hu=>
       unfold zgf;have hrun:(execOp a.eval o).run P w=.halt (.panic (.iface t u)) w:=by
        simp[execOp,ho,hu0,Instr.panic,goPanic]
       rw[Oper.semAt_eq rb a.eval o (λc'=>by rw[ho]; simp),hrun];exact⟨_,ι,rfl,.ifc t v u hu,Io.le.refl _,hF.sim,hF.dfs,hF.env⟩
     .cases h
    | defer c x ho hcal=>
     simp only[]at h;split at h
     .rename_i f first cap vs hv hvs
      cases htop:rd.isNone with
      | false=>simp only[htop,qcF]at h; cases h
      | true=>
       simp only[htop,qcE]at h;have hrb:=hrd.zre htop;subst hrb;have hx:=zac hF.env hv;have hargs:=zeI hF.env hvs;generalize hu0:a.eval x=u0 at hx;cases hx with
       | clo _ _ _ xs ys g1 g2 g3 g4=>
        unfold zgf;have hrun:(o.semAt none a.eval).run P w=.ok (.defer { target:=.fn (.func f) ys,args:=xs ++ c.args.map a.eval }) w:=by
         rw[Oper.semAt_none];simp[execOp,ho,resolve,hcal,hu0,Deferred.ofValue]
        rw[hrun];refine⟨_,ι,h,Io.le.refl _,FSim.put (S:=⟨S.env,.fn f (first ++ vs ++ cap):: S.dfs,S.heap⟩) (a:=⟨a.tmps,{ target:=.fn (.func f) ys,args:=xs ++ c.args.map a.eval }:: a.defers⟩) ⟨hF.sim,hF.env,.cons (.fn f _ _ ys (zeR.append (zeR.append (l:=first) (arr:=xs) ⟨g1,g3⟩ hargs) ⟨g2,g4⟩)) hF.dfs⟩ (.lit _),λ_=>Below.refl _ _,λhe=>(by cases he),λhe=>(by cases he)⟩
     .cases h
  | false=>
   have hh:(bif zae (zas P o)then(match q S.heap S.env (zas P o)with | some v=>k (S.put o.dst v)| none=>none)
     else(match eff B S.heap S.env (zas P o)with | some (v,h)=>k ({ S with heap:=h }.put o.dst v)| none=>none))=some (ex,S'):=by
    generalize zas P o=i at h hc;cases i<;>first | exact h | cases hc
   cases hq:zae (zas P o)with
   | true=>
    rw[hq]at hh;simp only[qcE]at hh;split at hh
    .rename_i v hv;obtain⟨u,h1,h2⟩:=znM hF.sim hF.env o hv;exact .inl ⟨hwe.symm,rfl,v,u,hh,h2,h1⟩
    .cases hh
   | false=>
    rw[hq]at hh;simp only[qcF]at hh;split at hh
    .rename_i v h' hv;obtain⟨u,w',ι',hrun,hle,hS',hvr,hbel,hbut⟩:=zpD hF.sim hF.env o hv;refine .inr ⟨hwe.symm,rfl,?_⟩;unfold zgf;have hnd:∀ c,o.op≠.defer c:=by
      intro c hop;have hd:(∃ x xs,zas P o=.defer x xs)\/zas P o=.bad:=by
       unfold zas;rw[hop];simp only[];split
       .exact .inl ⟨_,_,rfl⟩
       exact .inr rfl
      rcases hd with⟨x,xs,hd⟩| hd<;>rw[hd]at hv<;>simp[eff]at hv
     have hext:zd0 bar (zas P o)=true->zd0 false (zas P o)=true:=by
      intro he;generalize zas P o=i at he hc;cases i<;>first | exact he | cases hc
     have hnu:nuI bar (zas P o)=true->zrg w S.heap ({ S with heap:=h' }.put o.dst v).heap ι':=by
      intro he;have hheap:(St.put { S with heap:=h' } o.dst v).heap=h':=by cases o.dst<;>rfl
      rw[hheap];generalize zas P o=i at he hc hv;simp only[nuI,hc,qby,qbY]at he;cases i<;>first | (cases he; done)| skip
      simp only[eff]at hv;split at hv
      .split at hv
       .rename_i β _ l _ _ _ cs hcs;rw[qcy]at hv;split at hv
        .simp only[qad,qag]at hv;obtain⟨_,rfl⟩:=hv;refine⟨λγ o hγ h1 h2=>?_,λγ o b s sz h1 h2 h3 h4=>?_⟩
         .by_cases hg:β=γ
          .subst hg;exact⟨_,zb8 hcs,qcD⟩
          rw[qal hg]at h1;exact⟨o,h1,h2⟩
         have:=(qac.1 h1).1;simp at this;omega
        cases hv
       cases hv
      cases hv
     rw[Oper.semAt_eq rb a.eval o hnd];rcases hrun with hrun | ⟨hrun,rfl⟩
     .rw[hrun];exact⟨_,ι',hh,hle,(hF.heap hle hS').put hvr,λhe=>hbel (hext he),hnu,λ_=>hbut⟩
     rw[hrun];exact⟨_,ι',hh,hle,(hF.heap hle hS').put hvr,λhe=>hbel (hext he),hnu,λ_=>hbut⟩
    cases hh
theorem znq(hr:RecOk P r){o:O}{top:Bool}(h:zcq r B bar top e S o k=some (ex,S'))(hk:∀ S1,k S1=some (ex,S')->zam B S1.heap S'.heap):zam B S.heap S'.heap:=by
 have hput:∀(S0:St) (d:Option Nat) (v:V),(S0.put d v).heap=S0.heap:=by
  intro S0 d v; cases d<;>rfl
 have hfin:∀ {x:Option (CR×zaj)},zlZ e o S x k=some (ex,S')->(∀ cr h',x=some (cr,h')->zam B S.heap h')->zam B S.heap S'.heap:=by
  intro x hx hkk;unfold zlZ at hx;split at hx
  .rename_i v h';have:=hk _ hx;rw[hput]at this;exact(hkk _ _ rfl).trans this
  .rename_i v h';simp only[qad,qag]at hx;obtain⟨_,rfl⟩:=hx;exact hkk _ _ rfl
  cases hx
 unfold zcq at h;split at h
 .have:=hk _ h; rw[hput]at this; exact this
 split at h
 .split at h
  .rename_i f xs _ vs _;exact hfin h λcr h' he=>zam.back (bar:=zmx bar _) (hr.call _ _ _ _ _ _ he).2
  cases h
 .split at h
  .refine hfin h λcr h' he=>zam.back (bar:=bar) ?_
   unfold zmQ at he;split at he
   .exact(hr.call _ _ _ _ _ _ he).2
   .exact zgQ hr he
   cases he
  cases h
 .split at h
  .simp only[qad,qag]at h;obtain⟨_,rfl⟩:=h;exact zam.refl _ _
  cases h
 .split at h
  .cases top with
   | true=>
    simp only[qcE]at h;have:=hk _ h; rw[hput]at this; exact this
   | false=>simp only[qcF]at h; cases h
  cases h
 rename_i i _ _ _ _;cases hq:zae o.i with
 | true=>
  simp only[hq,qcE]at h;split at h
  .have:=hk _ h; rw[hput]at this; exact this
  .cases h
 | false=>
  simp only[hq,qcF]at h;split at h
  .rename_i v h' he;have:=hk _ h; rw[hput]at this; exact(zjT he).trans this
  cases h
theorem zem(hr:RecOk P r){top:Bool}:∀(l:List O) (S S':St) (ex:Ex),zaI r B bar top e l S=some (ex,S')->zam B S.heap S'.heap
 | [],S,S',ex,h=>by
  simp only[zaI,qad,qag]at h;obtain⟨_,rfl⟩:=h;exact zam.refl _ _
 | o :: l,S,S',ex,h=>znq hr h λS1 h1=>zem hr l S1 S' ex h1
variable{i:Nat}{o:Oper}{K':Act->World->Prop}
theorem zfc(ho:ops[i]? = some o){Kc':Value->List Deferred->World->Prop}{Kp':Value->World->Prop}(hw:Region.wanted o (yielded ops a.tmps)=true)(h:zgf rb P o a w Kc' Kp')(hk:∀ u ds w',Kc' u ds w'->K' (({ a with defers:=ds }:Act).put o.dst u) w')(hq:∀ v w',Kp' v w'->Q (.panic [{ v:=v,recovered:=false }]) a w'):wpOpIn (FW rb) 0 P ops Q i K' a w:=by
 unfold wpOpIn;simp only[ho,hw,if_true];exact h.wp hk hq
theorem zfQ(ho:ops[i]? = some o)(hw:Region.wanted o (yielded ops a.tmps)=false)(h:K' (a.put o.dst undef) w):wpOpIn (FW rb) 0 P ops Q i K' a w:=by
 unfold wpOpIn;simp only[ho,hw,qaL,if_false];exact⟨λ_ _=>trivial,h⟩
theorem zfj(h:zae (zas P o)=true):∀ c,o.op≠.defer c:=by
 intro c hop;unfold zas at h;rw[hop]at h;simp only[]at h;split at h<;>cases h
theorem zfZ(ho:ops[i]? = some o)(hw:Region.wanted o (yielded ops a.tmps)=true)(hnd:∀ c,o.op≠.defer c){u:Value}(hy:(execOp a.eval o).run P w=.ok (.value u) w)(h:K' (a.put o.dst u) w):wpOpIn (FW rb) 0 P ops Q i K' a w:=by
 unfold wpOpIn;simp only[ho,hw,if_true];refine⟨λ_ _=>trivial,?_⟩;rw[Oper.semAt_eq _ a.eval o hnd,hy];exact h
theorem zoz{u:Value}(h:Kp P N B w1 ι a e ex S' u w'):zfV P N B w1 ι ex S' (.panic [{ v:=u,recovered:=false }]) a w':=by
 obtain⟨v,ι1,rfl,h1,h2,h3,h4,h5⟩:=h;exact⟨ι1,h2,u,rfl,h1,h3,h4,λ_=>h5⟩
theorem zdz(hr:RecOk P r):∀(l:List Nat) (S:St) (ι:Io) (a:Act) (w:World),FSim P N B w1 ι S a w->zfh ι rd rb->zaI r B bar rd.isNone e (l.filterMap λi=>(ops[i]?).map (irO P N ops)) S=some (ex,S')->
  wpOpsIn (FW rb) 0 P ops (zfV P N B w1 ι ex S') l a w
 | [],S,ι,a,w,hF,_,h=>by
  simp only[List.filterMap_nil,zaI,qad,qag]at h;obtain⟨rfl,rfl⟩:=h;exact⟨ι,Io.le.refl _,rfl,hF⟩
 | i :: l,S,ι,a,w,hF,hrd,h=>by
  rw[wpOpsIn_cons];cases ho:ops[i]? with
  | none=>
   simp only[qbZ,ho,qcj]at h;unfold wpOpIn;simp only[ho];exact zdz hr l S ι a w hF hrd h
  | some o=>
   simp only[qbZ,ho,qaD,zaI]at h;have hmono:∀ {ι1:Io} (hle:Io.le ι ι1) (a':Act) (w':World),wpOpsIn (FW rb) 0 P ops (zfV P N B w1 ι1 ex S') l a' w'->wpOpsIn (FW rb) 0 P ops (zfV P N B w1 ι ex S') l a' w':=by
    intro ι1 hle a' w' hh;exact zbH (λen a w hp=>hp.mono hle) l a' w' hh
   rcases zcX (ops:=ops) hr hF hrd o h with⟨hw,hk⟩| ⟨hw,hq,v,u,hk,hv,hy⟩| ⟨hw,hq,hE⟩
   .exact zfQ ho hw (zdz hr l _ ι _ w (hF.put (.lit _)) hrd hk)
   .exact zfZ ho hw (zfj hq) (hy w λ_ _=>rfl) (zdz hr l _ ι _ w (hF.put hv) hrd hk)
   refine zfc ho hw hE (λu ds w' ⟨S1,ι1,hk,hle,hF1,_⟩=>hmono hle _ _ (zdz hr l S1 ι1 _ w' hF1 (hrd.mono hle) hk)) (λv w' hp=>zoz hp)
end
section
variable {P:Program} {B N:Nat} {w1 w:World} {ι:Io} {S S':St} {a:Act} {r:Rec} {ops:Array Oper} {rd rb:Option Nat} {Q:Exit->Act->World->Prop} {ex:Ex} {bar e:Bool} {Sx:World->Prop}
variable{i:Nat}{o:Oper}{v:Value}
theorem zfp(hi:ops[i]? = some o)(hnd:∀ c,o.op≠.defer c)(hy:YieldsIf P ops Sx o v a){K:Act->World->Prop}(hS:Sx w)(h:K (a.put o.dst v) w):wpOpIn (FW rb) 0 P ops Q i K a w:=by
 rcases hy with⟨hw,hv⟩| ⟨hw,rfl⟩
 .exact zfZ hi hw hnd (hv w hS) h
 exact zfQ hi hw h
variable{j:Nat}
theorem zkp{oi oj:Oper}(hj:ops[j]? = some oj)(hap:oi.apart ops oj=true)(hsi:∀ cs b,oi.op≠.select cs b)(hsj:∀ cs b,oj.op≠.select cs b)(hdj:∀ c,oj.op≠.defer c)(hQ:∀ c a w,Q (.panic c) (a.put oi.dst v) w->Q (.panic c) a w){K:Act->World->Prop}{a:Act}{w:World}(hy:YieldsIf P ops Sx oi v a)(h:wpOpIn (FW rb) 0 P ops Q j K (a.put oi.dst v) w):
  wpOpIn (FW rb) 0 P ops Q j (λa' w'=>YieldsIf P ops Sx oi v a'/\K (a'.put oi.dst v) w') a w:=by
 obtain⟨h1,h2,h3⟩:=Oper.apart_spec hap;have zdT:∀(a:Act),YieldsIf P ops Sx oi v a->∀ u,YieldsIf P ops Sx oi v (a.put oj.dst u):=λa hy u=>
  hy.of_same (execOp_put oi hsi a oj.dst u h3) (wanted_put oi a oj.dst u h3)
 have keepD:∀ d,YieldsIf P ops Sx oi v { a with defers:=d :: a.defers }:=λd=>hy.of_same rfl rfl
 unfold wpOpIn at *;simp only[hj]at *;rw[wanted_put oj a oi.dst v h1]at h;split
 .rename_i hw;simp only[hw,if_true]at h;refine⟨λ_ _=>trivial,?_⟩;have h:=h.2;rw[Oper.semAt_eq _ _ oj hdj,execOp_put oj hsj a oi.dst v h1]at h;rw[Oper.semAt_eq _ _ oj hdj];generalize (execOp a.eval oj).run P w=res at *;cases res with
  | ok x w'=>
   cases x<;>simp only[Oper.uponIn]at h ⊢
   case value u=>exact⟨zdT a hy u,by rw[<- Act.put_comm a v u h2]; exact h⟩
   case skip=>exact⟨zdT a hy _,by rw[<- Act.put_comm a v undef h2]; exact h⟩
   case defer d=>
    refine⟨zdT _ (keepD d) _,?_⟩;rw[<- Act.put_comm _ v undef h2,<- Act.put_defers];exact h
   case enter f args=>
    refine⟨h.1,CallsIn.mono h.2 λe w'' he=>?_⟩;cases e with
    | returned u=>exact⟨zdT a hy u,by rw[<- Act.put_comm a v u h2]; exact he⟩
    | panicked c=>exact hQ _ _ _ he
    | outgrown=>exact he
   case row row args=>exact⟨h.1,RowsIn.mono h.2 λu w'' he=>⟨zdT a hy u,by rw[<- Act.put_comm a v u h2]; exact he⟩⟩
   case round l f tmps assign body=>
    refine⟨h.1,RoundIn.mono h.2 λe w'' he=>?_⟩;cases e with
    | returned u=>exact⟨zdT a hy u,by rw[<- Act.put_comm a v u h2]; exact he⟩
    | panicked c=>exact hQ _ _ _ he
    | outgrown=>exact he
  | halt x w'=>
   cases x<;>simp only[Oper.uponIn]at h ⊢
   case panic u=>exact hQ _ _ _ h
 rename_i hw;simp only[hw]at h;exact⟨λ_ _=>trivial,zdT a hy _,by rw[<- Act.put_comm a v undef h2]; exact h.2⟩
abbrev Prs:=List (Nat×Nat)
def Carry(ops:Array Oper)(Pr:Prs)(i:Nat)(w w':World):Prop:=∀ p∈Pr,zel ops ops.size i p.1=false->∀ o,w.heap[p.2]? = some o->w'.heap[p.2]? = some o
def zcK(rb:Option Nat)(P:Program)(ops:Array Oper)(Q:Exit->Act->World->Prop)(Pr:Prs):Nat->Array Bool->Act->World->Prop
 | 0,listed,a,w=>Region.ready .any ops listed=[]/\Q .normal a w
 | fuel+1,listed,a,w=>
  (Region.ready .any ops listed=[]->Q .normal a w)/\
  ∀ i∈Region.ready .any ops listed,wpOpIn (FW rb) 0 P ops Q i (λa' w'=>Carry ops Pr i w w'/\zcK rb P ops Q Pr fuel (listed.setIfInBounds i true) a' w') a w
theorem zhy{Pr:Prs}:∀(fuel:Nat) (listed:Array Bool) (a:Act) (w:World),zcK rb P ops Q Pr fuel listed a w->wpAnyIn (FW rb) 0 P .any ops Q fuel listed a w
 | 0,_,_,_,h=>h
 | fuel+1,_,_,_,h=>⟨h.1,λi hi=>wpOpIn_mono (λa' w' h'=>zhy fuel _ a' w' h'.2) (h.2 i hi)⟩
theorem zh7{Pr Pr':Prs}(hs:∀ p∈Pr,p∈Pr'):∀(fuel:Nat) (listed:Array Bool) (a:Act) (w:World),zcK rb P ops Q Pr' fuel listed a w->zcK rb P ops Q Pr fuel listed a w
 | 0,_,_,_,h=>h
 | fuel+1,_,_,_,h=>⟨h.1,λi hi=>wpOpIn_mono (λa' w' h'=>⟨λp hp=>h'.1 p (hs p hp),zh7 hs fuel _ a' w' h'.2⟩) (h.2 i hi)⟩
def zdb(ops:Array Oper)(listed:Array Bool):Prop:=
 ∀ j oj,ops[j]? = some oj->listed.getD j false=true->∀ ed∈oj.after,Region.binds .any ed=true->listed.getD ed.on false=true
variable{listed:Array Bool}
theorem zby(h:zdb ops listed)(hi:i∈Region.ready .any ops listed):zdb ops (listed.setIfInBounds i true):=by
 obtain⟨_,oi,hoi,hall⟩:=mem_ready.1 hi;intro j oj hj hl ed hed hb;by_cases hij:i=j
 .subst hij;have:oj=oi:=qaa (hj.symm.trans hoi);subst this;exact getD_set_true (hall ed hed hb)
 rw[getD_set_ne false hij]at hl;exact getD_set_true (h j oj hj hl ed hed hb)
def zk1(ops:Array Oper)(i:Nat):List Nat->Prop
 | []=>True
 | k :: acc=>zoX ops i acc k=true/\zk1 ops i acc
theorem zhM(ops:Array Oper)(i:Nat):zk1 ops i (zpp ops i):=by
 unfold zpp
 suffices ∀(l:List Nat) (acc:List Nat),zk1 ops i acc->zk1 ops i (l.foldl (λacc k=>bif zoX ops i acc k then k :: acc else acc) acc)from this _ [] trivial
 intro l;induction l with
 | nil=>exact λacc h=>h
 | cons k l ih=>
  intro acc h;rw[qbL];refine ih _ ?_;cases hw:zoX ops i acc k with
  | false=>exact h
  | true=>exact⟨hw,h⟩
theorem ziM{i j:Nat}:∀ {acc:List Nat},zk1 ops i acc->j∈acc->∃ acc' oj,zk1 ops i acc'/\acc'.length<acc.length/\ops[j]? = some oj/\∃ ed∈oj.after,Region.binds .any ed=true/\(ed.on=i\/ed.on∈acc')
 | k :: acc,h,hj=>by
  rcases qbg.1 hj with rfl | hj
  .obtain⟨h1,h2⟩:=h;unfold zoX at h1;split at h1
   .rename_i ok hok;obtain⟨ed,hed,hb⟩:=Array.any_eq_true'.1 h1;simp only[qaf,qbh,qcI,qbQ]at hb;exact⟨acc,ok,h2,qbt _,hok,ed,hed,hb.1,hb.2⟩
   cases h1
  obtain⟨acc',oj,g1,g2,g3⟩:=ziM h.2 hj;exact⟨acc',oj,g1,Nat.lt_succ_of_lt g2,g3⟩
theorem zmL{n:Nat}(h:zel ops n j i=true):∃ oj,ops[j]? = some oj:=by
 obtain⟨_,oj,_,_,h1,_⟩:=ziM (zhM ops i) (qbQ.1 h);exact⟨oj,h1⟩
theorem zf8(h:zdb ops listed)(f j:Nat)(oj:Oper)(hj:ops[j]? = some oj)(hall:∀ ed∈oj.after,Region.binds .any ed=true->listed.getD ed.on false=true)(hr:zel ops f j i=true):listed.getD i false=true:=by
 have key:∀(n:Nat) (acc:List Nat) (j:Nat) (oj:Oper),acc.length<=n->zk1 ops i acc->j∈acc->ops[j]? = some oj->(∀ ed∈oj.after,Region.binds .any ed=true->listed.getD ed.on false=true)->listed.getD i false=true:=by
  intro n;induction n with
  | zero=>
   intro acc j oj hn _ hm;have:acc=[]:=qa5.1 (by omega);subst this;cases hm
  | succ n ih=>
   intro acc j oj hn hg hm hj hall;obtain⟨acc',oj',g1,g2,g3,ed,g4,g5,g6⟩:=ziM hg hm;have:oj'=oj:=qaa (g3.symm.trans hj);subst this;have h1:=hall ed g4 g5;rcases g6 with g6 | g6
   .rw[<- g6]; exact h1
   obtain⟨_,ok,_,_,k3,_⟩:=ziM g1 g6;exact ih acc' ed.on ok (by omega) g1 g6 k3 λe' he' hb'=>h ed.on ok k3 h1 e' he' hb'
 exact key _ _ j oj (qam _) (zhM ops i) (qbQ.1 hr) hj hall
theorem zdn(h:ze2 ops=true)(ho:ops[j]? = some o):∀ c,o.op≠.defer c:=by
 intro c hop;have:=qbV.1 h o (Array.mem_of_getElem? ho);rw[hop]at this;cases this
theorem zmA(hcl:zdb ops listed)(hj:j∈Region.ready .any ops listed)(hi:listed.getD i false=false):zel ops ops.size j i=false:=by
 obtain⟨_,oj,hoj,hall⟩:=mem_ready.1 hj;cases hr:zel ops ops.size j i with
 | false=>rfl
 | true=>
  have:=zf8 hcl ops.size j oj hoj hall hr;rw[hi]at this; cases this
theorem zdH(hr:i∈Region.ready .any ops listed):listed.getD i false=false:=by
 have h0:=(mem_ready.1 hr).1;rcases qbj i listed.size with h' | h'
 .simp[h']at h0 ⊢; exact h0
 simp[qbk h']
theorem zga{oi:Oper}(hi:ops[i]? = some oi)(hsel:∀(j:Nat) (o:Oper) cs b,ops[j]? = some o->o.op≠.select cs b)(hnd:ze2 ops=true)(hQ:∀ c a w,Q (.panic c) (a.put oi.dst v) w->Q (.panic c) a w){Pr Pr':Prs}(hsub:∀ p∈Pr,p∈Pr'){ob:Option Nat}(hob:∀ b,ob=some b->(i,b)∈Pr'):
  ∀(fuel:Nat) (listed:Array Bool) (a:Act) (w:World),zdb ops listed ->
   (∀ j oj,ops[j]? = some oj->j≠i->listed.getD j true=false->(∀ e∈oj.after,Region.binds .any e=true->e.on≠i)->oi.apart ops oj=true)->
   i∈Region.ready .any ops listed->YieldsIf P ops (λw'=>∀ b,ob=some b->w'.heap[b]? = w.heap[b]?) oi v a->(∀ b,ob=some b->∃ o,w.heap[b]? = some o)->
   zcK rb P ops Q Pr' fuel (listed.setIfInBounds i true) (a.put oi.dst v) w->zcK rb P ops Q Pr (fuel+1) listed a w:=by
 intro fuel;induction fuel with
 | zero=>
  intro listed a w _ _ hr hy _ H;refine⟨λh=>(by rw[h]at hr; cases hr),λj hj=>?_⟩;by_cases hji:j=i
  .subst hji; exact zfp hi (zdn hnd hi) hy (λ_ _=>rfl) ⟨λ_ _ _ _ ho=>ho,H⟩
  .have:=ready_mono hj hji;rw[H.1]at this;cases this
 | succ fuel ih=>
  intro listed a w hcl hfree hr hy hex H;refine⟨λh=>(by rw[h]at hr; cases hr),λj hj=>?_⟩;by_cases hji:j=i
  .subst hji; exact zfp hi (zdn hnd hi) hy (λ_ _=>rfl) ⟨λ_ _ _ _ ho=>ho,zh7 hsub _ _ _ _ H⟩
  have h1:=H.2 j (ready_mono hj hji);obtain⟨hjun,oj,hoj,hall⟩:=mem_ready.1 hj;have hiun:=zdH hr;have hnot:∀ e∈oj.after,Region.binds .any e=true->e.on≠i:=λe he hb heq=>by
   have h1:=hall e he hb;rw[heq,hiun]at h1; cases h1
  have h2:=zkp hoj (hfree j oj hoj hji hjun hnot) (λcs b=>hsel i oi cs b hi) (λcs b=>hsel j oj cs b hoj) (zdn hnd hoj) hQ hy h1;have hfree':∀ k ok,ops[k]? = some ok->k≠i->(listed.setIfInBounds j true).getD k true=false ->
    (∀ e∈ok.after,Region.binds .any e=true->e.on≠i)->oi.apart ops ok=true:=λk ok hk hki hun hno=>by
   refine hfree k ok hk hki ?_ hno;by_cases hjk:j=k
   .subst hjk; exact hjun
   rw[getD_set_ne true hjk]at hun; exact hun
  refine wpOpIn_mono (λa' w' h3=>?_) h2;have hsame:∀ b,ob=some b->w'.heap[b]? = w.heap[b]?:=λb hb=>by
   obtain⟨o,ho⟩:=hex b hb;rw[ho]; exact h3.2.1 (i,b) (hob b hb) (zmA hcl hj hiun) o ho
  have hy':YieldsIf P ops (λw''=>∀ b,ob=some b->w''.heap[b]? = w'.heap[b]?) oi v a':=by
   rcases h3.1 with⟨g1,g2⟩| g
   .exact .inl ⟨g1,λw'' hw''=>g2 w'' (λb hb=>(hw'' b hb).trans (hsame b hb))⟩
   exact .inr g
  refine⟨λp hp=>h3.2.1 p (hsub p hp),ih (listed.setIfInBounds j true) a' w' (zby hcl hj) hfree' (ready_mono hr (Ne.symm hji)) hy' (λb hb=>by rw[hsame b hb]; exact hex b hb) ?_⟩;rw[Array.setIfInBounds_comm _ _ hji];exact h3.2.2
theorem zcz(h:ops[i]? = some o):zbU P ops i=zas P o:=by simp[zbU,h]
theorem zj4{i:I}(h:zae i=true):zd0 bar i=true:=by cases i<;>first | rfl | exact h | (simp[zae]at h)
theorem zcp{Q':Exit->Act->World->Prop}{Pr:Prs}(hQ:∀ en a w,Q en a w->Q' en a w):∀(fuel:Nat) (listed:Array Bool) (a:Act) (w:World),zcK rb P ops Q Pr fuel listed a w->zcK rb P ops Q' Pr fuel listed a w
 | 0,_,_,_,h=>⟨h.1,hQ _ _ _ h.2⟩
 | fuel+1,listed,a,w,h=>⟨λh0=>hQ _ _ _ (h.1 h0),λi hi=>by
  have hh:=wpOpIn_mono (λa' w' h'=>(⟨h'.1,zcp hQ fuel _ a' w' h'.2⟩:Carry ops Pr i w w'/\zcK rb P ops Q' Pr fuel (listed.setIfInBounds i true) a' w')) (h.2 i hi)
  exact zjw hQ hh⟩
variable{k:St->Option (Ex×St)}
theorem ziR(hr:RecOk P r)(hF:FSim P N B w1 ι S a w)(hrd:zfh ι rd rb)(ho:ops[i]? = some o)(h:zcq r B bar rd.isNone e S (irO P N ops o) k=some (ex,S')){K:Act->World->Prop}(hK:∀ S1 ι1 a1 wx,Io.le ι ι1->FSim P N B w1 ι1 S1 a1 wx->k S1=some (ex,S')->(zd0 bar (zbU P ops i)=true->Below w.heap.size w wx)->
   ((zd0 bar (zbU P ops i) && !alI (zbU P ops i)|| zkh (zbU P ops i))=true->zrg w S.heap S1.heap ι1)->((!calls (zbU P ops i)|| wrI (zbU P ops i))=true->wanted S.env (irO P N ops o).g=true->zpz B S.heap ι w wx (zrv S.env (zbU P ops i)))->(wanted S.env (irO P N ops o).g=false->wx=w)->
   (∃ u ds,a1=({ a with defers:=ds }:Act).put o.dst u)->K a1 wx):
  wpOpIn (FW rb) 0 P ops (zfV P N B w1 ι ex S') i K a w:=by
 have nul:∀ d (v:V),zrg w S.heap (S.put d v).heap ι:=λd v=>by
  have:(S.put d v).heap=S.heap:=by cases d<;>rfl
  rw[this];exact⟨λβ o _ h1 h2=>⟨o,h1,h2⟩,λβ o b s sz h1 _ h3 _=>by have:=(qac.1 h1).1; omega⟩
 have hwe:=zfr (ops:=ops) hF o;rcases zcX (ops:=ops) hr hF hrd o h with⟨hw,hk⟩| ⟨hw,hq,v,u,hk,hv,hy⟩| ⟨hw,hq,hE⟩
 .exact zfQ ho hw (hK _ ι _ w (Io.le.refl _) (hF.put (.lit _)) hk (λ_=>Below.refl _ _) (λ_=>nul _ _) (λ_ _=>.za6 (Below.refl _ _)) (λ_=>rfl) ⟨undef,a.defers,rfl⟩)
 .exact zfZ ho hw (zfj hq) (hy w λ_ _=>rfl) (hK _ ι _ w (Io.le.refl _) (hF.put hv) hk (λ_=>Below.refl _ _) (λ_=>nul _ _) (λ_ _=>.za6 (Below.refl _ _)) (λ_=>rfl) ⟨u,a.defers,rfl⟩)
 rw[<- hwe]at hw;refine zfc ho (hwe ▸ hw) hE (λu ds w' ⟨S1,ι1,hk,hle,hF1,hbel,hnu,hbut⟩=>hK S1 ι1 _ w' hle hF1 hk (λhe=>hbel (by rw[zcz ho]at he; exact he)) (λhe=>hnu ?_) (λhe _=>?_) (λhe=>by rw[hw]at he; cases he) ⟨u,ds,rfl⟩) (λv w' hp=>zoz hp)
 .rw[zcz ho]at he;generalize zas P o=i at he hq;cases i<;>first | rfl | (cases he; done)| (cases hq; done)| (simpa [zd0,alI,nuI,zkh,calls,zae]using he)
 rw[zcz ho]at he ⊢;exact hbut he
theorem zmr(ho:ops[i]? = some o)(h:zlF (zas P o)=none\/zqd ops i=[]):zjV P N ops i=[irO P N ops o]:=by
 unfold zjV;simp only[ho];rcases h with h | h
 .rw[h]
 rw[h];cases zlF (zas P o)<;> rfl
theorem zqm(ho:ops[i]? = some o){x:X}(h:zlF (zas P o)=some x){y:X}{l:List X}(hl:zqd ops i=y :: l):zjV P N ops i=[{ dst:=none,i:=.avo (y :: l) x,g:=(irO P N ops o).g },irO P N ops o]:=by
 unfold zjV;simp only[ho];rw[h,hl]
variable{top:Bool}
theorem zpA{l:List X}{x:X}{g:Option (Nat×Bool)}(h:zcq r B bar top e S { dst:=none,i:=.avo l x,g:=g } k=some (ex,S')):k S=some (ex,S')/\(wanted S.env g=true->znB S.heap S.env l x=true):=by
 unfold zcq at h;cases hw:wanted S.env g with
 | false=>
  simp only[hw,St.put]at h;exact⟨h,λh=>by cases h⟩
 | true=>
  simp only[hw,St.put,zae,qcE,q]at h;cases hv:znB S.heap S.env l x with
  | false=>simp only[hv,qcF]at h; cases h
  | true=>
   simp only[hv,qcE]at h;exact⟨h,λ_=>rfl⟩
theorem zdj(ho:ops[i]? = some o){l:List Nat}(h:zaI r B bar top e ((i :: l).flatMap (zjV P N ops)) S=some (ex,S')):
  zcq r B bar top e S (irO P N ops o) (zaI r B bar top e (l.flatMap (zjV P N ops)))=some (ex,S')/\
  ∀ x y,wanted S.env (irO P N ops o).g=true->zlF (zas P o)=some x->y∈zqd ops i->znB S.heap S.env (zqd ops i) x=true:=by
 rw[List.flatMap_cons]at h;cases ht:zlF (zas P o)with
 | none=>
  rw[zmr ho (.inl ht),qbC,zaI]at h;exact⟨h,λx y _ hx=>by cases hx⟩
 | some x0=>
  cases hl:zqd ops i with
  | nil=>
   rw[zmr ho (.inr hl),qbC,zaI]at h;exact⟨h,λx y _ _ hy=>by cases hy⟩
  | cons y0 l0=>
   rw[zqm ho ht hl,qaY,qaY,qbm,zaI]at h;obtain⟨h1,h2⟩:=zpA h;rw[zaI]at h1;exact⟨h1,λx y hw hx _=>by cases hx; exact h2 hw⟩
structure PrOk (bar:Bool) (P:Program) (ops:Array Oper) (a:Act) (M:Array Bool) (p:Nat×Nat):Prop where
 done:M.getD p.1 false=true
 rest:∀ j,j<ops.size->M.getD j false=false->zd0 bar (zbU P ops j)=true\/zwq (zbU P ops j)=true\/zel ops ops.size j p.1=true
 addr:∃ x,ldX ops p.1=some x/\zuo (a.eval x)=some p.2/\∀ k ok,ops[k]? = some ok->M.getD k false=false->∀ d,ok.dst=some d->x≠.tmp d
variable{M:Array Bool}
theorem zks(hcl:zdb ops M)(hj:M.getD j false=true)(hi:M.getD i false=false):zel ops ops.size j i=false:=by
 cases hr:zel ops ops.size j i with
 | false=>rfl
 | true=>
  cases hoj:ops[j]? with
  | none=>
   obtain⟨oj,hoj'⟩:=zmL hr;rw[hoj]at hoj'; cases hoj'
  | some oj=>
   have:=zf8 hcl ops.size j oj hoj (λed hed hb=>hcl j oj hoj hj ed hed hb) hr;rw[hi]at this; cases this
theorem PrOk.step{p:Nat×Nat}(hp:PrOk bar P ops a M p){oj:Oper}(hj:ops[j]? = some oj)(hjr:j∈Region.ready .any ops M){u:Value}{ds:List Deferred}:
  PrOk bar P ops (({ a with defers:=ds }:Act).put oj.dst u) (M.setIfInBounds j true) p:=by
 have hmono:∀ {k},(M.setIfInBounds j true).getD k false=false->M.getD k false=false:=λ{k} h=>by
  cases hM:M.getD k false with
  | false=>rfl
  | true=>rw[getD_set_true hM]at h; cases h
 obtain⟨x,h1,h2,h3⟩:=hp.addr;refine⟨getD_set_true hp.done,λk hk hun=>hp.rest k hk (hmono hun),x,h1,?_,λk ok hk hun d hd=>h3 k ok hk (hmono hun) d hd⟩;rw[<- h2];congr 1
 cases hd:oj.dst with
 | none=>rfl
 | some d=>
  have:=h3 j oj hj (zdH hjr) d hd;cases x with
  | tmp k=>
   have hne:k≠d:=λh=>this (by rw[h])
   simp only[Act.put,Act.eval];simp[hne,Ne.symm hne]
  | _=>rfl
theorem zi3(hF:FSim P N B w1 ι S a w)(hcl:zdb ops M)(ho:ops[i]? = some o)(hi:i∈Region.ready .any ops M){Pr:Prs}(hP:∀ p∈Pr,PrOk bar P ops a M p){w':World}(hbel:zd0 bar (zbU P ops i)=true->Below w.heap.size w w')(hbut:(!calls (zbU P ops i)|| wrI (zbU P ops i))=true->wanted S.env (irO P N ops o).g=true->zpz B S.heap ι w w' (zrv S.env (zbU P ops i)))(hsk:wanted S.env (irO P N ops o).g=false->w'=w)(havo:∀ x y,wanted S.env (irO P N ops o).g=true->zlF (zas P o)=some x->y∈zqd ops i->znB S.heap S.env (zqd ops i) x=true):Carry ops Pr i w w':=by
 intro p hp hre o0 ho0;have hlt:=(qaF.1 ho0).1;have hpo:=hP p hp;have hiu:=zdH hi;rcases hpo.rest i (qaF.1 ho).1 hiu with h | h | h
 .rw[(hbel h).block _ hlt]; exact ho0
 .cases hw:wanted S.env (irO P N ops o).g with
  | false=>rw[hsk hw]; exact ho0
  | true=>
   obtain⟨x,hx⟩:=qaU.1 h;have hcal:(!calls (zbU P ops i)|| wrI (zbU P ops i))=true:=by
    generalize zbU P ops i=i0 at hx;cases i0 with
    | call f xs=>
     cases xs with
     | nil=>cases hx
     | cons y ys=>
      simp only[zlF]at hx;cases hw:wrF f with
      | false=>rw[hw]at hx; cases hx
      | true=>simp[wrI,hw]
    | _=>first | rfl | cases hx
   obtain⟨ob,g1,g2⟩:=hbut hcal hw;rw[<- ho0];refine g1 _ hlt λhe=>?_
   obtain⟨β,s,sz,ob',k1,k2,k3,k4,k5⟩:=g2 _ he.symm;obtain⟨y,a1,a2,_⟩:=hpo.addr;have hmem:opX y∈zqd ops i:=by
    unfold zqd;rw[List.mem_filterMap];have hlt:p.1<ops.size:=by
     cases ho:ops[p.1]? with
     | none=>simp[ldX,ho]at a1
     | some o=>exact(qaF.1 ho).1
    refine⟨p.1,List.mem_range.2 hlt,?_⟩;rw[hre,zks hcl hpo.done hiu,a1];rfl
   rw[zcz ho]at hx;have hv:=havo x _ hw hx hmem;unfold znB at hv;unfold zrv at k1;rw[zcz ho,hx]at k1;simp only[qab]at k1;cases hev:ev S.env x with
   | none=>rw[hev]at k1; cases k1
   | some v=>
    rw[hev]at k1 hv;simp only[qab]at k1;simp only[k1,qa1]at hv;have hv:=hv _ hmem;unfold zsz at hv;split at hv
    .rename_i γ off hγ;simp only[qaf,qbv,qcJ,ne_eq]at hv;obtain⟨cs,hcs⟩:=qaU.1 hv.1;have hr:=zac hF.env hγ;generalize hu0:a.eval y=u0 at hr;cases hr with
     | ptr _ _ b s2 sz2 hι=>
      rw[hu0]at a2;simp only[zuo,qad]at a2;rw[<- a2]at k2;rcases qbj γ B with hγB | hγB
      .have h1:=hF.sim.old γ _ _ _ _ (zb8 hcs) trivial hγB hι;have h2:=hF.sim.own β _ _ _ _ k3 k4 k5 k2;omega
      exact hv.2 (hF.sim.inj β γ _ _ _ _ _ _ _ k3 (zb8 hcs) k4 trivial k5 hγB k2 hι).symm
    cases hv
 rw[h]at hre; cases hre
theorem zti{o:O}(h:zcq r B bar top e S o k=some (ex,S'))(hk:∀ S1,k S1=some (ex,S')->∀ v e',ex=.panic v e'->e'=e):∀ v e',ex=.panic v e'->e'=e:=by
 have hfin:∀ {x:Option (CR×zaj)},zlZ e o S x k=some (ex,S')->∀ v e',ex=.panic v e'->e'=e:=by
  intro x hx;unfold zlZ at hx;split at hx
  .exact hk _ hx
  .simp only[qad,qag]at hx;obtain⟨rfl,_⟩:=hx;intro v e' he; cases he; rfl
  cases hx
 unfold zcq at h;split at h
 .exact hk _ h
 split at h
 .split at h
  .exact hfin h
  cases h
 .split at h
  .exact hfin h
  cases h
 .split at h
  .simp only[qad,qag]at h;obtain⟨rfl,_⟩:=h;intro v e' he; cases he; rfl
  cases h
 .split at h
  .cases top with
   | true=>simp only[qcE]at h; exact hk _ h
   | false=>simp only[qcF]at h; cases h
  cases h
 cases hq:zae o.i with
 | true=>
  simp only[hq,qcE]at h;split at h
  .exact hk _ h
  .cases h
 | false=>
  simp only[hq,qcF]at h;split at h
  .exact hk _ h
  cases h
theorem zmm{top:Bool}:∀(l:List O) (S S':St) (ex:Ex),zaI r B bar top e l S=some (ex,S')->∀ v e',ex=.panic v e'->e'=e
 | [],S,S',ex,h=>by
  simp only[zaI,qad,qag]at h;obtain⟨rfl,_⟩:=h;intro v e' he; cases he
 | o :: l,S,S',ex,h=>zti h λS1 h1=>zmm l S1 S' ex h1
end
end Go.Mx
