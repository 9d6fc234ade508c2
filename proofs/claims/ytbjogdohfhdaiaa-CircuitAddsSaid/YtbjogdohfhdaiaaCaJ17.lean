/-
 One operation's step; regions in the order of the text. Conditions: none.
-/
import Derived.Test.YtbjogdohfhdaiaaCaJ16
set_option linter.unusedSimpArgs false
set_option linter.unusedVariables false
namespace Go.Mx
open Go Go.RowKit
section
variable {P:Program} {B N:Nat} {w1 w:World} {ι:Io} {S S':St} {a:Act} {r:Rec} {ops:Array Oper} {rd rb:Option Nat} {Q:Exit->Act->World->Prop} {ex:Ex} {bar e:Bool}
inductive Caller (o:Oper):I->Prop
 | call (c:Call) (f:Nat):o.op=.call c->c.callee=.value (.func f)->Caller o (.call f (c.args.toList.map opX))
 | zc6 (c:Call) (k:Nat):o.op=.call c->c.callee=.value (.tmp k)->Caller o (.zc6 (.s k) (c.args.toList.map opX))
 | panic (x:Operand):o.op=.panic x->Caller o (.panic (opX x))
 | defer (c:Call) (x:Operand):o.op=.defer c->c.callee=.value x->Caller o (.defer (opX x) (c.args.toList.map opX))
def calls:I->Bool
 | .call .. | .zc6 .. | .panic _ | .defer ..=>true
 | _=>false
theorem zkk(o:Oper)(h:calls (zaq P o)=true):Caller o (zaq P o):=by
 have key:∀ {b:Bool} {i:I},calls (bif b then i else .bad)=true->b=true/\calls i=true:=by
  intro b i h;cases b with
  | true=>exact⟨rfl,h⟩
  | false=>cases h
 obtain⟨dst,op,type,pos,after,guard⟩:=o;cases op with
 | call c=>
  simp only[zaq,zgz]at h ⊢;split at h
  .rename_i f hc;obtain⟨hb,_⟩:=key h;simp only[hb,qcR];exact .call c f rfl hc
  .rename_i k hc;exact .zc6 c k rfl hc
  .split at h
   .split at h<;>cases h
   .cases h
   .cases h
   .split at h
    .obtain⟨_,h⟩:=key h;split at h
     .obtain⟨_,h⟩:=key h; cases h
     cases h
    cases h
   .split at h
    .obtain⟨_,h⟩:=key h; cases h
    cases h
   .split at h
    .obtain⟨_,h⟩:=key h;split at h
     .obtain⟨_,h⟩:=key h; cases h
     cases h
    cases h
   .cases h
   cases h
  .cases h
 | panic x=>exact .panic x rfl
 | defer c=>
  simp only[zaq]at h ⊢;split at h
  .rename_i x hc; exact .defer c x rfl hc
  .cases h
 | alloc t=>
  simp only[zaq]at h;split at h
  .obtain⟨_,h⟩:=key h; cases h
  .cases h
 | build t parts=>
  simp only[zaq]at h;split at h
  .obtain⟨_,h⟩:=key h;split at h
   .obtain⟨_,h⟩:=key h; cases h
   .obtain⟨_,h⟩:=key h; cases h
   cases h
  .cases h
 | buildSlice t len parts=>
  simp only[zaq]at h;split at h
  .obtain⟨_,h⟩:=key h;split at h
   .obtain⟨_,h⟩:=key h; cases h
   cases h
  .cases h
 | load t x=>simp only[zaq]at h; obtain⟨_,h⟩:=key h; cases h
 | store t x y=>simp only[zaq]at h; obtain⟨_,h⟩:=key h; cases h
 | fieldAddr s x f=>
  simp only[zaq]at h;split at h
  .split at h
   .obtain⟨_,h⟩:=key h; cases h
   cases h
  .cases h
 | field s x f=>
  simp only[zaq]at h;split at h
  .split at h
   .obtain⟨_,h⟩:=key h; cases h
   cases h
  .cases h
 | indexAddr t x i=>
  simp only[zaq]at h;split at h
  .obtain⟨_,h⟩:=key h; cases h
  .obtain⟨_,h⟩:=key h; cases h
  .cases h
 | index t x i=>
  simp only[zaq]at h;split at h
  .obtain⟨_,h⟩:=key h; cases h
  .split at h<;>cases h
  .cases h
 | makeFunc fn first cap=>cases fn<;>cases h
 | makeInterface t x=>simp only[zaq]at h; split at h<;>cases h
 | binOp op t x y ty=>
  simp only[zaq]at h;split at h
  .cases h
  all_goals first
   |(split at h<;>cases h; done)
   |(cases h; done)
   |(rename_i fs hs; cases hb:znt P t fs<;>rw[hb]at h<;>simp only[qcR,qcS]at h<;>first | (split at h<;>cases h; done)| (cases h; done))
 | convert s d x=>simp only[zaq]at h; split at h<;>cases h
 | makeSlice t l c=>
  simp only[zaq]at h;split at h
  .obtain⟨_,h⟩:=key h;split at h
   .obtain⟨_,h⟩:=key h; cases h
   cases h
  .cases h
 | slice t x lo hi mx=>
  simp only[zaq]at h;split at h
  .obtain⟨_,h⟩:=key h; cases h
  .obtain⟨_,h⟩:=key h; cases h
  .cases h
 | _=>cases h
def nuI(bar:Bool)(i:I):Bool:=(zdH bar i && calls i)|| zka i
def zuy(bar:Bool)(h:zaf)(B:Nat):Nat:=bif bar then h.length else B
def zuw(bar:Bool)(w w1:World):World:=bif bar then w else w1
variable{h:zaf}
theorem Sim.zrU(hS:Sim P B w1 ι h w)(bar:Bool):Sim P (zuy bar h B) (zuw bar w w1) ι h w:=by
 cases bar with
 | true=>exact hS.zsG
 | false=>exact hS
variable{h':zaf}{w':World}
theorem Sim.back{ι':Io}(hS:Sim P B w1 ι h w)(hι:Io.le ι ι'){bar:Bool}(hS':Sim P (zuy bar h B) (zuw bar w w1) ι' h' w')(hk:zaj (zuy bar h B) h h'):Sim P B w1 ι' h' w'/\(bar=true->Below w.heap.size w w'):=by
 cases bar with
 | true=>exact⟨hS.zwg hι hS' (hk (qan _)).2,λ_=>hS'.below⟩
 | false=>exact⟨hS',by simp⟩
theorem zaj.back{bar:Bool}(hk:zaj (zuy bar h B) h h'):zaj B h h':=by
 cases bar with
 | true=>exact λhB=>⟨(hk (qan _)).1,λβ hβ=>(hk (qan _)).2 β (qbl hβ hB)⟩
 | false=>exact hk
def zrx(w:World)(h h1:zaf)(ι1:Io):Prop:=(∀ β o,β<h.length->h1[β]? = some o->o.live->∃ o0,h[β]? = some o0/\o0.live)/\∀ β o b s sz,h1[β]? = some o->o.live->h.length<=β->ι1 β=some (b,s,sz)->w.heap.size<=b
def Kc(P:Program)(N B:Nat)(w1:World)(ι:Io)(a:Act)(w:World)(h:zaf)(dst:Option Nat)(ext nu wr:Bool)(t:Option Nat)(k:St->Option (Ex×St))(ex:Ex)(S':St):Value->List Deferred->World->Prop:=λu ds w'=>
 ∃ S1 ι1,k S1=some (ex,S')/\Io.le ι ι1/\FSim P N B w1 ι1 S1 (({ a with defers:=ds }:Act).put dst u) w'/\(ext=true->Below w.heap.size w w')/\(nu=true->zrx w h S1.heap ι1)/\(wr=true->zqr B h ι w w' t)
def Kp(P:Program)(N B:Nat)(w1:World)(ι:Io)(a:Act)(e:Bool)(ex:Ex)(S':St):Value->World->Prop:=λu w'=>
 ∃ v ι1,ex=.panic v e/\VRel ι1 v u/\Io.le ι ι1/\Sim P B w1 ι1 S'.heap w'/\DfsRel ι1 S'.dfs a.defers/\zbv ι1 N S'.env a
variable{k:St->Option (Ex×St)}
theorem zi5(hF:FSim P N B w1 ι S a w){o:O}{cr:CR}(hf:zjh e o S (some (cr,h')) k=some (ex,S'))(hk:zaj (zuy bar S.heap B) S.heap h'){ext nu wr:Bool}{t:Option Nat}(hext:ext=true->bar=true)(hnu:nu=true->bar=true){en:Ending}(hwr:wr=true->zqr B S.heap ι w w' t)(hp:zdw P (zuy bar S.heap B) (zuw bar w w1) ι cr h' en w'):
  (∃ v,en=.returned v/\Kc P N B w1 ι a w S.heap o.dst ext nu wr t k ex S' v a.defers w')\/(∃ v,en=.panicked [{ v:=v,recovered:=false }]/\Kp P N B w1 ι a e ex S' v w'):=by
 obtain⟨ι',hle,hS',hp⟩:=hp;obtain⟨hS2,hbel⟩:=hF.sim.back hle hS' hk;cases cr with
 | ret v=>
  obtain⟨u,rfl,hv⟩:=hp;refine .inl ⟨u,rfl,_,ι',hf,hle,(hF.heap hle hS2).put hv,λhe=>hbel (hext he),λhe=>?_,hwr⟩;have hb:=hnu he;subst hb;have hheap:(St.put { S with heap:=h' } o.dst v).heap=h':=by cases o.dst<;>rfl
  rw[hheap];exact⟨λβ o hβ h1 h2=>⟨o,by rw[<-(hk (qan _)).2 β hβ]; exact h1,h2⟩,λβ o b s sz h1 h2 h3 h4=>hS'.own β o b s sz h1 h2 h3 h4⟩
 | pan v=>
  obtain⟨u,rfl,hv⟩:=hp;simp only[zjh,qac,qag]at hf;obtain⟨rfl,rfl⟩:=hf;exact .inr ⟨u,rfl,v,ι',rfl,hv,hle,hS2,hF.dfs.mono hle,hF.env.mono hle⟩
theorem zcE(hr:RecOk P r)(hF:FSim P N B w1 ι S a w)(hrd:ze4 ι rd rb)(o:Oper)(h:zbO r B bar rd.isNone e S (irO P N ops o) k=some (ex,S')):
  (Region.wanted o (yielded ops a.tmps)=false/\k (S.put o.dst zav)=some (ex,S'))\/
  (Region.wanted o (yielded ops a.tmps)=true/\zae (zaq P o)=true/\∃ v u,k (S.put o.dst v)=some (ex,S')/\VRel ι v u/\∀ w',(∀ b,ldB a o=some b->w'.heap[b]? = w.heap[b]?)->(execOp a.eval o).run P w'=.ok (.value u) w')\/
  (Region.wanted o (yielded ops a.tmps)=true/\zae (zaq P o)=false/\zf5 rb P o a w (Kc P N B w1 ι a w S.heap o.dst (zdH bar (zaq P o)) (nuI bar (zaq P o)) (!calls (zaq P o)|| wrI (zaq P o)) (zrQ S.env (zaq P o)) k ex S') (Kp P N B w1 ι a e ex S')):=by
 have hwe:=zft (ops:=ops) hF o;unfold zbO at h;cases hw:wanted S.env (irO P N ops o).g with
 | false=>
  rw[hw]at h hwe;exact .inl ⟨hwe.symm,h⟩
 | true=>
  rw[hw]at h hwe;refine .inr ?_;have hi:(irO P N ops o).i=zaq P o:=rfl;have hdst:(irO P N ops o).dst=o.dst:=rfl;simp only[hi,hdst]at h;cases hc:calls (zaq P o)with
  | true=>
   refine .inr ⟨hwe.symm,?_,?_⟩
   .have hcl:=zkk o hc;generalize zaq P o=i at hcl;cases hcl<;>rfl
   .have hcl:=zkk o hc;generalize hio:zaq P o=i at hcl h hc;cases hcl with
    | call c f ho hcal=>
     simp only[]at h;split at h
     .rename_i vs hvs;cases hcall:r.call (bif zlx bar f then S.heap.length else B) f vs S.heap with
      | none=>rw[hcall]at h; cases h
      | some res=>
       obtain⟨cr,h'⟩:=res;rw[hcall]at h;obtain⟨hok,hkeep⟩:=hr.call _ _ _ _ _ _ hcall;obtain⟨hbody,hcalls⟩:=hok.1 (zuw (zlx bar f) w w1) ι w (c.args.map a.eval) (hF.sim.zrU (zlx bar f)) (zee hF.env hvs);unfold zf5;rw[Oper.semAt_eq rb a.eval o (λc'=>by rw[ho]; simp),zjt ho hcal (xs:=#[]) (ys:=#[]) rfl hbody w];simp only[Array.append_empty,Array.empty_append];cases hwf:wrF f with
       | false=>exact CallsIn.mono hcalls λen w' hp=>zi5 hF h hkeep (λhe=>by simpa [zdH]using he) (λhe=>by simpa [nuI,zka,zdH,calls]using he) (λhe=>by simp[calls,wrI,hwf]at he) hp
       | true=>
        have hcalls:=hok.2 hwf (zuw (zlx bar f) w w1) ι w (c.args.map a.eval) (hF.sim.zrU (zlx bar f)) (zee hF.env hvs);refine CallsIn.mono hcalls λen w' hp=>zi5 hF h hkeep (λhe=>by simpa [zdH]using he) (λhe=>by simpa [nuI,zka,zdH,calls]using he) (λhe=>?_) hp.1
        obtain⟨ob,k1,k2⟩:=hp.2;refine⟨ob,k1,λb hb=>?_⟩;obtain⟨β,s,sz,o1,m1,m2,m3,m4,m5⟩:=k2 b hb;refine⟨β,s,sz,o1,?_,m2,m3,m4,?_⟩
        .rw[<- m1];cases hxs:c.args.toList.map opX with
         | nil=>
          rw[hxs]at hvs;cases hvs;rfl
         | cons x xs=>
          rw[hxs]at hvs;simp only[evs]at hvs;simp only[zrQ,zmJ,hwf,qcR,qab];split at hvs
          .rename_i v vs' hv _;cases hvs;rw[hv];rfl
          cases hvs
        have hb:=hF.sim.base;cases hbb:zlx bar f<;>rw[hbb]at m5
        .exact m5
        exact qaD hb m5
     .cases h
    | zc6 c kk ho hcal=>
     simp only[]at h;split at h
     .rename_i v vs hv hvs;have hx:VRel ι v (a.eval (.tmp kk)):=zac (x:=.tmp kk) hF.env hv;have hargs:=zee hF.env hvs;unfold zhb at h;split at h
      .rename_i f first cap
       cases hcall:r.call (bif bar then S.heap.length else B) f (first ++ vs ++ cap) S.heap with
       | none=>rw[hcall]at h; cases h
       | some res=>
        obtain⟨cr,h'⟩:=res;rw[hcall]at h;obtain⟨hok,hkeep⟩:=hr.call _ _ _ _ _ _ hcall;generalize hu0:a.eval (.tmp kk)=u0 at hx;cases hx with
        | clo _ _ _ xs ys g1 g2 g3 g4=>
         obtain⟨hbody,hcalls⟩:=hok.1 (zuw bar w w1) ι w (xs ++ c.args.map a.eval ++ ys) (hF.sim.zrU bar) (zey.append (zey.append (l:=first) (arr:=xs) ⟨g1,g3⟩ hargs) ⟨g2,g4⟩);unfold zf5;rw[Oper.semAt_eq rb a.eval o (λc'=>by rw[ho]; simp),zjt ho hcal hu0 hbody w];exact CallsIn.mono hcalls λen w' hp=>zi5 hF h hkeep (λhe=>by simpa [zdH]using he) (λhe=>by simpa [nuI,zka,zdH,calls]using he) (λhe=>by simp[calls,wrI]at he) hp
      .rename_i l;cases hcall:round r (bif bar then S.heap.length else B) l vs S.heap with
       | none=>rw[hcall]at h; cases h
       | some res=>
        obtain⟨cr,h'⟩:=res;rw[hcall]at h;have hkeep:=zgD hr hcall;generalize hu0:a.eval (.tmp kk)=u0 at hx;cases hx with
        | yld _ b s sz hι=>
         obtain⟨f,tmps,assign,body,hy,hround⟩:=zlA hr hcall (hF.sim.zrU bar) hι hargs;unfold zf5;have hrun:(execOp a.eval o).run P w=.ok (.round b f tmps assign body) w:=by
          simp[execOp,ho,resolve,hcal,hu0,Deferred.ofValue,invoke,hy]
         rw[Oper.semAt_eq rb a.eval o (λc'=>by rw[ho]; simp),hrun];exact RoundIn.mono hround λen w' hp=>zi5 hF h hkeep (λhe=>by simpa [zdH]using he) (λhe=>by simpa [nuI,zka,zdH,calls]using he) (λhe=>by simp[calls,wrI]at he) hp
      cases h
     .cases h
    | panic x ho=>
     simp only[]at h;split at h
     .rename_i t v hv;simp only[qac,qag]at h;obtain⟨rfl,rfl⟩:=h;have hx:=zac hF.env hv;generalize hu0:a.eval x=u0 at hx;cases hx with
      | ifc _ _ u hu=>
       unfold zf5;have hrun:(execOp a.eval o).run P w=.halt (.panic (.iface t u)) w:=by
        simp[execOp,ho,hu0,Instr.panic,goPanic]
       rw[Oper.semAt_eq rb a.eval o (λc'=>by rw[ho]; simp),hrun];exact⟨_,ι,rfl,.ifc t v u hu,Io.le.refl _,hF.sim,hF.dfs,hF.env⟩
     .cases h
    | defer c x ho hcal=>
     simp only[]at h;split at h
     .rename_i f first cap vs hv hvs
      cases htop:rd.isNone with
      | false=>simp only[htop,qcS]at h; cases h
      | true=>
       simp only[htop,qcR]at h;have hrb:=hrd.zsi htop;subst hrb;have hx:=zac hF.env hv;have hargs:=zee hF.env hvs;generalize hu0:a.eval x=u0 at hx;cases hx with
       | clo _ _ _ xs ys g1 g2 g3 g4=>
        unfold zf5;have hrun:(o.semAt none a.eval).run P w=.ok (.defer { target:=.fn (.func f) ys,args:=xs ++ c.args.map a.eval }) w:=by
         rw[Oper.semAt_none];simp[execOp,ho,resolve,hcal,hu0,Deferred.ofValue]
        rw[hrun];refine⟨_,ι,h,Io.le.refl _,FSim.put (S:=⟨S.env,.fn f (first ++ vs ++ cap):: S.dfs,S.heap⟩) (a:=⟨a.tmps,{ target:=.fn (.func f) ys,args:=xs ++ c.args.map a.eval }:: a.defers⟩) ⟨hF.sim,hF.env,.cons (.fn f _ _ ys (zey.append (zey.append (l:=first) (arr:=xs) ⟨g1,g3⟩ hargs) ⟨g2,g4⟩)) hF.dfs⟩ (.lit _),λ_=>Below.refl _ _,λhe=>(by cases he),λhe=>(by cases he)⟩
     .cases h
  | false=>
   have hh:(bif zae (zaq P o)then(match q S.heap S.env (zaq P o)with | some v=>k (S.put o.dst v)| none=>none)
     else(match eff B S.heap S.env (zaq P o)with | some (v,h)=>k ({ S with heap:=h }.put o.dst v)| none=>none))=some (ex,S'):=by
    generalize zaq P o=i at h hc;cases i<;>first | exact h | cases hc
   cases hq:zae (zaq P o)with
   | true=>
    rw[hq]at hh;simp only[qcR]at hh;split at hh
    .rename_i v hv;obtain⟨u,h1,h2⟩:=zp9 hF.sim hF.env o hv;exact .inl ⟨hwe.symm,rfl,v,u,hh,h2,h1⟩
    .cases hh
   | false=>
    rw[hq]at hh;simp only[qcS]at hh;split at hh
    .rename_i v h' hv;obtain⟨u,w',ι',hrun,hle,hS',hvr,hbel,hbut⟩:=zon hF.sim hF.env o hv;refine .inr ⟨hwe.symm,rfl,?_⟩;unfold zf5;have hnd:∀ c,o.op≠.defer c:=by
      intro c hop;have hd:(∃ x xs,zaq P o=.defer x xs)\/zaq P o=.bad:=by
       unfold zaq;rw[hop];simp only[];split
       .exact .inl ⟨_,_,rfl⟩
       exact .inr rfl
      rcases hd with⟨x,xs,hd⟩| hd<;>rw[hd]at hv<;>simp[eff]at hv
     have hext:zdH bar (zaq P o)=true->zdH false (zaq P o)=true:=by
      intro he;generalize zaq P o=i at he hc;cases i<;>first | exact he | cases hc
     have hnu:nuI bar (zaq P o)=true->zrx w S.heap ({ S with heap:=h' }.put o.dst v).heap ι':=by
      intro he;have hheap:(St.put { S with heap:=h' } o.dst v).heap=h':=by cases o.dst<;>rfl
      rw[hheap];generalize zaq P o=i at he hc hv;simp only[nuI,hc,qb4,qbD]at he;cases i<;>first | (cases he; done)| skip
      simp only[eff]at hv;split at hv
      .split at hv
       .rename_i β _ l _ _ _ cs hcs;rw[qcH]at hv;split at hv
        .simp only[qac,qag]at hv;obtain⟨_,rfl⟩:=hv;refine⟨λγ o hγ h1 h2=>?_,λγ o b s sz h1 h2 h3 h4=>?_⟩
         .by_cases hg:β=γ
          .subst hg;exact⟨_,zbU hcs,qcQ⟩
          rw[qao hg]at h1;exact⟨o,h1,h2⟩
         have:=(qaa.1 h1).1;simp at this;omega
        cases hv
       cases hv
      cases hv
     rw[Oper.semAt_eq rb a.eval o hnd];rcases hrun with hrun | ⟨hrun,rfl⟩
     .rw[hrun];exact⟨_,ι',hh,hle,(hF.heap hle hS').put hvr,λhe=>hbel (hext he),hnu,λ_=>hbut⟩
     rw[hrun];exact⟨_,ι',hh,hle,(hF.heap hle hS').put hvr,λhe=>hbel (hext he),hnu,λ_=>hbut⟩
    cases hh
theorem znB(hr:RecOk P r){o:O}{top:Bool}(h:zbO r B bar top e S o k=some (ex,S'))(hk:∀ S1,k S1=some (ex,S')->zaj B S1.heap S'.heap):zaj B S.heap S'.heap:=by
 have hput:∀(S0:St) (d:Option Nat) (v:V),(S0.put d v).heap=S0.heap:=by
  intro S0 d v; cases d<;>rfl
 have hfin:∀ {x:Option (CR×zaf)},zjh e o S x k=some (ex,S')->(∀ cr h',x=some (cr,h')->zaj B S.heap h')->zaj B S.heap S'.heap:=by
  intro x hx hkk;unfold zjh at hx;split at hx
  .rename_i v h';have:=hk _ hx;rw[hput]at this;exact(hkk _ _ rfl).trans this
  .rename_i v h';simp only[qac,qag]at hx;obtain⟨_,rfl⟩:=hx;exact hkk _ _ rfl
  cases hx
 unfold zbO at h;split at h
 .have:=hk _ h; rw[hput]at this; exact this
 split at h
 .split at h
  .rename_i f xs _ vs _;exact hfin h λcr h' he=>zaj.back (bar:=zlx bar _) (hr.call _ _ _ _ _ _ he).2
  cases h
 .split at h
  .refine hfin h λcr h' he=>zaj.back (bar:=bar) ?_
   unfold zhb at he;split at he
   .exact(hr.call _ _ _ _ _ _ he).2
   .exact zgD hr he
   cases he
  cases h
 .split at h
  .simp only[qac,qag]at h;obtain⟨_,rfl⟩:=h;exact zaj.refl _ _
  cases h
 .split at h
  .cases top with
   | true=>
    simp only[qcR]at h;have:=hk _ h; rw[hput]at this; exact this
   | false=>simp only[qcS]at h; cases h
  cases h
 rename_i i _ _ _ _;cases hq:zae o.i with
 | true=>
  simp only[hq,qcR]at h;split at h
  .have:=hk _ h; rw[hput]at this; exact this
  .cases h
 | false=>
  simp only[hq,qcS]at h;split at h
  .rename_i v h' he;have:=hk _ h; rw[hput]at this; exact(zkw he).trans this
  cases h
theorem zdV(hr:RecOk P r){top:Bool}:∀(l:List O) (S S':St) (ex:Ex),zax r B bar top e l S=some (ex,S')->zaj B S.heap S'.heap
 | [],S,S',ex,h=>by
  simp only[zax,qac,qag]at h;obtain⟨_,rfl⟩:=h;exact zaj.refl _ _
 | o :: l,S,S',ex,h=>znB hr h λS1 h1=>zdV hr l S1 S' ex h1
variable{i:Nat}{o:Oper}{K':Act->World->Prop}
theorem zeP(ho:ops[i]? = some o){Kc':Value->List Deferred->World->Prop}{Kp':Value->World->Prop}(hw:Region.wanted o (yielded ops a.tmps)=true)(h:zf5 rb P o a w Kc' Kp')(hk:∀ u ds w',Kc' u ds w'->K' (({ a with defers:=ds }:Act).put o.dst u) w')(hq:∀ v w',Kp' v w'->Q (.panic [{ v:=v,recovered:=false }]) a w'):wpOpIn (FW rb) 0 P ops Q i K' a w:=by
 unfold wpOpIn;simp only[ho,hw,if_true];exact h.wp hk hq
theorem zeS(ho:ops[i]? = some o)(hw:Region.wanted o (yielded ops a.tmps)=false)(h:K' (a.put o.dst undef) w):wpOpIn (FW rb) 0 P ops Q i K' a w:=by
 unfold wpOpIn;simp only[ho,hw,qaK,if_false];exact⟨λ_ _=>trivial,h⟩
theorem zeV(h:zae (zaq P o)=true):∀ c,o.op≠.defer c:=by
 intro c hop;unfold zaq at h;rw[hop]at h;simp only[]at h;split at h<;>cases h
theorem zfE(ho:ops[i]? = some o)(hw:Region.wanted o (yielded ops a.tmps)=true)(hnd:∀ c,o.op≠.defer c){u:Value}(hy:(execOp a.eval o).run P w=.ok (.value u) w)(h:K' (a.put o.dst u) w):wpOpIn (FW rb) 0 P ops Q i K' a w:=by
 unfold wpOpIn;simp only[ho,hw,if_true];refine⟨λ_ _=>trivial,?_⟩;rw[Oper.semAt_eq _ a.eval o hnd,hy];exact h
theorem zpf{u:Value}(h:Kp P N B w1 ι a e ex S' u w'):zfw P N B w1 ι ex S' (.panic [{ v:=u,recovered:=false }]) a w':=by
 obtain⟨v,ι1,rfl,h1,h2,h3,h4,h5⟩:=h;exact⟨ι1,h2,u,rfl,h1,h3,h4,λ_=>h5⟩
theorem zdf(hr:RecOk P r):∀(l:List Nat) (S:St) (ι:Io) (a:Act) (w:World),FSim P N B w1 ι S a w->ze4 ι rd rb->zax r B bar rd.isNone e (l.filterMap λi=>(ops[i]?).map (irO P N ops)) S=some (ex,S')->
  wpOpsIn (FW rb) 0 P ops (zfw P N B w1 ι ex S') l a w
 | [],S,ι,a,w,hF,_,h=>by
  simp only[List.filterMap_nil,zax,qac,qag]at h;obtain⟨rfl,rfl⟩:=h;exact⟨ι,Io.le.refl _,rfl,hF⟩
 | i :: l,S,ι,a,w,hF,hrd,h=>by
  rw[wpOpsIn_cons];cases ho:ops[i]? with
  | none=>
   simp only[qcb,ho,qcw]at h;unfold wpOpIn;simp only[ho];exact zdf hr l S ι a w hF hrd h
  | some o=>
   simp only[qcb,ho,qaF,zax]at h;have hmono:∀ {ι1:Io} (hle:Io.le ι ι1) (a':Act) (w':World),wpOpsIn (FW rb) 0 P ops (zfw P N B w1 ι1 ex S') l a' w'->wpOpsIn (FW rb) 0 P ops (zfw P N B w1 ι ex S') l a' w':=by
    intro ι1 hle a' w' hh;exact zbq (λen a w hp=>hp.mono hle) l a' w' hh
   rcases zcE (ops:=ops) hr hF hrd o h with⟨hw,hk⟩| ⟨hw,hq,v,u,hk,hv,hy⟩| ⟨hw,hq,hE⟩
   .exact zeS ho hw (zdf hr l _ ι _ w (hF.put (.lit _)) hrd hk)
   .exact zfE ho hw (zeV hq) (hy w λ_ _=>rfl) (zdf hr l _ ι _ w (hF.put hv) hrd hk)
   refine zeP ho hw hE (λu ds w' ⟨S1,ι1,hk,hle,hF1,_⟩=>hmono hle _ _ (zdf hr l S1 ι1 _ w' hF1 (hrd.mono hle) hk)) (λv w' hp=>zpf hp)
end
section
variable {P:Program} {B N:Nat} {w1 w:World} {ι:Io} {S S':St} {a:Act} {r:Rec} {ops:Array Oper} {rd rb:Option Nat} {Q:Exit->Act->World->Prop} {ex:Ex} {bar e:Bool} {Sx:World->Prop}
variable{i:Nat}{o:Oper}{v:Value}
theorem zfm(hi:ops[i]? = some o)(hnd:∀ c,o.op≠.defer c)(hy:YieldsIf P ops Sx o v a){K:Act->World->Prop}(hS:Sx w)(h:K (a.put o.dst v) w):wpOpIn (FW rb) 0 P ops Q i K a w:=by
 rcases hy with⟨hw,hv⟩| ⟨hw,rfl⟩
 .exact zfE hi hw hnd (hv w hS) h
 exact zeS hi hw h
variable{j:Nat}
theorem zjo{oi oj:Oper}(hj:ops[j]? = some oj)(hap:oi.apart ops oj=true)(hsi:∀ cs b,oi.op≠.select cs b)(hsj:∀ cs b,oj.op≠.select cs b)(hdj:∀ c,oj.op≠.defer c)(hQ:∀ c a w,Q (.panic c) (a.put oi.dst v) w->Q (.panic c) a w){K:Act->World->Prop}{a:Act}{w:World}(hy:YieldsIf P ops Sx oi v a)(h:wpOpIn (FW rb) 0 P ops Q j K (a.put oi.dst v) w):
  wpOpIn (FW rb) 0 P ops Q j (λa' w'=>YieldsIf P ops Sx oi v a'/\K (a'.put oi.dst v) w') a w:=by
 obtain⟨h1,h2,h3⟩:=Oper.apart_spec hap;have zdn:∀(a:Act),YieldsIf P ops Sx oi v a->∀ u,YieldsIf P ops Sx oi v (a.put oj.dst u):=λa hy u=>
  hy.of_same (execOp_put oi hsi a oj.dst u h3) (wanted_put oi a oj.dst u h3)
 have keepD:∀ d,YieldsIf P ops Sx oi v { a with defers:=d :: a.defers }:=λd=>hy.of_same rfl rfl
 unfold wpOpIn at *;simp only[hj]at *;rw[wanted_put oj a oi.dst v h1]at h;split
 .rename_i hw;simp only[hw,if_true]at h;refine⟨λ_ _=>trivial,?_⟩;have h:=h.2;rw[Oper.semAt_eq _ _ oj hdj,execOp_put oj hsj a oi.dst v h1]at h;rw[Oper.semAt_eq _ _ oj hdj];generalize (execOp a.eval oj).run P w=res at *;cases res with
  | ok x w'=>
   cases x<;>simp only[Oper.uponIn]at h ⊢
   case value u=>exact⟨zdn a hy u,by rw[<- Act.put_comm a v u h2]; exact h⟩
   case skip=>exact⟨zdn a hy _,by rw[<- Act.put_comm a v undef h2]; exact h⟩
   case defer d=>
    refine⟨zdn _ (keepD d) _,?_⟩;rw[<- Act.put_comm _ v undef h2,<- Act.put_defers];exact h
   case enter f args=>
    refine⟨h.1,CallsIn.mono h.2 λe w'' he=>?_⟩;cases e with
    | returned u=>exact⟨zdn a hy u,by rw[<- Act.put_comm a v u h2]; exact he⟩
    | panicked c=>exact hQ _ _ _ he
    | outgrown=>exact he
   case row row args=>exact⟨h.1,RowsIn.mono h.2 λu w'' he=>⟨zdn a hy u,by rw[<- Act.put_comm a v u h2]; exact he⟩⟩
   case round l f tmps assign body=>
    refine⟨h.1,RoundIn.mono h.2 λe w'' he=>?_⟩;cases e with
    | returned u=>exact⟨zdn a hy u,by rw[<- Act.put_comm a v u h2]; exact he⟩
    | panicked c=>exact hQ _ _ _ he
    | outgrown=>exact he
  | halt x w'=>
   cases x<;>simp only[Oper.uponIn]at h ⊢
   case panic u=>exact hQ _ _ _ h
 rename_i hw;simp only[hw]at h;exact⟨λ_ _=>trivial,zdn a hy _,by rw[<- Act.put_comm a v undef h2]; exact h.2⟩
abbrev Prs:=List (Nat×Nat)
def Carry(ops:Array Oper)(Pr:Prs)(i:Nat)(w w':World):Prop:=∀ p∈Pr,zd8 ops ops.size i p.1=false->∀ o,w.heap[p.2]? = some o->w'.heap[p.2]? = some o
def zct(rb:Option Nat)(P:Program)(ops:Array Oper)(Q:Exit->Act->World->Prop)(Pr:Prs):Nat->Array Bool->Act->World->Prop
 | 0,listed,a,w=>Region.ready .any ops listed=[]/\Q .normal a w
 | fuel+1,listed,a,w=>
  (Region.ready .any ops listed=[]->Q .normal a w)/\
  ∀ i∈Region.ready .any ops listed,wpOpIn (FW rb) 0 P ops Q i (λa' w'=>Carry ops Pr i w w'/\zct rb P ops Q Pr fuel (listed.setIfInBounds i true) a' w') a w
theorem zhS{Pr:Prs}:∀(fuel:Nat) (listed:Array Bool) (a:Act) (w:World),zct rb P ops Q Pr fuel listed a w->wpAnyIn (FW rb) 0 P .any ops Q fuel listed a w
 | 0,_,_,_,h=>h
 | fuel+1,_,_,_,h=>⟨h.1,λi hi=>wpOpIn_mono (λa' w' h'=>zhS fuel _ a' w' h'.2) (h.2 i hi)⟩
theorem zhU{Pr Pr':Prs}(hs:∀ p∈Pr,p∈Pr'):∀(fuel:Nat) (listed:Array Bool) (a:Act) (w:World),zct rb P ops Q Pr' fuel listed a w->zct rb P ops Q Pr fuel listed a w
 | 0,_,_,_,h=>h
 | fuel+1,_,_,_,h=>⟨h.1,λi hi=>wpOpIn_mono (λa' w' h'=>⟨λp hp=>h'.1 p (hs p hp),zhU hs fuel _ a' w' h'.2⟩) (h.2 i hi)⟩
def zcH(ops:Array Oper)(listed:Array Bool):Prop:=
 ∀ j oj,ops[j]? = some oj->listed.getD j false=true->∀ ed∈oj.after,Region.binds .any ed=true->listed.getD ed.on false=true
variable{listed:Array Bool}
theorem zbi(h:zcH ops listed)(hi:i∈Region.ready .any ops listed):zcH ops (listed.setIfInBounds i true):=by
 obtain⟨_,oi,hoi,hall⟩:=mem_ready.1 hi;intro j oj hj hl ed hed hb;by_cases hij:i=j
 .subst hij;have:oj=oi:=qae (hj.symm.trans hoi);subst this;exact getD_set_true (hall ed hed hb)
 rw[getD_set_ne false hij]at hl;exact getD_set_true (h j oj hj hl ed hed hb)
def zls(ops:Array Oper)(i:Nat):List Nat->Prop
 | []=>True
 | k :: acc=>zqv ops i acc k=true/\zls ops i acc
theorem zhr(ops:Array Oper)(i:Nat):zls ops i (zpA ops i):=by
 unfold zpA
 suffices ∀(l:List Nat) (acc:List Nat),zls ops i acc->zls ops i (l.foldl (λacc k=>bif zqv ops i acc k then k :: acc else acc) acc)from this _ [] trivial
 intro l;induction l with
 | nil=>exact λacc h=>h
 | cons k l ih=>
  intro acc h;rw[qbF];refine ih _ ?_;cases hw:zqv ops i acc k with
  | false=>exact h
  | true=>exact⟨hw,h⟩
theorem zh7{i j:Nat}:∀ {acc:List Nat},zls ops i acc->j∈acc->∃ acc' oj,zls ops i acc'/\acc'.length<acc.length/\ops[j]? = some oj/\∃ ed∈oj.after,Region.binds .any ed=true/\(ed.on=i\/ed.on∈acc')
 | k :: acc,h,hj=>by
  rcases qa2.1 hj with rfl | hj
  .obtain⟨h1,h2⟩:=h;unfold zqv at h1;split at h1
   .rename_i ok hok;obtain⟨ed,hed,hb⟩:=Array.any_eq_true'.1 h1;simp only[qaf,qbn,qcV,qbY]at hb;exact⟨acc,ok,h2,qa1 _,hok,ed,hed,hb.1,hb.2⟩
   cases h1
  obtain⟨acc',oj,g1,g2,g3⟩:=zh7 h.2 hj;exact⟨acc',oj,g1,Nat.lt_succ_of_lt g2,g3⟩
theorem zno{n:Nat}(h:zd8 ops n j i=true):∃ oj,ops[j]? = some oj:=by
 obtain⟨_,oj,_,_,h1,_⟩:=zh7 (zhr ops i) (qbY.1 h);exact⟨oj,h1⟩
theorem zfT(h:zcH ops listed)(f j:Nat)(oj:Oper)(hj:ops[j]? = some oj)(hall:∀ ed∈oj.after,Region.binds .any ed=true->listed.getD ed.on false=true)(hr:zd8 ops f j i=true):listed.getD i false=true:=by
 have key:∀(n:Nat) (acc:List Nat) (j:Nat) (oj:Oper),acc.length<=n->zls ops i acc->j∈acc->ops[j]? = some oj->(∀ ed∈oj.after,Region.binds .any ed=true->listed.getD ed.on false=true)->listed.getD i false=true:=by
  intro n;induction n with
  | zero=>
   intro acc j oj hn _ hm;have:acc=[]:=qbf.1 (by omega);subst this;cases hm
  | succ n ih=>
   intro acc j oj hn hg hm hj hall;obtain⟨acc',oj',g1,g2,g3,ed,g4,g5,g6⟩:=zh7 hg hm;have:oj'=oj:=qae (g3.symm.trans hj);subst this;have h1:=hall ed g4 g5;rcases g6 with g6 | g6
   .rw[<- g6]; exact h1
   obtain⟨_,ok,_,_,k3,_⟩:=zh7 g1 g6;exact ih acc' ed.on ok (by omega) g1 g6 k3 λe' he' hb'=>h ed.on ok k3 h1 e' he' hb'
 exact key _ _ j oj (qan _) (zhr ops i) (qbY.1 hr) hj hall
theorem zc2(h:zeB ops=true)(ho:ops[j]? = some o):∀ c,o.op≠.defer c:=by
 intro c hop;have:=qb8.1 h o (Array.mem_of_getElem? ho);rw[hop]at this;cases this
theorem zna(hcl:zcH ops listed)(hj:j∈Region.ready .any ops listed)(hi:listed.getD i false=false):zd8 ops ops.size j i=false:=by
 obtain⟨_,oj,hoj,hall⟩:=mem_ready.1 hj;cases hr:zd8 ops ops.size j i with
 | false=>rfl
 | true=>
  have:=zfT hcl ops.size j oj hoj hall hr;rw[hi]at this; cases this
theorem zdp(hr:i∈Region.ready .any ops listed):listed.getD i false=false:=by
 have h0:=(mem_ready.1 hr).1;rcases qbe i listed.size with h' | h'
 .simp[h']at h0 ⊢; exact h0
 simp[qbt h']
theorem zfV{oi:Oper}(hi:ops[i]? = some oi)(hsel:∀(j:Nat) (o:Oper) cs b,ops[j]? = some o->o.op≠.select cs b)(hnd:zeB ops=true)(hQ:∀ c a w,Q (.panic c) (a.put oi.dst v) w->Q (.panic c) a w){Pr Pr':Prs}(hsub:∀ p∈Pr,p∈Pr'){ob:Option Nat}(hob:∀ b,ob=some b->(i,b)∈Pr'):
  ∀(fuel:Nat) (listed:Array Bool) (a:Act) (w:World),zcH ops listed ->
   (∀ j oj,ops[j]? = some oj->j≠i->listed.getD j true=false->(∀ e∈oj.after,Region.binds .any e=true->e.on≠i)->oi.apart ops oj=true)->
   i∈Region.ready .any ops listed->YieldsIf P ops (λw'=>∀ b,ob=some b->w'.heap[b]? = w.heap[b]?) oi v a->(∀ b,ob=some b->∃ o,w.heap[b]? = some o)->
   zct rb P ops Q Pr' fuel (listed.setIfInBounds i true) (a.put oi.dst v) w->zct rb P ops Q Pr (fuel+1) listed a w:=by
 intro fuel;induction fuel with
 | zero=>
  intro listed a w _ _ hr hy _ H;refine⟨λh=>(by rw[h]at hr; cases hr),λj hj=>?_⟩;by_cases hji:j=i
  .subst hji; exact zfm hi (zc2 hnd hi) hy (λ_ _=>rfl) ⟨λ_ _ _ _ ho=>ho,H⟩
  .have:=ready_mono hj hji;rw[H.1]at this;cases this
 | succ fuel ih=>
  intro listed a w hcl hfree hr hy hex H;refine⟨λh=>(by rw[h]at hr; cases hr),λj hj=>?_⟩;by_cases hji:j=i
  .subst hji; exact zfm hi (zc2 hnd hi) hy (λ_ _=>rfl) ⟨λ_ _ _ _ ho=>ho,zhU hsub _ _ _ _ H⟩
  have h1:=H.2 j (ready_mono hj hji);obtain⟨hjun,oj,hoj,hall⟩:=mem_ready.1 hj;have hiun:=zdp hr;have hnot:∀ e∈oj.after,Region.binds .any e=true->e.on≠i:=λe he hb heq=>by
   have h1:=hall e he hb;rw[heq,hiun]at h1; cases h1
  have h2:=zjo hoj (hfree j oj hoj hji hjun hnot) (λcs b=>hsel i oi cs b hi) (λcs b=>hsel j oj cs b hoj) (zc2 hnd hoj) hQ hy h1;have hfree':∀ k ok,ops[k]? = some ok->k≠i->(listed.setIfInBounds j true).getD k true=false ->
    (∀ e∈ok.after,Region.binds .any e=true->e.on≠i)->oi.apart ops ok=true:=λk ok hk hki hun hno=>by
   refine hfree k ok hk hki ?_ hno;by_cases hjk:j=k
   .subst hjk; exact hjun
   rw[getD_set_ne true hjk]at hun; exact hun
  refine wpOpIn_mono (λa' w' h3=>?_) h2;have hsame:∀ b,ob=some b->w'.heap[b]? = w.heap[b]?:=λb hb=>by
   obtain⟨o,ho⟩:=hex b hb;rw[ho]; exact h3.2.1 (i,b) (hob b hb) (zna hcl hj hiun) o ho
  have hy':YieldsIf P ops (λw''=>∀ b,ob=some b->w''.heap[b]? = w'.heap[b]?) oi v a':=by
   rcases h3.1 with⟨g1,g2⟩| g
   .exact .inl ⟨g1,λw'' hw''=>g2 w'' (λb hb=>(hw'' b hb).trans (hsame b hb))⟩
   exact .inr g
  refine⟨λp hp=>h3.2.1 p (hsub p hp),ih (listed.setIfInBounds j true) a' w' (zbi hcl hj) hfree' (ready_mono hr (Ne.symm hji)) hy' (λb hb=>by rw[hsame b hb]; exact hex b hb) ?_⟩;rw[Array.setIfInBounds_comm _ _ hji];exact h3.2.2
theorem zcg(h:ops[i]? = some o):zbC P ops i=zaq P o:=by simp[zbC,h]
theorem zjm{i:I}(h:zae i=true):zdH bar i=true:=by cases i<;>first | rfl | exact h | (simp[zae]at h)
theorem zb8{Q':Exit->Act->World->Prop}{Pr:Prs}(hQ:∀ en a w,Q en a w->Q' en a w):∀(fuel:Nat) (listed:Array Bool) (a:Act) (w:World),zct rb P ops Q Pr fuel listed a w->zct rb P ops Q' Pr fuel listed a w
 | 0,_,_,_,h=>⟨h.1,hQ _ _ _ h.2⟩
 | fuel+1,listed,a,w,h=>⟨λh0=>hQ _ _ _ (h.1 h0),λi hi=>by
  have hh:=wpOpIn_mono (λa' w' h'=>(⟨h'.1,zb8 hQ fuel _ a' w' h'.2⟩:Carry ops Pr i w w'/\zct rb P ops Q' Pr fuel (listed.setIfInBounds i true) a' w')) (h.2 i hi)
  exact zjE hQ hh⟩
variable{k:St->Option (Ex×St)}
theorem zih(hr:RecOk P r)(hF:FSim P N B w1 ι S a w)(hrd:ze4 ι rd rb)(ho:ops[i]? = some o)(h:zbO r B bar rd.isNone e S (irO P N ops o) k=some (ex,S')){K:Act->World->Prop}(hK:∀ S1 ι1 a1 wx,Io.le ι ι1->FSim P N B w1 ι1 S1 a1 wx->k S1=some (ex,S')->(zdH bar (zbC P ops i)=true->Below w.heap.size w wx)->
   ((zdH bar (zbC P ops i) && !alI (zbC P ops i)|| zka (zbC P ops i))=true->zrx w S.heap S1.heap ι1)->((!calls (zbC P ops i)|| wrI (zbC P ops i))=true->wanted S.env (irO P N ops o).g=true->zqr B S.heap ι w wx (zrQ S.env (zbC P ops i)))->(wanted S.env (irO P N ops o).g=false->wx=w)->
   (∃ u ds,a1=({ a with defers:=ds }:Act).put o.dst u)->K a1 wx):
  wpOpIn (FW rb) 0 P ops (zfw P N B w1 ι ex S') i K a w:=by
 have nul:∀ d (v:V),zrx w S.heap (S.put d v).heap ι:=λd v=>by
  have:(S.put d v).heap=S.heap:=by cases d<;>rfl
  rw[this];exact⟨λβ o _ h1 h2=>⟨o,h1,h2⟩,λβ o b s sz h1 _ h3 _=>by have:=(qaa.1 h1).1; omega⟩
 have hwe:=zft (ops:=ops) hF o;rcases zcE (ops:=ops) hr hF hrd o h with⟨hw,hk⟩| ⟨hw,hq,v,u,hk,hv,hy⟩| ⟨hw,hq,hE⟩
 .exact zeS ho hw (hK _ ι _ w (Io.le.refl _) (hF.put (.lit _)) hk (λ_=>Below.refl _ _) (λ_=>nul _ _) (λ_ _=>.zaU (Below.refl _ _)) (λ_=>rfl) ⟨undef,a.defers,rfl⟩)
 .exact zfE ho hw (zeV hq) (hy w λ_ _=>rfl) (hK _ ι _ w (Io.le.refl _) (hF.put hv) hk (λ_=>Below.refl _ _) (λ_=>nul _ _) (λ_ _=>.zaU (Below.refl _ _)) (λ_=>rfl) ⟨u,a.defers,rfl⟩)
 rw[<- hwe]at hw;refine zeP ho (hwe ▸ hw) hE (λu ds w' ⟨S1,ι1,hk,hle,hF1,hbel,hnu,hbut⟩=>hK S1 ι1 _ w' hle hF1 hk (λhe=>hbel (by rw[zcg ho]at he; exact he)) (λhe=>hnu ?_) (λhe _=>?_) (λhe=>by rw[hw]at he; cases he) ⟨u,ds,rfl⟩) (λv w' hp=>zpf hp)
 .rw[zcg ho]at he;generalize zaq P o=i at he hq;cases i<;>first | rfl | (cases he; done)| (cases hq; done)| (simpa [zdH,alI,nuI,zka,calls,zae]using he)
 rw[zcg ho]at he ⊢;exact hbut he
theorem zlJ(ho:ops[i]? = some o)(h:zmJ (zaq P o)=none\/zqZ ops i=[]):zj5 P N ops i=[irO P N ops o]:=by
 unfold zj5;simp only[ho];rcases h with h | h
 .rw[h]
 rw[h];cases zmJ (zaq P o)<;> rfl
theorem zrn(ho:ops[i]? = some o){x:X}(h:zmJ (zaq P o)=some x){y:X}{l:List X}(hl:zqZ ops i=y :: l):zj5 P N ops i=[{ dst:=none,i:=.avo (y :: l) x,g:=(irO P N ops o).g },irO P N ops o]:=by
 unfold zj5;simp only[ho];rw[h,hl]
variable{top:Bool}
theorem zoD{l:List X}{x:X}{g:Option (Nat×Bool)}(h:zbO r B bar top e S { dst:=none,i:=.avo l x,g:=g } k=some (ex,S')):k S=some (ex,S')/\(wanted S.env g=true->znR S.heap S.env l x=true):=by
 unfold zbO at h;cases hw:wanted S.env g with
 | false=>
  simp only[hw,St.put]at h;exact⟨h,λh=>by cases h⟩
 | true=>
  simp only[hw,St.put,zae,qcR,q]at h;cases hv:znR S.heap S.env l x with
  | false=>simp only[hv,qcS]at h; cases h
  | true=>
   simp only[hv,qcR]at h;exact⟨h,λ_=>rfl⟩
theorem zcZ(ho:ops[i]? = some o){l:List Nat}(h:zax r B bar top e ((i :: l).flatMap (zj5 P N ops)) S=some (ex,S')):
  zbO r B bar top e S (irO P N ops o) (zax r B bar top e (l.flatMap (zj5 P N ops)))=some (ex,S')/\
  ∀ x y,wanted S.env (irO P N ops o).g=true->zmJ (zaq P o)=some x->y∈zqZ ops i->znR S.heap S.env (zqZ ops i) x=true:=by
 rw[List.flatMap_cons]at h;cases ht:zmJ (zaq P o)with
 | none=>
  rw[zlJ ho (.inl ht),qbZ,zax]at h;exact⟨h,λx y _ hx=>by cases hx⟩
 | some x0=>
  cases hl:zqZ ops i with
  | nil=>
   rw[zlJ ho (.inr hl),qbZ,zax]at h;exact⟨h,λx y _ _ hy=>by cases hy⟩
  | cons y0 l0=>
   rw[zrn ho ht hl,qaH,qaH,qbJ,zax]at h;obtain⟨h1,h2⟩:=zoD h;rw[zax]at h1;exact⟨h1,λx y hw hx _=>by cases hx; exact h2 hw⟩
structure PrOk (bar:Bool) (P:Program) (ops:Array Oper) (a:Act) (M:Array Bool) (p:Nat×Nat):Prop where
 done:M.getD p.1 false=true
 rest:∀ j,j<ops.size->M.getD j false=false->zdH bar (zbC P ops j)=true\/zxJ (zbC P ops j)=true\/zd8 ops ops.size j p.1=true
 addr:∃ x,ldX ops p.1=some x/\zuL (a.eval x)=some p.2/\∀ k ok,ops[k]? = some ok->M.getD k false=false->∀ d,ok.dst=some d->x≠.tmp d
variable{M:Array Bool}
theorem zjF(hcl:zcH ops M)(hj:M.getD j false=true)(hi:M.getD i false=false):zd8 ops ops.size j i=false:=by
 cases hr:zd8 ops ops.size j i with
 | false=>rfl
 | true=>
  cases hoj:ops[j]? with
  | none=>
   obtain⟨oj,hoj'⟩:=zno hr;rw[hoj]at hoj'; cases hoj'
  | some oj=>
   have:=zfT hcl ops.size j oj hoj (λed hed hb=>hcl j oj hoj hj ed hed hb) hr;rw[hi]at this; cases this
theorem PrOk.step{p:Nat×Nat}(hp:PrOk bar P ops a M p){oj:Oper}(hj:ops[j]? = some oj)(hjr:j∈Region.ready .any ops M){u:Value}{ds:List Deferred}:
  PrOk bar P ops (({ a with defers:=ds }:Act).put oj.dst u) (M.setIfInBounds j true) p:=by
 have hmono:∀ {k},(M.setIfInBounds j true).getD k false=false->M.getD k false=false:=λ{k} h=>by
  cases hM:M.getD k false with
  | false=>rfl
  | true=>rw[getD_set_true hM]at h; cases h
 obtain⟨x,h1,h2,h3⟩:=hp.addr;refine⟨getD_set_true hp.done,λk hk hun=>hp.rest k hk (hmono hun),x,h1,?_,λk ok hk hun d hd=>h3 k ok hk (hmono hun) d hd⟩;rw[<- h2];congr 1
 cases hd:oj.dst with
 | none=>rfl
 | some d=>
  have:=h3 j oj hj (zdp hjr) d hd;cases x with
  | tmp k=>
   have hne:k≠d:=λh=>this (by rw[h])
   simp only[Act.put,Act.eval];simp[hne,Ne.symm hne]
  | _=>rfl
theorem ziU(hF:FSim P N B w1 ι S a w)(hcl:zcH ops M)(ho:ops[i]? = some o)(hi:i∈Region.ready .any ops M){Pr:Prs}(hP:∀ p∈Pr,PrOk bar P ops a M p){w':World}(hbel:zdH bar (zbC P ops i)=true->Below w.heap.size w w')(hbut:(!calls (zbC P ops i)|| wrI (zbC P ops i))=true->wanted S.env (irO P N ops o).g=true->zqr B S.heap ι w w' (zrQ S.env (zbC P ops i)))(hsk:wanted S.env (irO P N ops o).g=false->w'=w)(havo:∀ x y,wanted S.env (irO P N ops o).g=true->zmJ (zaq P o)=some x->y∈zqZ ops i->znR S.heap S.env (zqZ ops i) x=true):Carry ops Pr i w w':=by
 intro p hp hre o0 ho0;have hlt:=(qaJ.1 ho0).1;have hpo:=hP p hp;have hiu:=zdp hi;rcases hpo.rest i (qaJ.1 ho).1 hiu with h | h | h
 .rw[(hbel h).block _ hlt]; exact ho0
 .cases hw:wanted S.env (irO P N ops o).g with
  | false=>rw[hsk hw]; exact ho0
  | true=>
   obtain⟨x,hx⟩:=qaX.1 h;have hcal:(!calls (zbC P ops i)|| wrI (zbC P ops i))=true:=by
    generalize zbC P ops i=i0 at hx;cases i0 with
    | call f xs=>
     cases xs with
     | nil=>cases hx
     | cons y ys=>
      simp only[zmJ]at hx;cases hw:wrF f with
      | false=>rw[hw]at hx; cases hx
      | true=>simp[wrI,hw]
    | _=>first | rfl | cases hx
   obtain⟨ob,g1,g2⟩:=hbut hcal hw;rw[<- ho0];refine g1 _ hlt λhe=>?_
   obtain⟨β,s,sz,ob',k1,k2,k3,k4,k5⟩:=g2 _ he.symm;obtain⟨y,a1,a2,_⟩:=hpo.addr;have hmem:opX y∈zqZ ops i:=by
    unfold zqZ;rw[List.mem_filterMap];have hlt:p.1<ops.size:=by
     cases ho:ops[p.1]? with
     | none=>simp[ldX,ho]at a1
     | some o=>exact(qaJ.1 ho).1
    refine⟨p.1,List.mem_range.2 hlt,?_⟩;rw[hre,zjF hcl hpo.done hiu,a1];rfl
   rw[zcg ho]at hx;have hv:=havo x _ hw hx hmem;unfold znR at hv;unfold zrQ at k1;rw[zcg ho,hx]at k1;simp only[qab]at k1;cases hev:ev S.env x with
   | none=>rw[hev]at k1; cases k1
   | some v=>
    rw[hev]at k1 hv;simp only[qab]at k1;simp only[k1,qaY]at hv;have hv:=hv _ hmem;unfold ztq at hv;split at hv
    .rename_i γ off hγ;simp only[qaf,qbA,qcY,ne_eq]at hv;obtain⟨cs,hcs⟩:=qaX.1 hv.1;have hr:=zac hF.env hγ;generalize hu0:a.eval y=u0 at hr;cases hr with
     | ptr _ _ b s2 sz2 hι=>
      rw[hu0]at a2;simp only[zuL,qac]at a2;rw[<- a2]at k2;rcases qbe γ B with hγB | hγB
      .have h1:=hF.sim.old γ _ _ _ _ (zbU hcs) trivial hγB hι;have h2:=hF.sim.own β _ _ _ _ k3 k4 k5 k2;omega
      exact hv.2 (hF.sim.inj β γ _ _ _ _ _ _ _ k3 (zbU hcs) k4 trivial k5 hγB k2 hι).symm
    cases hv
 rw[h]at hre; cases hre
theorem ztJ{o:O}(h:zbO r B bar top e S o k=some (ex,S'))(hk:∀ S1,k S1=some (ex,S')->∀ v e',ex=.panic v e'->e'=e):∀ v e',ex=.panic v e'->e'=e:=by
 have hfin:∀ {x:Option (CR×zaf)},zjh e o S x k=some (ex,S')->∀ v e',ex=.panic v e'->e'=e:=by
  intro x hx;unfold zjh at hx;split at hx
  .exact hk _ hx
  .simp only[qac,qag]at hx;obtain⟨rfl,_⟩:=hx;intro v e' he; cases he; rfl
  cases hx
 unfold zbO at h;split at h
 .exact hk _ h
 split at h
 .split at h
  .exact hfin h
  cases h
 .split at h
  .exact hfin h
  cases h
 .split at h
  .simp only[qac,qag]at h;obtain⟨rfl,_⟩:=h;intro v e' he; cases he; rfl
  cases h
 .split at h
  .cases top with
   | true=>simp only[qcR]at h; exact hk _ h
   | false=>simp only[qcS]at h; cases h
  cases h
 cases hq:zae o.i with
 | true=>
  simp only[hq,qcR]at h;split at h
  .exact hk _ h
  .cases h
 | false=>
  simp only[hq,qcS]at h;split at h
  .exact hk _ h
  cases h
theorem zlG{top:Bool}:∀(l:List O) (S S':St) (ex:Ex),zax r B bar top e l S=some (ex,S')->∀ v e',ex=.panic v e'->e'=e
 | [],S,S',ex,h=>by
  simp only[zax,qac,qag]at h;obtain⟨rfl,_⟩:=h;intro v e' he; cases he
 | o :: l,S,S',ex,h=>ztJ h λS1 h1=>zlG l S1 S' ex h1
end
end Go.Mx
