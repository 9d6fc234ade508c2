/-
 The plain machine's values and memory, and the world's: what stands for what. Conditions: none.
-/
import Derived.Test.YtbjogdohfhdaiaaGreatErJ15
import Derived.RangeFuncLeaves
set_option linter.unusedSimpArgs false
set_option linter.unusedVariables false
namespace Go.Mx
open Go Go.RowKit
abbrev Io:=Nat->Option (Nat×Nat×Nat)
inductive VRel (ι:Io):V->Value->Prop
 | lit (v:Value):VRel ι (.lit v) v
 | ptr (β o b s sz:Nat):ι β=some (b,s,sz)->VRel ι (.ptr β o) (.pointer (some ⟨b,s+o,none⟩))
 | sl (β o n len:Nat) (cap:Option Nat) (b s sz cap':Nat):ι β=some (b,s,sz)->s+o+cap' * n<=sz->len<=cap'->cap'<2 ^ 63->0<n->(∀ c,cap=some c->c=cap')->(cap=none->sz<=s+o+cap' * n)->
   VRel ι (.sl β o n len cap) (.slice (some ⟨b,s+o,none⟩) len cap')
 | sl0 (β o n:Nat) (cap:Option Nat) (ad:Addr):0<n->(∀ c,cap=some c->c=0)->(cap=none->∃ b s sz,ι β=some (b,s,sz)/\sz<=s+o)->VRel ι (.sl β o n 0 cap) (.slice (some ad) 0 0)
 | clo (f:Nat) (first cap:List V) (xs ys:Array Value):xs.size=first.length->ys.size=cap.length->(∀(i:Nat) x v,first[i]? = some x->xs[i]? = some v->VRel ι x v)->
   (∀(i:Nat) x v,cap[i]? = some x->ys[i]? = some v->VRel ι x v)->VRel ι (.clo f first cap) (.func (.func f) xs ys)
 | yld (l b s sz:Nat):ι l=some (b,s,sz)->VRel ι (.yld l) (.func (.yield b) #[] #[])
 | ifc (t:TypeId) (v:V) (u:Value):VRel ι v u->VRel ι (.ifc t v) (.iface t u)
 | agg (vs:List V) (arr:Array Value):arr.size=vs.length->(∀(i:Nat) x v,vs[i]? = some x->arr[i]? = some v->VRel ι x v)->(∀(i:Nat) v,arr[i]? = some v->v.oneCell'=true)->VRel ι (.agg vs) (.agg arr)
 | tup (vs:List V) (arr:Array Value):arr.size=vs.length->(∀(i:Nat) x v,vs[i]? = some x->arr[i]? = some v->VRel ι x v)->VRel ι (.tup vs) (.tuple arr)
def Io.le(ι ι':Io):Prop:=∀ β x,ι β=some x->ι' β=some x
theorem Io.le.refl(ι:Io):Io.le ι ι:=λ_ _ h=>h
theorem Io.le.trans{ι ι' ι'':Io}(h:Io.le ι ι')(h':Io.le ι' ι''):Io.le ι ι'':=λβ x hx=>h' β x (h β x hx)
theorem VRel.mono{ι ι':Io}(h:Io.le ι ι'){v:V}{u:Value}(hr:VRel ι v u):VRel ι' v u:=by
 induction hr with
 | lit v=>exact .lit v
 | ptr β o b s sz h1=>exact .ptr β o b s sz (h _ _ h1)
 | sl β o n len cap b s sz cap' h1 h2 h3 h4 h5 h6 h7=>grind [Io.le,VRel]
 | sl0 β o n cap ad h1 h2 h3=>exact .sl0 β o n cap ad h1 h2 λhc=>by obtain⟨b,s,sz,g1,g2⟩:=h3 hc; exact⟨b,s,sz,h _ _ g1,g2⟩
 | clo f first cap xs ys h1 h2 _ _ ih1 ih2=>grind [VRel]
 | yld l b s sz h1=>exact .yld l b s sz (h _ _ h1)
 | ifc t v u _ ih=>exact .ifc t v u ih
 | agg vs arr h1 _ h3 ih=>exact .agg vs arr h1 ih h3
 | tup vs arr h1 _ ih=>exact .tup vs arr h1 ih
def zfj(ι:Io)(vs:List V)(arr:Array Value):Prop:=
 arr.size=vs.length/\∀(i:Nat) x v,vs[i]? = some x->arr[i]? = some v->VRel ι x v/\v.oneCell'=true
def zgq(ι:Io)(vs:List V)(arr:Array Value):Prop:=
 arr.size=vs.length/\∀(i:Nat) x v,vs[i]? = some x->arr[i]? = some v->VRel ι x v
theorem zfj.mono{ι ι':Io}(h:Io.le ι ι'){vs:List V}{arr:Array Value}(hr:zfj ι vs arr):zfj ι' vs arr:=
 ⟨hr.1,λi x v h1 h2=>⟨(hr.2 i x v h1 h2).1.mono h,(hr.2 i x v h1 h2).2⟩⟩
theorem zgq.mono{ι ι':Io}(h:Io.le ι ι'){vs:List V}{arr:Array Value}(hr:zgq ι vs arr):zgq ι' vs arr:=
 ⟨hr.1,λi x v h1 h2=>(hr.2 i x v h1 h2).mono h⟩
theorem zfj.get{ι:Io}{vs:List V}{arr:Array Value}(hr:zfj ι vs arr){i:Nat}{x:V}(h:vs[i]? = some x):∃ u,arr[i]? = some u/\VRel ι x u/\u.oneCell'=true:=by
 have hi:i<arr.size:=by rw[hr.1]; exact(qab.1 h).1
 exact⟨arr[i],qbd hi,hr.2 i x _ h (qbd hi)⟩
def zhp(P:Program)(f:Nat):Bool:=match P.funcs[f]? with | some fn=>!(fn.name == "runtime.NumGoroutine") && fn.body.isSome | none=>false
def zg3:Jump->Code
 | .ret=>.ret
 | .exit id=>.exit id
def zlp(P:Program)(B:Nat)(w:World)(ι:Io)(β:Nat):Ob->Prop
 | .dead=>True
 | .blk cs=>∃ b s sz arr T fr,ι β=some (b,s,sz)/\w.heap[b]? = some (.cells arr T fr)/\arr.size=sz/\s+cs.length<=sz /\
   (∀(k:Nat) v,cs[k]? = some v->∃ u,arr[s+k]? = some u/\VRel ι v u/\u.oneCell'=true)/\(B<=β->fr=(0,0))
 | .loop st pend env ps asg body=>∃ b s sz R,ι β=some (b,s,sz)/\w.heap[b]? = some (.loop R)/\R.state=(bif st then .ready else bif pend.isSome then .done else .busy)/\R.pending=pend.map zg3 /\
   R.tmps.size=env.length/\(∀(k:Nat) v,env[k]? = some v->VRel ι v (R.tmps.getD k undef))/\R.params.toList=ps/\comp P env.length R.assign=asg/\comp P env.length R.body=body
 | .dfr=>∃ b s sz,ι β=some (b,s,sz)/\w.heap[b]? = some (.deferred (some []))
def Ob.live:Ob->Prop
 | .dead=>False
 | _=>True
theorem zlp.mono{P:Program}{B:Nat}{w w':World}{ι ι':Io}{β:Nat}{o:Ob}(hι:Io.le ι ι')(hw:∀ b s sz,ι β=some (b,s,sz)->w'.heap[b]? = w.heap[b]?)(h:zlp P B w ι β o):zlp P B w' ι' β o:=by
 cases o with
 | dead=>trivial
 | blk cs=>
  grind [VRel.mono,Io.le,zlp]
 | loop st pend env ps asg body=>
  grind [VRel.mono,Io.le,zlp]
 | dfr=>
  grind [Io.le,zlp]
theorem zlp.at_{P:Program}{B:Nat}{w:World}{ι:Io}{β:Nat}{o:Ob}(h:zlp P B w ι β o)(hl:o.live):∃ b s sz ob,ι β=some (b,s,sz)/\w.heap[b]? = some ob:=by
 cases o with
 | dead=>exact hl.elim
 | blk cs=>grind [zlp]
 | loop st pend env ps asg body=>grind [zlp]
 | dfr=>grind [zlp]
structure Sim (P:Program) (B:Nat) (w1:World) (ι:Io) (h:zam) (w:World):Prop where
 base:B<=h.length
 below:Below w1.heap.size w1 w
 obj:∀ β o,h[β]? = some o->zlp P B w ι β o
 own:∀ β o b s sz,h[β]? = some o->o.live->B<=β->ι β=some (b,s,sz)->w1.heap.size<=b
 old:∀ β o b s sz,h[β]? = some o->o.live->β<B->ι β=some (b,s,sz)->b<w1.heap.size
 inj:∀ β β' o o' b s sz s' sz',h[β]? = some o->h[β']? = some o'->o.live->o'.live->B<=β->B<=β'->ι β=some (b,s,sz)->ι β'=some (b,s',sz')->β=β'
 scope:∀ β x,ι β=some x->β<h.length
section
variable {P:Program} {B:Nat} {w1 w w':World} {ι:Io} {h:zam}
variable{b:Nat}
theorem zbr{o:Obj}(h:w.heap[b]? = some o):b<w.heap.size:=(qbg.1 h).1
variable{β s sz:Nat}
theorem Sim.lt(hS:Sim P B w1 ι h w){o:Ob}(hβ:h[β]? = some o)(hl:o.live)(hι:ι β=some (b,s,sz)):b<w.heap.size:=by
 grind [zlp.at_,Sim]
theorem Sim.grown(hS:Sim P B w1 ι h w)(hg:w.grownBy w' none):Sim P B w1 ι h w' where
 base:=hS.base
 below:=hS.below.grown hg hS.below.size (by simp)
 obj β o hβ:=by
  cases hd:o with
  | dead=>trivial
  | _=>
   rw[<- hd];have hl:o.live:=by rw[hd]; trivial
   exact(hS.obj β o hβ).mono (Io.le.refl _) λb s sz hb=>hg.block b (hS.lt hβ hl hb) (by simp)
 own:=hS.own
 old:=hS.old
 inj:=hS.inj
 scope:=hS.scope
theorem Sim.kill(hS:Sim P B w1 ι h w)(β:Nat):Sim P B w1 ι (h.set β .dead) w:=by
 have key:∀(γ:Nat) (o:Ob),(h.set β .dead)[γ]? = some o->o.live->h[γ]? = some o:=by
  grind [Go.Mx.Ob.live]
 refine⟨by simpa using hS.base,hS.below,λγ o hγ=>?_,λγ o b s sz hγ hl=>hS.own γ o b s sz (key γ o hγ hl) hl,λγ o b s sz hγ hl=>hS.old γ o b s sz (key γ o hγ hl) hl,
  λγ γ' o o' b s sz s' sz' h1 h2 h3 h4=>hS.inj γ γ' o o' b s sz s' sz' (key γ o h1 h3) (key γ' o' h2 h4) h3 h4,λγ x hx=>by simpa using hS.scope γ x hx⟩
 grind [Sim,Go.Mx.zlp]
def Io.ext(ι:Io)(β:Nat)(x:Nat×Nat×Nat):Io:=λγ=>if γ=β then some x else ι γ
theorem Io.zbf(ι:Io)(β:Nat)(x:Nat×Nat×Nat):ι.ext β x β=some x:=by simp[Io.ext]
theorem Sim.zdQ(hS:Sim P B w1 ι h w)(x:Nat×Nat×Nat):Io.le ι (ι.ext h.length x):=λβ y hy=>by
 grind [Io.ext,Sim]
theorem Sim.zwR(hS:Sim P B w1 ι h w){s sz:Nat}{o:Ob}(hg:w.grownBy w' (some b))(hb:w1.heap.size<=b)(hfree:∀ β o b' s sz,h[β]? = some o->o.live->B<=β->ι β=some (b',s,sz)->b'≠b)(hob:zlp P B w' (ι.ext h.length (b,s,sz)) h.length o):Sim P B w1 (ι.ext h.length (b,s,sz)) (h ++ [o]) w':=by
 have hle:=hS.zdQ (b,s,sz);have hold:∀ γ,γ<h.length->(ι.ext h.length (b,s,sz)) γ=ι γ:=λγ hγ=>by simp only[Io.ext]; rw[if_neg (by omega)]
 have key:∀ γ p,(h ++ [o])[γ]? = some p->(γ<h.length/\h[γ]? = some p)\/(γ=h.length/\p=o):=by
  grind
 refine⟨by have:=hS.base; simp; omega,hS.below.grown hg hS.below.size (λk hk=>by cases hk; exact hb),?_,?_,?_,?_,?_⟩
 .intro γ p hγ;rcases key γ p hγ with⟨hlt,hp⟩| ⟨rfl,rfl⟩
  .cases hd:p with
   | dead=>trivial
   | _=>
    rw[<- hd];have hl:p.live:=by rw[hd]; trivial
    refine(hS.obj γ p hp).mono hle λb' s' sz' hb'=>hg.block b' (hS.lt hp hl hb') ?_<;>grind [Sim]
  exact hob
 .grind [Io.zbf,Sim]
 .grind [Sim]
 .grind [Io.zbf,Sim]
 grind [Io.ext,Sim]
theorem Sim.change(hS:Sim P B w1 ι h w){o o':Ob}(hβ:h[β]? = some o)(hl:o.live)(hB:B<=β)(hι:ι β=some (b,s,sz))(hg:w.grownBy w' (some b))(hob:zlp P B w' ι β o'):Sim P B w1 ι (h.set β o') w':=by
 have hlt:β<h.length:=(qab.1 hβ).1;have key:∀ γ p,(h.set β o')[γ]? = some p->(γ=β/\p=o')\/(γ≠β/\h[γ]? = some p):=by
  grind
 have hsome:∀(γ:Nat) (p:Ob),(h.set β o')[γ]? = some p->p.live->∃ p':Ob,h[γ]? = some p'/\p'.live:=by
  grind
 have hb:=hS.own β o b s sz hβ hl hB hι;refine⟨by simpa using hS.base,hS.below.grown hg hS.below.size (λk hk=>by cases hk; exact hb),?_,?_,?_,?_,λγ x hx=>by simpa using hS.scope γ x hx⟩
 .intro γ p hγ;rcases key γ p hγ with⟨rfl,rfl⟩| ⟨hne,hp⟩
  .exact hob
  cases hd:p with
  | dead=>trivial
  | _=>
   rw[<- hd];have hpl:p.live:=by rw[hd]; trivial
   refine(hS.obj γ p hp).mono (Io.le.refl _) λb' s' sz' hb'=>hg.block b' (hS.lt hp hpl hb') ?_<;>grind [Sim]
 .grind [Sim]
 .grind [Sim]
 grind [Sim]
def zbI(w:World)(o:Obj):World:={ w with heap:=w.heap.push o }
theorem zc0(w:World)(o:Obj)(b:Option Nat):w.grownBy (zbI w o) b:=
 ⟨rfl,rfl,rfl,by simp[zbI],λk hk _=>by simp only[zbI,Array.getElem?_push]; rw[if_neg (by omega)]⟩
theorem zdt(w:World)(o:Obj):(zbI w o).heap[w.heap.size]? = some o:=by simp only[zbI,Array.getElem?_push_size]
theorem zbb(w:World)(o:Obj):Below w.heap.size w (zbI w o):=
 ⟨rfl,rfl,rfl,by simp[zbI],λk hk=>by simp only[zbI,Array.getElem?_push]; rw[if_neg (by omega)]⟩
theorem Sim.alloc(hS:Sim P B w1 ι h w)(ob:Obj){o:Ob}(hob:zlp P B (zbI w ob) (ι.ext h.length (w.heap.size,s,sz)) h.length o):
  Sim P B w1 (ι.ext h.length (w.heap.size,s,sz)) (h ++ [o]) (zbI w ob):=
 hS.zwR (zc0 w ob _) hS.below.size (λβ o' b' s' sz' h1 h2 _ h4=>by have:=hS.lt h1 h2 h4; omega) hob
theorem Sim.zjO(hS:Sim P B w1 ι h w){cs:List V}{arr:Array Value}{T:TypeId}(hL:zfj ι cs arr):
  Sim P B w1 (ι.ext h.length (w.heap.size,0,arr.size)) (h ++ [.blk cs]) (zbI w (.cells arr T (0,0))):=
 hS.alloc _ ⟨w.heap.size,0,arr.size,arr,T,(0,0),Io.zbf _ _ _,zdt _ _,rfl,by rw[hL.1]; omega,λk v hk=>by
  grind [zfj.get,VRel.mono,Sim.zdQ],λ_=>rfl⟩
def zhH(w:World)(b:Nat)(o:Obj):World:={ w with heap:=w.heap.setIfInBounds b o }
theorem zcs(w:World)(b:Nat)(o:Obj):w.grownBy (zhH w b o) (some b):=
 ⟨rfl,rfl,rfl,by simp[zhH],λk _ hne=>by simp only[zhH]; rw[qbK (by intro he; exact hne (by rw[he]))]⟩
theorem zee(o:Obj)(hb:b<w.heap.size):(zhH w b o).heap[b]? = some o:=by simp[zhH,hb]
theorem zdF{cs:List V}(h0:zax h β=some cs):h[β]? = some (.blk cs):=by
 grind [zax]
end
inductive DfRel (ι:Io):Df->Deferred->Prop
 | coll (d b s sz:Nat):ι d=some (b,s,sz)->DfRel ι (.coll d) { target:=.collected b,args:=#[] }
 | fn (f:Nat) (args:List V) (xs ys:Array Value):zgq ι args (xs ++ ys)->DfRel ι (.fn f args) { target:=.fn (.func f) ys,args:=xs }
inductive DfsRel (ι:Io):List Df->List Deferred->Prop
 | nil:DfsRel ι [] []
 | cons {d:Df} {e:Deferred} {ds:List Df} {es:List Deferred}:DfRel ι d e->DfsRel ι ds es->DfsRel ι (d :: ds) (e :: es)
theorem DfsRel.mono{ι ι':Io}(h:Io.le ι ι'){ds:List Df}{es:List Deferred}(hr:DfsRel ι ds es):DfsRel ι' ds es:=by
 induction hr with
 | nil=>exact .nil
 | cons h1 _ ih=>
  grind [zgq.mono,Io.le,DfsRel,Go.Mx.DfRel]
def zcq(ι:Io)(N:Nat)(env:List V)(a:Act):Prop:=a.tmps.size=N/\env.length=N/\∀(k:Nat) v,env[k]? = some v->VRel ι v (a.tmps.getD k undef)
theorem zcq.mono{ι ι':Io}(h:Io.le ι ι'){N:Nat}{env:List V}{a:Act}(hr:zcq ι N env a):zcq ι' N env a:=⟨hr.1,hr.2.1,λk v hk=>(hr.2.2 k v hk).mono h⟩
theorem zcq.put{ι:Io}{N:Nat}{env:List V}{a:Act}(hr:zcq ι N env a){d:Nat}{v:V}{u:Value}(hv:VRel ι v u):zcq ι N (env.set d v) (a.put (some d) u):=by
 refine⟨by simp[Act.put,hr.1],by simp[hr.2.1],λk x hk=>?_⟩;by_cases hkd:d=k
 .simp_all [qab,Act.put,zcq]
 simp_all [Act.put,zcq]
structure FSim (P:Program) (N B:Nat) (w1:World) (ι:Io) (S:St) (a:Act) (w:World):Prop where
 sim:Sim P B w1 ι S.heap w
 env:zcq ι N S.env a
 dfs:DfsRel ι S.dfs a.defers
section
variable {P:Program} {B N:Nat} {w1 w:World} {ι:Io} {h:zam} {env:List V} {a:Act}
theorem VRel.zc7{v u:Value}(hr:VRel ι (.lit v) u):u=v:=by cases hr; rfl
variable{v:V}
theorem zae(hE:zcq ι N env a){x:Operand}(hx:ev env (opX x)=some v):VRel ι v (a.eval x):=by
 cases x with
 | tmp k=>exact hE.2.2 k v hx
 | const c=>simp only[opX,ev,qae]at hx; subst hx; exact .lit _
 | global g=>simp only[opX,ev,qae]at hx; subst hx; exact .lit _
 | func f=>simp only[opX,ev,qae]at hx; subst hx; exact .clo f [] [] #[] #[] rfl rfl (by simp) (by simp)
variable{m:Int}
theorem zdq(hE:zcq ι N env a){x:Operand}(hx:evI env (opX x)=some m):∃ k,a.eval x=.int k m:=by
 unfold evI at hx;split at hx
 .rename_i k n h1;cases hx;exact⟨k,(zae hE h1).zc7⟩
 cases hx
theorem zfd(hE:zcq ι N env a){x:Operand}{m:Bool}(hx:evB env (opX x)=some m):a.eval x=.bool m:=by
 unfold evB at hx;split at hx
 .rename_i n h1;cases hx;exact(zae hE h1).zc7
 cases hx
theorem zcJ(hE:zcq ι N env a):∀(xs:List Operand) {vs:List V},evs env (xs.map opX)=some vs->vs.length=xs.length/\∀(i:Nat) x v,xs[i]? = some x->vs[i]? = some v->VRel ι v (a.eval x)
 | [],vs,hx=>by simp[evs]at hx; subst hx; simp
 | x :: xs,vs,hx=>by
  simp only[qaL,evs]at hx;split at hx
  .rename_i v1 vs1 h1 h2;cases hx;obtain⟨h3,h4⟩:=zcJ hE xs h2
   grind [zae]
  cases hx
theorem zg2(hE:zcq ι N env a){xs:Array Operand}{vs:List V}(hx:evs env (xs.toList.map opX)=some vs):zgq ι vs (xs.map a.eval):=by
 obtain⟨h1,h2⟩:=zcJ hE _ hx
 grind [qal,Go.Mx.zgq]
theorem ztH(hE:zcq ι N env a){x:Option Operand}{m:Option Int}(hx:zuf env (x.map opX)=some m):
  (x=none/\m=none)\/∃ y n k,x=some y/\m=some n/\a.eval y=.int k n:=by
 cases x<;>grind [zuf,qal,zdq]
def zFH:Value->Option Nat
 | .pointer (some ad)=>some ad.block
 | _=>none
def ldB(a:Act)(o:Oper):Option Nat:=match o.op with | .load _ x=>zFH (a.eval x)| _=>none
def QOk(P:Program)(ι:Io)(a:Act)(w:World)(o:Oper)(v:V):Prop:=
 ∃ u,(∀ w',(∀ b,ldB a o=some b->w'.heap[b]? = w.heap[b]?)->(execOp a.eval o).run P w'=.ok (.value u) w')/\VRel ι v u
variable{t:TypeId}
theorem zag{d:TypeDesc}(h:P.underlying t=some d)(w:World):(underlying t).run P w=.ok d w:=by
 simp[underlying,h]
theorem zf3{d:TypeInfo}(h:P.info? t=some d)(w:World):(typeInfo t).run P w=.ok d w:=by
 simp[typeInfo,h]
theorem zaY(h:(P.info? t).isSome=true)(w:World):(sizeOf t).run P w=.ok (P.cellsOf t) w:=by
 obtain⟨i,hi⟩:=qa5.1 h;simp[sizeOf,typeInfo,hi,Program.cellsOf]
theorem ziW(h:zdM P t=true)(w:World):(isAgg t).run P w=.ok (zgL P t) w:=by
 simp only[zdM,qai]at h;obtain⟨d,hd⟩:=qa5.1 h.2;unfold isAgg zgL;simp only[Sem.run_bind,zag hd,Result.andThen_ok,hd];cases d<;>rfl
theorem zbz{v:Value}(h:(P.info? t).bind (·.zero)=some v)(w:World):(zeroValue t).run P w=.ok v w:=by
 cases hi:P.info? t with
 | none=>simp[hi]at h
 | some i=>
  simp_all [zeroValue,typeInfo]
variable{b:Nat}{arr:Array Value}
theorem zer{off:Nat}{T:TypeId}{fr:Nat×Nat}{v:Value}{w':World}(h:w'.heap[b]? = some (.cells arr T fr))(hv:arr[off]? = some v):w'.cell? ⟨b,off,none⟩=some v:=by
 simp[World.cell?,h,hv]
theorem zeu(b off n:Nat):(Addr.mk b off none).add n=⟨b,off+n,none⟩:=by
 grind [Addr.add]
theorem zlE(ht:zdM P t=true){off:Nat}{w':World}(cs:List Value)(hn:zgL P t=true->cs.length=P.cellsOf t)(h1:zgL P t=false->cs.length=1)(hc:∀(j:Nat) v,cs[j]? = some v->w'.cell? ⟨b,off+j,none⟩=some v):
  (loadVar t ⟨b,off,none⟩).run P w'=.ok (bif zgL P t then .agg cs.toArray else cs.headD undef) w':=by
 unfold loadVar;simp only[Sem.run_bind,ziW ht,Result.andThen_ok];have ht':=ht;simp only[zdM,qai]at ht';cases hb:zgL P t with
 | true=>
  simp only[if_true,Sem.run_bind,zaY ht'.1,Result.andThen_ok,qdt];rw[<- hn hb,run_loadCells_list]
  .simp
  .grind [zeu]
 | false=>
  simp only[qbv,if_false,qdu]
  match cs,h1 hb with
  | [v],_=>
   have:=hc 0 v rfl
   simp_all
theorem znD{o n:Nat}{cs l:List V}(hs:slot o n cs=some l):o+n<=cs.length/\l.length=n/\∀ k,k<n->l[k]? = cs[o+k]?:=by
 unfold slot at hs;cases hb:Nat.ble (o+n) cs.length with
 | false=>simp_all
 | true=>
  simp only[hb,qdt,qae]at hs;have hle:=qad hb
  grind
theorem zdK(ht:zdM P t=true){cs:List V}{o:Nat}(hv:takeN cs o (zp7 P t)=some v){s:Nat}(hc:∀(k:Nat) x,cs[k]? = some x->∃ u,VRel ι x u/\u.oneCell'=true/\∀ w':World,(w'.heap[b]? = w.heap[b]?)->w'.cell? ⟨b,s+k,none⟩=some u):
  ∃ u,VRel ι v u/\∀ w':World,(w'.heap[b]? = w.heap[b]?)->(loadVar t ⟨b,s+o,none⟩).run P w'=.ok u w':=by
 cases hb:zgL P t with
 | true=>
  simp only[zp7,hb,qdt,takeN,qal]at hv;obtain⟨l,hl,rfl⟩:=hv;obtain⟨h1,h2,h3⟩:=znD hl;have hex:∀ k,k<P.cellsOf t->∃ u,∃ x,l[k]? = some x/\VRel ι x u/\u.oneCell'=true/\∀ w':World,(w'.heap[b]? = w.heap[b]?)->w'.cell? ⟨b,s+(o+k),none⟩=some u:=by
   grind
  let us:List Value:=(List.range (P.cellsOf t)).map λk=>if hk:k<P.cellsOf t then(hex k hk).choose else undef
  have hus:∀(k:Nat) u,us[k]? = some u->∃ x,l[k]? = some x/\VRel ι x u/\u.oneCell'=true/\∀ w':World,(w'.heap[b]? = w.heap[b]?)->w'.cell? ⟨b,s+(o+k),none⟩=some u:=by
   grind
  have hlen:us.length=P.cellsOf t:=by simp[us]
  refine⟨.agg us.toArray,.agg _ _ (by simp[hlen,h2]) (λi x u hx hu=>?_) (λi u hu=>?_),λw' hw'=>?_⟩<;> grind [zlE]
 | false=>
  simp only[zp7,hb,qdu,takeN]at hv;obtain⟨u,g1,g2,g3⟩:=hc o v hv;refine⟨u,g1,λw' hw'=>?_⟩
  have:=zlE (P:=P) ht (b:=b) (off:=s+o) (w':=w') [u] (λh0=>by rw[hb]at h0; cases h0) (λ_=>rfl) (λj u' hu=>by
   grind)
  rw[this,hb]; rfl
theorem Sim.cells(hS:Sim P B w1 ι h w){β:Nat}{cs:List V}(hβ:zax h β=some cs):∃ b s sz arr T fr,ι β=some (b,s,sz)/\w.heap[b]? = some (.cells arr T fr)/\arr.size=sz/\s+cs.length<=sz /\
  (∀(k:Nat) v,cs[k]? = some v->∃ u,arr[s+k]? = some u/\VRel ι v u/\u.oneCell'=true)/\(B<=β->fr=(0,0)):=hS.obj β _ (zdF hβ)
theorem Sim.cellAt(hS:Sim P B w1 ι h w){β s sz:Nat}{cs:List V}(hβ:zax h β=some cs)(hι:ι β=some (b,s,sz))(k:Nat)(x:V)(hk:cs[k]? = some x):
  ∃ u,VRel ι x u/\u.oneCell'=true/\∀ w':World,(w'.heap[b]? = w.heap[b]?)->w'.cell? ⟨b,s+k,none⟩=some u:=by
 grind [zer,Sim.cells]
variable{o:Oper}
theorem zFY(hS:Sim P B w1 ι h w)(hE:zcq ι N env a){x:Operand}(ho:o.op=.load t x)(ht:zdM P t=true)(hq:q h env (.load (zp7 P t) (opX x))=some v):QOk P ι a w o v:=by
 simp only[q]at hq;split at hq
 .rename_i β off h1;obtain⟨cs,h2,h3⟩:=qaY.1 hq;have hx:=zae hE h1;generalize hu0:a.eval x=u0 at hx;cases hx with
  | ptr _ _ b s sz hι=>
   obtain⟨u,g1,g2⟩:=zdK (P:=P) (w:=w) ht h3 (λk x hk=>hS.cellAt h2 hι k x hk);refine⟨u,λw' hw'=>?_,g1⟩
   simp_all [execOp,Instr.loadAt,Instr.sureAddr,ldB,zFH]
 cases hq
variable{f:Nat}{fs:Array Field}
theorem zHu(hE:zcq ι N env a){s:TypeId}{x:Operand}(ho:o.op=.fieldAddr s x f)(hs:P.underlying s=some (.struct fs)){fd:Field}(hf:fs[f]? = some fd)(ht:zdM P fd.type=true)(hn:(P.cellsOf fd.type == 0)=false)(hq:q h env (.fld fd.offset (opX x))=some v):QOk P ι a w o v:=by
 simp only[zdM,qai]at ht;have hne:¬ P.cellsOf fd.type=0:=by simpa using hn
 simp only[q]at hq;split at hq
 .rename_i β off h1;cases hq;have hx:=zae hE h1;generalize hu0:a.eval x=u0 at hx;cases hx with
  | ptr _ _ b s' sz hι=>
   refine⟨_,λw' _=>?_,.ptr β (off+fd.offset) b s' sz hι⟩
   simp_all [execOp,Instr.fieldAt,zag,Instr.sureAddr,fieldPlace,zaY,zeu,qb1]
 cases hq
variable{el:TypeId}{y:Operand}
theorem zEf(hE:zcq ι N env a){x:Operand}(ho:o.op=.indexAddr t x y)(hs:P.underlying t=some (.slice el))(ht:zdM P el=true)(hq:q h env (.idxS (P.cellsOf el) (opX x) (opX y))=some v):QOk P ι a w o v:=by
 simp only[zdM,qai]at ht;simp only[q]at hq;split at hq
 .rename_i β off n' len cap m h1 h2;cases hb:(P.cellsOf el == n') && decide (0<=m) && decide (m<len)with
  | false=>simp_all
  | true=>
   simp only[hb,qdt,qae]at hq;subst hq;simp only[qai,qdz,decide_eq_true_eq]at hb;obtain⟨⟨hn,h0⟩,hm⟩:=hb;have hx:=zae hE h1;obtain⟨k,hy⟩:=zdq hE h2;generalize hu0:a.eval x=u0 at hx;cases hx with
   | sl _ _ _ _ _ b s sz cap' hι _ _ _ _ _ _=>
    refine⟨_,λw' _=>?_,.ptr β _ b s sz hι⟩;simp[execOp,ho,Instr.indexAt,hy,asIntOf,zag hs,hu0,h0,hm,zaY ht.1,zeu,qb1]
   | sl0=>simp at hm; omega
 cases hq
theorem zEi(hE:zcq ι N env a){x:Operand}{cnt:Nat}(ho:o.op=.indexAddr t x y)(hs:P.underlying t=some (.array cnt el))(ht:zdM P el=true)(hq:q h env (.idxA (P.cellsOf el) cnt (opX x) (opX y))=some v):QOk P ι a w o v:=by
 simp only[zdM,qai]at ht;simp only[q]at hq;split at hq
 .rename_i β off m h1 h2;cases hb:decide (0<=m) && decide (m<cnt)with
  | false=>simp_all
  | true=>
   simp only[hb,qdt,qae]at hq;subst hq;simp only[qai,decide_eq_true_eq]at hb;obtain⟨h0,hm⟩:=hb;have hx:=zae hE h1;obtain⟨k,hy⟩:=zdq hE h2;generalize hu0:a.eval x=u0 at hx;cases hx with
   | ptr _ _ b s sz hι=>
    refine⟨_,λw' _=>?_,.ptr β _ b s sz hι⟩
    simp_all [execOp,Instr.indexAt,asIntOf,zag,Instr.sureAddr,zaY,zeu,qb1]
 cases hq
theorem zmk(ht:zdM P t=true){vs:List V}{o:Nat}(hv:takeN vs o (zp7 P t)=some v)(hr:VRel ι (.agg vs) (.agg arr)):
  ∃ u,VRel ι v u/\∀ w',(part t arr o).run P w'=.ok u w':=by
 have ht':=ht;simp only[zdM,qai]at ht';cases hr with
 | agg _ _ hsz hc hone=>
 cases hb:zgL P t with
 | true=>
  simp only[zp7,hb,qdt,takeN,qal]at hv;obtain⟨l,hl,rfl⟩:=hv;obtain⟨h1,h2,h3⟩:=znD hl;refine⟨.agg (arr.extract o (o+P.cellsOf t)),.agg _ _ (by simp[h2,hsz]; omega) (λi x u hx hu=>?_) (λi u hu=>?_),λw'=>?_⟩
  .grind
  .grind [Array.getElem?_extract]
  .simp_all [part,ziW,zaY]
 | false=>
  simp only[zp7,hb,qdu,takeN]at hv;have hlt:o<arr.size:=by rw[hsz]; exact(qab.1 hv).1
  refine⟨arr[o],hc o v _ hv (qbd hlt),λw'=>?_⟩;simp[part,ziW ht,hb,qbd hlt]
theorem zFq(hE:zcq ι N env a){x:Operand}{cnt:Nat}(ho:o.op=.index t x y)(hs:P.underlying t=some (.array cnt el))(ht:zdM P el=true)(h1:zgL P el=false->P.cellsOf el=1)(hq:q h env (.idxV (zp7 P el) cnt (opX x) (opX y))=some v):QOk P ι a w o v:=by
 have ht':=ht;simp only[zdM,qai]at ht';simp only[q]at hq;split at hq
 .rename_i vs m hx1 hy1;cases hb:decide (0<=m) && decide (m<cnt)with
  | false=>simp_all
  | true=>
   simp only[hb,qdt]at hq;simp only[qai,decide_eq_true_eq]at hb;obtain⟨h0,hm⟩:=hb;have hx:=zae hE hx1;obtain⟨k,hy⟩:=zdq hE hy1;generalize hu0:a.eval x=u0 at hx;have hn:(zp7 P el).getD 1=P.cellsOf el:=by
    grind [zp7]
   rw[hn]at hq;cases u0 with
   | agg arr=>
    obtain⟨u,g1,g2⟩:=zmk ht hq hx;refine⟨u,λw' _=>?_,g1⟩
    simp_all [execOp,Instr.index,asIntOf,zag,zaY]
   | _=>cases hx
 cases hq
theorem zGy(hE:zcq ι N env a){s:ByteArray}(ho:o.op=.index t (.const (.string s)) y)(hs:P.underlying t=some .string)(hq:q h env (.chr (s.data.toList.map (·.toNat)) (opX y))=some v):QOk P ι a w o v:=by
 simp only[q]at hq;split at hq
 .rename_i m hy1;obtain⟨k,hy⟩:=zdq hE hy1;cases h0:decide (0<=m)with
  | false=>simp_all
  | true=>
   simp only[h0,qdt,qal,qa6]at hq;obtain⟨b,⟨c,hc,rfl⟩,rfl⟩:=hq;have hm:=of_decide_eq_true h0;have hg:s[m.toNat]? = some c:=by
    have h1:=(qab.1 hc);obtain⟨h2,h3⟩:=h1;have hsz:m.toNat<s.size:=by simpa using h2
    rw[getElem?_pos s m.toNat hsz];rw[<- h3];rfl
   refine⟨.int .u8 c.toNat,λw' _=>?_,.lit _⟩;have hx0:a.eval (.const (.string s))=.string s:=rfl
   simp_all [execOp,Instr.index,asIntOf,zag]
 cases hq
theorem zEb(hE:zcq ι N env a){s:TypeId}{x:Operand}(ho:o.op=.field s x f)(hs:P.underlying s=some (.struct fs)){fd:Field}(hf:fs[f]? = some fd)(ht:zdM P fd.type=true)(hq:q h env (.part (zp7 P fd.type) fd.offset (opX x))=some v):QOk P ι a w o v:=by
 simp only[q]at hq;split at hq
 .rename_i vs hx1;have hx:=zae hE hx1;generalize hu0:a.eval x=u0 at hx;cases u0 with
  | agg arr=>
   obtain⟨u,g1,g2⟩:=zmk ht hq hx;refine⟨u,λw' _=>?_,g1⟩
   simp_all [execOp,Instr.field,zag,asAgg]
  | _=>cases hx
 cases hq
variable{op:BinOp}{k k':IntKind}
theorem znk{n:Int}(hb:zod op (.lit (.int k m)) (.lit (.int k' n))=some v):
  ∃ u,v=.lit u/\∀ w:World,(binOp op t (.int k m) (.int k' n)).run P w=.ok u w:=by
 unfold zod at hb;cases op<;>simp only[]at hb
 case shl=>
  cases hn:decide (0<=n)with
  | false=>simp only[hn,qdu]at hb; cases hb
  | true=>
   simp only[hn,qdt,qae]at hb;subst hb;simp only[decide_eq_true_eq]at hn;refine⟨_,rfl,λw=>?_⟩;have:¬ n<0:=by omega
   simp[binOp,Op.shift,this]
 case shr=>
  cases hn:decide (0<=n)with
  | false=>simp only[hn,qdu]at hb; cases hb
  | true=>
   simp only[hn,qdt,qae]at hb;subst hb;simp only[decide_eq_true_eq]at hn;refine⟨_,rfl,λw=>?_⟩;have:¬ n<0:=by omega
   simp[binOp,Op.shift,this]
 all_goals
  cases hk:(k == k')with
  | false=>simp only[hk,qdu]at hb; cases hb
  | true=>
   simp only[hk,qdt]at hb;have hk':k=k':=by simpa using hk
   subst hk';simp only[zby]at hb;first
    |(simp only[qbe,qae]at hb
      subst hb;refine⟨_,rfl,λw=>?_⟩
      simp[binOp,Op.intArith,Op.intDiv,Op.intBits,Op.intCmp]; done)
    |(cases hn:(n == 0)with
      | true=>simp only[hn,qdt,qdo]at hb; cases hb
      | false=>
       simp only[hn,qdu,qbe,qae]at hb;subst hb;refine⟨_,rfl,λw=>?_⟩;have:¬ n=0:=by simpa using hn
       simp[binOp,Op.intArith,Op.intDiv,Op.intBits,Op.intCmp,this])
theorem zk0{x:Operand}{n:Int}(w:World):(eqGuard op t x y (.int k m) (.int k' n)).run P w=.ok () w:=by
 unfold eqGuard;split<;>rfl
theorem zyu{x y r:V}(hb:zod op x y=some r):∃ k m k' n,x=.lit (.int k m)/\y=.lit (.int k' n):=by
 unfold zod at hb
 grind
variable{ty:TypeId}
theorem zHE(hE:zcq ι N env a){x:Operand}(ho:o.op=.binOp op t x y ty)(hq:q h env (.bin op (opX x) (opX y))=some v):QOk P ι a w o v:=by
 simp only[q]at hq;split at hq
 .rename_i v1 v2 h1 h1';obtain⟨k,m,k',n,rfl,rfl⟩:=zyu hq;have e1:=(zae hE h1).zc7;have e2:=(zae hE h1').zc7;obtain⟨u,rfl,hu⟩:=znk (P:=P) (t:=t) hq;refine⟨u,λw' _=>?_,.lit _⟩
  simp_all [execOp,zk0]
 cases hq
variable{neg:Bool}
theorem zEI(hE:zcq ι N env a){x:Operand}(ho:o.op=.binOp (bif neg then .neq else .eql) t x y ty)(ht:P.underlying t=some .bool)(hq:q h env (.eqb neg (opX x) (opX y))=some v):QOk P ι a w o v:=by
 simp only[q]at hq;split at hq
 .rename_i v1 v2 h1 h1';cases hq;have e1:=zfd hE h1;have e2:=zfd hE h1';refine⟨_,λw' _=>?_,.lit _⟩;cases neg
  .simp_all [execOp,eqGuard,run_eql_bool]
  simp_all [execOp,eqGuard,run_neq_bool]
 cases hq
theorem zrJ{xs ys:Array Value}{w:World}(d:Nat):∀(fs:List Field) (o:Nat) (vs ws:List V) (b:Bool),(∀ f∈fs,f.name ≠ "_" /\ zxk P f.type=true)->fs.map (·.offset)=List.range' o fs.length->vs.length=fs.length->zx3 vs ws=some b ->
  (∀(i:Nat) u,vs[i]? = some (.lit u)->xs[o+i]? = some u)->(∀(i:Nat) u,ws[i]? = some (.lit u)->ys[o+i]? = some u)->(Op.eqFields (d+1) xs ys fs).run P w=.ok b w
 | [],o,vs,ws,b,_,_,hl,hq,_,_=>by
  have hv:vs=[]:=qaG.1 hl;subst hv;cases ws with
  | nil=>cases hq; simp[Op.eqFields]
  | cons=>cases hq
 | f :: fs,o,vs,ws,b,hall,ho,hl,hq,hx,hy=>by
  cases vs with
  | nil=>simp at hl
  | cons v vs=>
  simp only[qaL,qaB,qb5,List.cons.injEq]at ho;obtain⟨ho1,ho2⟩:=ho;unfold zx3 at hq;split at hq
  .simp_all
  .rename_i k x vs' k' y ws' e1;cases e1;cases hk:(k == k')with
   | false=>rw[hk]at hq; cases hq
   | true=>
   rw[hk,qdt]at hq;have hk':k=k':=by simpa using hk
   subst hk';cases hr:zx3 vs ws' with
   | none=>rw[hr]at hq; cases hq
   | some r=>
   rw[hr]at hq;simp only[qae]at hq;obtain⟨hn,ht⟩:=hall f qaj;unfold zxk at ht;cases hu:P.underlying f.type with
   | none=>rw[hu]at ht; cases ht
   | some kd=>
   rw[hu]at ht;cases kd with
   | int q=>
    have hp:P.plainKey f.type=true:=by unfold Program.plainKey; rw[hu]
    have p1:=hx 0 _ (by rfl);have p2:=hy 0 _ (by rfl);rw[qbH,<- ho1]at p1 p2;have ih:=zrJ (w:=w) d fs (o+1) vs ws' r (λg hg=>hall g (qah _ hg)) ho2 (by simpa using hl) hr (λi u h=>by rw[show o+1+i=o+(i+1) by omega]; exact hx (i+1) u (by simpa using h)) (λi u h=>by rw[show o+1+i=o+(i+1) by omega]; exact hy (i+1) u (by simpa using h));have g1:(part f.type xs f.offset).run P w=.ok (.int k x) w:=by simp[part,isAgg,zag hu,p1]
    have g2:(part f.type ys f.offset).run P w=.ok (.int k y) w:=by simp[part,isAgg,zag hu,p2]
    simp only[Op.eqFields,hn,ne_eq,not_false_eq_true,if_true,Sem.run_bind,g1,g2,Result.andThen_ok,run_equalIn_int w d f.type k q x y hu];cases hb:(x == y)<;> simp_all
   | _=>cases ht
  cases hq
theorem zD8(hE:zcq ι N env a){x:Operand}(ho:o.op=.binOp (bif neg then .neq else .eql) t x y ty)(ht:P.underlying t=some (.struct fs))(hf:zy5 P t fs=true)(hq:q h env (.eqa fs.size neg (opX x) (opX y))=some v):QOk P ι a w o v:=by
 simp only[q]at hq;split at hq
 .rename_i vs ws h1 h2;cases hl:(Nat.beq vs.length fs.size && Nat.beq ws.length fs.size)with
  | false=>rw[hl]at hq; cases hq
  | true=>
  rw[hl,qdt]at hq;obtain⟨hl1,hl2⟩:=qbE.1 hl;have hl1:=qaF hl1;have hl2:=qaF hl2;cases hb:zx3 vs ws with
  | none=>rw[hb]at hq; cases hq
  | some b=>
  rw[hb]at hq;cases hq;have r1:=zae hE h1;have r2:=zae hE h2;generalize hu1:a.eval x=u1 at r1;generalize hu2:a.eval y=u2 at r2;cases r1 with
  | agg _ xs s1 k1 _=>
  cases r2 with
  | agg _ ys s2 k2 _=>
  unfold zy5 at hf;simp only[qai,qbh,qdz]at hf;obtain⟨⟨⟨f1,f2⟩,f3⟩,f4⟩:=hf;have hfo:P.fieldsOf t=fs:=by unfold Program.fieldsOf; rw[ht]
  have lit:∀ {vs:List V} {arr:Array Value},arr.size=vs.length->(∀(i:Nat) x v,vs[i]? = some x->arr[i]? = some v->VRel ι x v)->∀(i:Nat) u,vs[i]? = some (.lit u)->arr[0+i]? = some u:=by
   grind [VRel.zc7]
  have run:∀ w':World,(Op.equalIn 10000 t (.agg xs) (.agg ys)).run P w'=.ok b w':=by
   intro w';rw[run_equalIn_struct w' 9999 t xs ys (by rw[hfo]; exact ht) f3,hfo];refine zrJ 9998 fs.toList 0 vs ws b (λf hf=>?_) (by rw[f2,qcT,Array.length_toList]) (by rw[hl1,Array.length_toList]) hb (lit s1 k1) (lit s2 k2)<;> grind
  refine⟨_,λw' _=>?_,.lit _⟩;cases neg
  .simp_all [execOp,run_eqGuard_agg,run_eql_struct]
  simp_all [execOp,run_eqGuard_agg,run_neq_struct]
 cases hq
theorem zij(ht:P.underlying t=some (.slice el))(ad:Option Addr)(len cap:Nat)(w':World):(Op.equal t (.slice ad len cap) (.slice none 0 0)).run P w'=.ok ad.isNone w':=by
 show(Op.equalIn (9999+1) t (.slice ad len cap) (.slice none 0 0)).run P w'=.ok ad.isNone w';unfold Op.equalIn;simp only[Sem.run_bind,zag ht,Result.andThen_ok];cases ad<;>rfl
theorem zlo{t:TypeId}{ms:Array (String×TypeId)}(ht:P.underlying t=some (.interface ms))(x:Value)(b:Bool)(hx:(x=.nilIface/\b=true)\/(∃ t v,x=.iface t v)/\b=false)(w':World):(Op.equal t x .nilIface).run P w'=.ok b w':=by
 show(Op.equalIn (9999+1) t x .nilIface).run P w'=.ok b w';unfold Op.equalIn;simp only[Sem.run_bind,zag ht,Result.andThen_ok];rcases hx with⟨rfl,rfl⟩| ⟨⟨t,v,rfl⟩,rfl⟩<;> rfl
theorem zhr(ht:P.underlying t=some (.pointer el))(ad:Option Addr)(w':World):(Op.equal t (.pointer ad) (.pointer none)).run P w'=.ok ad.isNone w':=by
 show(Op.equalIn (9999+1) t (.pointer ad) (.pointer none)).run P w'=.ok ad.isNone w';unfold Op.equalIn;simp only[Sem.run_bind,zag ht,Result.andThen_ok];cases ad<;>rfl
theorem zFm(hE:zcq ι N env a){x:Operand}(ho:o.op=.binOp (bif neg then .neq else .eql) t x (.const (.slice none 0 0)) ty)(ht:P.underlying t=some (.slice el))(hq:q h env (.eqn neg (opX x))=some v):QOk P ι a w o v:=by
 simp only[q]at hq;have key:∀(ad:Option Addr) (len cap:Nat),a.eval x=.slice ad len cap->∀ w':World,(execOp a.eval o).run P w'=.ok (.value (.bool (bif neg then !ad.isNone else ad.isNone))) w':=by
  intro ad len cap hx w';have hy:a.eval (.const (.slice none 0 0))=.slice none 0 0:=rfl;cases neg
  .simp_all [execOp,eqGuard,binOp,zij]
  simp_all [execOp,eqGuard,binOp,zij]
 split at hq
 .rename_i h1;cases hq;have hx:=(zae hE h1).zc7;exact⟨_,λw' _=>key _ _ _ hx w',by cases neg<;>exact .lit _⟩
 .rename_i h1;cases hq;have hx:=zae hE h1;generalize hu0:a.eval x=u0 at hx key;cases hx with
  | sl=>exact⟨_,λw' _=>key _ _ _ rfl w',by cases neg<;>exact .lit _⟩
  | sl0=>exact⟨_,λw' _=>key _ _ _ rfl w',by cases neg<;>exact .lit _⟩
 cases hq
theorem zEW(hE:zcq ι N env a){ms:Array (String×TypeId)}{x:Operand}(ho:o.op=.binOp (bif neg then .neq else .eql) t x (.const .nilIface) ty)(ht:P.underlying t=some (.interface ms))(hq:q h env (.eqi neg (opX x))=some v):QOk P ι a w o v:=by
 simp only[q]at hq;have key:∀(b:Bool),(a.eval x=.nilIface/\b=true)\/(∃ t v,a.eval x=.iface t v)/\b=false->∀ w':World,(execOp a.eval o).run P w'=.ok (.value (.bool (bif neg then !b else b))) w':=by
  intro b hx w';have hy:a.eval (.const .nilIface)=.nilIface:=rfl;have he:=zlo ht (a.eval x) b hx w';have hg:∀ op,(eqGuard op t x (.const .nilIface) (a.eval x) .nilIface).run P w'=.ok () w':=by
   intro op;rcases hx with⟨hx,_⟩| ⟨⟨t',v',hx⟩,_⟩<;> rw[hx]<;>unfold eqGuard<;>cases op<;>first | rfl | (cases x<;>rfl)
  have hbin:∀ op,op=.eql\/op=.neq->binOp op t (a.eval x) .nilIface=(match op with | .eql=>(do pure (.bool (<- Op.equal t (a.eval x) .nilIface)):Sem Value)| _=>do pure (.bool (!(<- Op.equal t (a.eval x) .nilIface)))):=by
   intro op hop;rcases hx with⟨hx,_⟩| ⟨⟨t',v',hx⟩,_⟩<;> rw[hx]<;>rcases hop with rfl | rfl<;>rfl
  cases neg
  .simp only[qdu]at ho ⊢;simp[execOp,ho,hy,hg,hbin,he]
  simp only[qdt]at ho ⊢;simp[execOp,ho,hy,hg,hbin,he]
 split at hq
 .rename_i h1;cases hq;have hx:=(zae hE h1).zc7;exact⟨_,λw' _=>key true (.inl ⟨hx,rfl⟩) w',by cases neg<;>exact .lit _⟩
 .rename_i h1;cases hq;have hx:=zae hE h1;generalize hu0:a.eval x=u0 at hx key;cases hx with
  | ifc t' v' u' _=>exact⟨_,λw' _=>key false (.inr ⟨⟨_,_,rfl⟩,rfl⟩) w',by cases neg<;>exact .lit _⟩
 cases hq
theorem zFP(hE:zcq ι N env a){x:Operand}(ho:o.op=.binOp (bif neg then .neq else .eql) t x (.const (.pointer none)) ty)(ht:P.underlying t=some (.pointer el))(hq:q h env (.eqp neg (opX x))=some v):QOk P ι a w o v:=by
 simp only[q]at hq;have key:∀(ad:Option Addr),a.eval x=.pointer ad->∀ w':World,(execOp a.eval o).run P w'=.ok (.value (.bool (bif neg then !ad.isNone else ad.isNone))) w':=by
  intro ad hx w';have hy:a.eval (.const (.pointer none))=.pointer none:=rfl;cases neg
  .simp only[qdu]at ho ⊢;simp[execOp,ho,hx,hy,eqGuard,binOp,zhr ht]
  simp only[qdt]at ho ⊢;simp[execOp,ho,hx,hy,eqGuard,binOp,zhr ht]
 split at hq
 .rename_i h1;cases hq;have hx:=(zae hE h1).zc7;exact⟨_,λw' _=>key _ hx w',by cases neg<;>exact .lit _⟩
 .rename_i h1;cases hq;have hx:=zae hE h1;generalize hu0:a.eval x=u0 at hx key;cases hx with
  | ptr=>exact⟨_,λw' _=>key _ rfl w',by cases neg<;>exact .lit _⟩
 cases hq
theorem zIi(hE:zcq ι N env a){op:UnOp}{x:Operand}(ho:o.op=.unOp op t x)(hq:q h env (.un op (opX x))=some v):QOk P ι a w o v:=by
 simp only[q]at hq;obtain⟨v1,h1,h2⟩:=qaY.1 hq;have e1:=zae hE h1;unfold unV at h2;split at h2
 .have e2:=e1.zc7;split at h2
  .cases h2;exact⟨_,λw' _=>by simp[execOp,ho,e2,Op.unary,Op.intArith],.lit _⟩
  .simp only[zby,qbe,qae]at h2;subst h2;exact⟨_,λw' _=>by simp[execOp,ho,e2,Op.unary,Op.intBits],.lit _⟩
  cases h2
 .have e2:=e1.zc7;split at h2
  .cases h2;exact⟨_,λw' _=>by simp[execOp,ho,e2,Op.unary],.lit _⟩
  cases h2
 cases h2
theorem zEe(hE:zcq ι N env a){t':TypeId}{x:Operand}(ho:o.op=.convert t t' x)(h1:P.underlying t=some (.int k))(h2:P.underlying t'=some (.int k'))(hq:q h env (.conv k' (opX x))=some v):QOk P ι a w o v:=by
 simp only[q]at hq;split at hq
 .rename_i m h3;cases hq;obtain⟨kk,hx⟩:=zdq hE h3;exact⟨_,λw' _=>by simp[execOp,ho,hx,convert,zag h1,zag h2,Conv.intToInt],.lit _⟩
 cases hq
theorem zHz(hE:zcq ι N env a){x:Operand}{i:Nat}(ho:o.op=.extract x i)(hq:q h env (.ext (opX x) i)=some v):QOk P ι a w o v:=by
 simp only[q]at hq;split at hq
 .rename_i vs h3;have hx:=zae hE h3;generalize hu0:a.eval x=u0 at hx;cases hx with
  | tup _ arr hsz hc=>
   have hlt:i<arr.size:=by rw[hsz]; exact(qab.1 hq).1
   refine⟨arr[i],λw' _=>?_,hc i v _ hq (qbd hlt)⟩;simp[execOp,ho,hu0,Instr.extract,qbd hlt]
 cases hq
theorem zBS(hE:zcq ι N env a){x:Operand}(ho:o.op=.nilCheck x)(hq:q h env (.nilck (opX x))=some v):QOk P ι a w o v:=by
 simp only[q]at hq;split at hq
 .rename_i h3;cases hq;have hx:=zae hE h3;refine⟨_,λw' _=>?_,hx⟩;generalize hu0:a.eval x=u0 at hx;cases hx;simp[execOp,ho,hu0]
 .rename_i h3;cases hq;have hx:=zae hE h3;refine⟨_,λw' _=>?_,hx⟩;generalize hu0:a.eval x=u0 at hx;cases hx;simp[execOp,ho,hu0]
 cases hq
variable{c:Call}
theorem zbM{b:Builtin}(ho:o.op=.call c)(hc:c.callee=.builtin b):
  execOp a.eval o=builtin b c.argTypes o.type (c.args.map λ| .const _=>true | _=>false) (c.args.map a.eval):=by
 simp[execOp,ho,resolve,hc,invoke];rfl
theorem zGJ(hE:zcq ι N env a){x:Operand}(ho:o.op=.call c)(hc:c.callee=.builtin .len)(h1:c.argTypes.toList=[t])(h2:c.args.toList=[x])(ht:P.underlying t=some (.slice el))(hq:q h env (.len (opX x))=some v):QOk P ι a w o v:=by
 have h1':c.argTypes = #[t]:=by rw[<- qbr (xs:=c.argTypes),h1]
 have h2':c.args = #[x]:=by rw[<- qbr (xs:=c.args),h2]
 simp only[q]at hq;obtain⟨v1,h3,h4⟩:=qaY.1 hq;have hx:=zae hE h3;generalize hu0:a.eval x=u0 at hx;have hrun:∀(ad:Option Addr) (len cap:Nat),u0=.slice ad len cap->∀ w':World,(execOp a.eval o).run P w'=.ok (.value (.int .i64 len)) w':=by
  intro ad len cap hb w';rw[zbM ho hc];simp[builtin,Builtin.len_,h1',h2',hu0,hb,zag ht,goInt]
 unfold zDs at h4;split at h4
 .cases h4;cases hx<;>exact⟨_,λw' _=>hrun _ _ _ rfl w',.lit _⟩
 .cases h4;exact⟨_,λw' _=>hrun _ _ _ hx.zc7 w',.lit _⟩
 cases h4
variable{isMax:Bool}
theorem zvV{x y z:V}(hm:mm2 isMax x y=some z):∃ k m n,x=.lit (.int k m)/\y=.lit (.int k n)/\
  z=.lit (.int k (bif isMax then(if n > m then n else m)else(if n<m then n else m))):=by
 unfold mm2 at hm;split at hm
 .rename_i k m k' n;cases hk:(k == k')with
  | false=>simp only[hk,qdu]at hm; cases hm
  | true=>
   simp only[hk,qdt,qae]at hm;have:k=k':=by simpa using hk
   subst this;exact⟨k,m,n,rfl,rfl,hm.symm⟩
 cases hm
theorem zpW{isMax:Bool}:∀(ys:List V) (x z:V) (u:Value) (us:List Value),mms isMax x ys=some z->ys.length=us.length ->
  VRel ι x u->(∀(i:Nat) y v,ys[i]? = some y->us[i]? = some v->VRel ι y v)->
  ∃ r,VRel ι z r/\∀ w':World,(us.foldlM (bif isMax then Builtin.max2 else Builtin.min2) u).run P w'=.ok r w'
 | [],x,z,u,us,hm,hl,hx,_=>by
  simp[mms]at hm;subst hm;cases us with
  | nil=>exact⟨u,hx,λw'=>by simp⟩
  | cons _ _=>simp at hl
 | y :: ys,x,z,u,us,hm,hl,hx,hy=>by
  cases us with
  | nil=>simp at hl
  | cons u1 us=>
   simp only[mms]at hm;split at hm
   .rename_i z1 hz1;obtain⟨k,m,n,rfl,rfl,rfl⟩:=zvV hz1;have e1:=hx.zc7;have e2:=(hy 0 _ u1 rfl rfl).zc7;obtain⟨r,h1,h2⟩:=zpW ys _ z _ us hm (by simpa using hl) (.lit _) (λi y v h3 h4=>hy (i+1) y v (by simpa using h3) (by simpa using h4));refine⟨r,h1,λw'=>?_⟩;rw[e1,e2,List.foldlM_cons];cases isMax<;>simp only[qdt,qdu,Builtin.min2,Builtin.max2,Sem.run_bind,Sem.run_pure,Result.andThen_ok]at h2 ⊢
    .exact h2 w'
    exact h2 w'
   cases hm
theorem zH0(hE:zcq ι N env a)(ho:o.op=.call c)(hc:c.callee=.builtin (bif isMax then .max else .min))(hq:q h env (.mm isMax (c.args.toList.map opX))=some v):QOk P ι a w o v:=by
 simp only[q]at hq;split at hq
 .rename_i v1 vs h1;obtain⟨h2,h3⟩:=zcJ hE _ h1;have hargs:(c.args.map a.eval).toList=c.args.toList.map a.eval:=by simp
  cases hcl:c.args.toList with
  | nil=>rw[hcl]at h2; simp at h2
  | cons x xs=>
   rw[hcl]at h2 h3
   obtain⟨r,h4,h5⟩:=zpW (P:=P) vs v1 v (a.eval x) (xs.map a.eval) hq (by simpa using h2) (h3 0 x v1 rfl rfl) (λi y u hy hu=>by
    simp only[qa6,qal]at hu;obtain⟨x',hx',rfl⟩:=hu
    exact h3 (i+1) x' y (by simpa using hx') (by simpa using hy))
   refine⟨r,λw' _=>?_,h4⟩;rw[zbM ho hc];cases isMax
   .simp only[qdu,builtin,Builtin.min_,hargs,hcl,qaL,Sem.run_bind];have:=h5 w';simp only[qdu]at this;rw[this]; rfl
   simp only[qdt,builtin,Builtin.max_,hargs,hcl,qaL,Sem.run_bind];have:=h5 w';simp only[qdt]at this;rw[this]; rfl
 cases hq
theorem zGT(hE:zcq ι N env a){first cap:Array Operand}(ho:o.op=.makeFunc (.func f) first cap)(hq:q h env (.clo f (first.toList.map opX) (cap.toList.map opX))=some v):QOk P ι a w o v:=by
 simp only[q]at hq;split at hq
 .rename_i vs vs' h1 h2;cases hq;have g1:=zg2 hE h1;have g2:=zg2 hE h2;exact⟨.func (.func f) (first.map a.eval) (cap.map a.eval),λw' _=>by simp[execOp,ho,Instr.makeFunc],.clo _ _ _ _ _ g1.1 g2.1 g1.2 g2.2⟩
 cases hq
theorem zGV(hE:zcq ι N env a){x:Operand}(ho:o.op=.makeInterface t x)(hs:P.underlying t=some (.struct fs))(hq:q h env (.mkI t (opX x))=some v):QOk P ι a w o v:=by
 simp only[q,qal]at hq;obtain⟨v1,h1,rfl⟩:=hq;exact⟨.iface t (a.eval x),λw' _=>by simp[execOp,ho,Instr.makeInterface,zag hs],.ifc _ _ _ (zae hE h1)⟩
end
section
variable {P:Program} {B N:Nat} {w1 w:World} {ι:Io} {h:zam} {env:List V} {a:Act}
def OIs(v:Option Value)(i:Option Int):Prop:=(v=none/\i=none)\/∃ n k,v=some (.int k n)/\i=some n
theorem zua(hE:zcq ι N env a){x:Option Operand}{m:Option Int}(hx:zuf env (x.map opX)=some m):OIs (x.map a.eval) m:=by
 grind [ztH,OIs]
theorem zcO{k:IntKind}{n:Int}{y:Nat}{code:BoundsCode}(h0:0<=n)(h1:n<=y)(w':World):(Instr.sliceBound (.int k n) y code).run P w'=.ok n.toNat w':=by
 simp[Instr.sliceBound,asIntOf,h0,h1]
theorem zdP{isSl:Bool}{len cap':Nat}{cap:Option Nat}(hcap:∀ c,cap=some c->c=cap')(hlen:len<=cap'){lo hi mx:Option Int}{vlo vhi vmx:Option Value}(h1:OIs vlo lo)(h2:OIs vhi hi)(h3:OIs vmx mx)
  {l hh:Nat} {c:Option Nat} (hb:bounds len cap lo hi mx=some (l,hh,c)):
  ∃ m,(∀ w',(Instr.sliceBounds isSl len cap' vlo vhi vmx).run P w'=.ok (l,hh,m) w')/\l<=hh/\hh<=m/\m<=cap'/\(∀ x,c=some x->x=m - l)/\(c=none->m=cap'/\cap=none):=by
 unfold bounds at hb;have htop:ziV len cap<=cap':=by
  cases cap<;>grind [ziV]
 generalize ziV len cap=top at hb htop;rcases h3 with⟨rfl,rfl⟩| ⟨m,km,rfl,rfl⟩
 .cases hc:decide (0<=lo.getD 0) && decide (lo.getD 0<=hi.getD len) && decide (hi.getD len<=top)with
  | false=>simp_all
  | true=>
   simp only[hc,qdt,qae,qan]at hb;simp only[qai,decide_eq_true_eq]at hc;obtain⟨⟨g0,g1⟩,g2⟩:=hc;obtain⟨rfl,rfl,rfl⟩:=hb;refine⟨cap',λw'=>?_,by omega,by omega,qap _,λx hx=>?_,λhcn=>⟨rfl,by cases cap with | none=>rfl | some y=>simp at hcn⟩⟩
   .rcases h2 with⟨rfl,rfl⟩| ⟨n,k,rfl,rfl⟩
    .simp only[Option.getD_none]at *;rcases h1 with⟨rfl,rfl⟩| ⟨nl,kl,rfl,rfl⟩<;> grind [Instr.sliceBounds,zcO,Sem.run_bind,Sem.run_pure,Result.andThen_ok]
    simp only[qbA]at *;have hh:=zcO (P:=P) (k:=k) (n:=n) (y:=cap') (code:=if isSl=true then BoundsCode.sliceAcap else .sliceAlen) (by omega) (by omega) w';rcases h1 with⟨rfl,rfl⟩| ⟨nl,kl,rfl,rfl⟩<;> grind [Instr.sliceBounds,Sem.run_bind,Sem.run_pure,Result.andThen_ok,zcO]
   grind [qal]
 cases hc:hi.isSome && decide (0<=lo.getD 0) && decide (lo.getD 0<=hi.getD len) && decide (hi.getD len<=m) && decide (m<=top)with
 | false=>simp_all
 | true=>
  simp only[hc,qdt,qae,qan]at hb;simp only[qai,decide_eq_true_eq]at hc;obtain⟨⟨⟨⟨gs,g0⟩,g1⟩,g2⟩,g3⟩:=hc;obtain⟨rfl,rfl,rfl⟩:=hb;refine⟨m.toNat,λw'=>?_,by omega,by omega,by omega,λx hx=>by cases hx; rfl,λhcn=>by cases hcn⟩;rcases h2 with⟨rfl,rfl⟩| ⟨n,k,rfl,rfl⟩
  .simp at gs
  simp only[qbA]at *;have hm:=zcO (P:=P) (k:=km) (n:=m) (y:=cap') (code:=if isSl=true then BoundsCode.slice3Acap else .slice3Alen) (by omega) (by omega) w';have hh:=zcO (P:=P) (k:=k) (n:=n) (y:=m.toNat) (code:=BoundsCode.slice3B) (by omega) (by omega) w';rcases h1 with⟨rfl,rfl⟩| ⟨nl,kl,rfl,rfl⟩
  .grind [Instr.sliceBounds,Sem.run_bind,Sem.run_pure,Result.andThen_ok]
  simp only[qbA]at *;have hl:=zcO (P:=P) (k:=kl) (n:=nl) (y:=n.toNat) (code:=if(some (Value.int km m)).isSome=true then BoundsCode.slice3C else .sliceB) (by omega) (by omega) w'
  grind [Instr.sliceBounds,Sem.run_bind,Sem.run_pure,Result.andThen_ok]
theorem zuM{β o n l hh m:Nat}{c:Option Nat}{b s sz cap':Nat}(hι:ι β=some (b,s,sz))(h1:s+o+cap' * n<=sz)(h3:cap'<2 ^ 63)(hn:0<n)(hl:l<=hh)(hm:hh<=m)(hc:m<=cap')(hx:∀ x,c=some x->x=m - l)(h7:c=none->m=cap'/\sz<=s+o+cap' * n):
  VRel ι (.sl β (o+l * n) n (hh - l) c) (.slice (if m=l then some ⟨b,s+o,none⟩else(some ⟨b,s+o,none⟩:Option Addr).map (·.add (l * n))) (hh - l) (m - l)):=by
 by_cases hml:m=l
 .rw[if_pos hml];have e1:hh - l=0:=by omega
  have e2:m - l=0:=by omega
  rw[e1,e2];exact .sl0 _ _ _ _ _ hn (λx hx'=>by rw[hx x hx']; exact e2) λhcn=>⟨b,s,sz,hι,by obtain⟨g1,g2⟩:=h7 hcn; subst hml; subst g1; omega⟩
 rw[if_neg hml];simp only[qbe,zeu];rw[qb1];have hml2:(m - l)* n+l * n=m * n:=by rw[<- qaQ]; congr 1; omega
 refine .sl _ _ _ _ _ b s sz _ hι ?_ (by omega) (by omega) hn hx λhcn=>?_
 .have:(m - l)* n+l * n<=cap' * n:=by rw[<- qaQ]; exact qas n (by omega)
  omega
 grind
variable{o:Oper}{t el:TypeId}{v:V}
theorem zGw(hS:Sim P B w1 ι h w)(hE:zcq ι N env a){x:Operand}{lo hi mx:Option Operand}(ho:o.op=.slice t x lo hi mx)(hs:P.underlying t=some (.slice el))(ht:zdM P el=true)(hq:q h env (.slc (P.cellsOf el) (opX x) (lo.map opX) (hi.map opX) (mx.map opX))=some v):QOk P ι a w o v:=by
 simp only[zdM,qai]at ht;simp only[q]at hq;split at hq
 .rename_i v1 l1 hh1 m1 hx1 hl1 hh2 hm1;have hx:=zae hE hx1;have g1:=zua hE hl1;have g2:=zua hE hh2;have g3:=zua hE hm1;generalize hu0:a.eval x=u0 at hx;have hrun:∀(ad:Option Addr) (len cap' l hh m:Nat),u0=.slice ad len cap'->(∀ w',(Instr.sliceBounds true len cap' (lo.map a.eval) (hi.map a.eval) (mx.map a.eval)).run P w'=.ok (l,hh,m) w')->
    ∀ w':World,(execOp a.eval o).run P w'=.ok (.value (.slice (if m=l then ad else ad.map (·.add (l * P.cellsOf el))) (hh - l) (m - l))) w':=by
   simp_all [execOp,Instr.sliceAt,zag,Instr.slice,zaY]
  cases hsv:zv3 (P.cellsOf el) l1 hh1 m1 v1 with
  | some r0=>
   rw[zpI hsv]at hq;cases hq;replace hq:=hsv;unfold zv3 at hq;split at hq
   .rename_i β off n' len cap;cases hb:(P.cellsOf el == n')with
    | false=>simp_all
    | true=>
     simp only[hb,qdt,qal,qdp]at hq;obtain⟨l,hh,c,hbd,rfl⟩:=hq;have hn:P.cellsOf el=n':=by simpa using hb
     subst hn;cases hx with
     | sl _ _ _ _ _ b s sz cap' hι k1 k2 k3 k4 k5 k6=>
      obtain⟨m,r1,r2,r3,r4,r5,r6⟩:=zdP (P:=P) (isSl:=true) k5 k2 g1 g2 g3 hbd;exact⟨_,λw' _=>hrun _ _ _ _ _ _ rfl r1 w',zuM hι k1 k3 k4 r2 r3 r4 r5 λhcn=>⟨(r6 hcn).1,k6 (r6 hcn).2⟩⟩
     | sl0 _ _ _ _ ad k4 k5 k6=>
      obtain⟨m,r1,r2,r3,r4,r5,r6⟩:=zdP (P:=P) (isSl:=true) k5 (qap 0) g1 g2 g3 hbd;refine⟨_,λw' _=>hrun _ _ _ _ _ _ rfl r1 w',?_⟩;have e0:m=l:=by omega
      have e1:hh - l=0:=by omega
      have e2:m - l=0:=by omega
      rw[if_pos e0,e1,e2];exact .sl0 _ _ _ _ _ k4 (λx hx'=>by rw[r5 x hx']; exact e2) λhcn=>by obtain⟨b,s,sz,g1,g2⟩:=k6 (r6 hcn).2; exact⟨b,s,sz,g1,by omega⟩
   .simp only[qal,qdp]at hq;obtain⟨l,hh,c,hbd,rfl⟩:=hq;have hx':=hx.zc7;obtain⟨m,r1,r2,r3,r4,r5,_⟩:=zdP (P:=P) (isSl:=true) (cap':=0) (by simp) (qap 0) g1 g2 g3 hbd
    grind [Go.Mx.QOk,Go.Mx.OIs,Go.Mx.bounds]
   .cases hq
  | none=>
   unfold zEs at hq;rw[hsv]at hq;simp only at hq;unfold zve at hq;split at hq
   .rename_i β off n' len;split at hq
    .rename_i x0 cs hcs;cases hb:(P.cellsOf el == n') && decide (0<=l1.getD 0) && decide (l1.getD 0<=x0) && Nat.ble (off+x0.toNat * P.cellsOf el) cs.length with
     | false=>simp_all
     | true=>
      simp only[hb,qdt,qae]at hq;subst hq;simp only[qai,decide_eq_true_eq,qdz]at hb;obtain⟨⟨⟨hn,b1⟩,b2⟩,b3⟩:=hb;have b3:=qad b3;subst hn;obtain⟨b0,s0,sz0,arr0,T0,fr0,q1,q2,q3,q4,q5,q6⟩:=hS.cells hcs;have hlen:∀ cap',len<=cap'->x0.toNat<=cap'->bounds len (some cap') l1 (some x0) none=some ((l1.getD 0).toNat,x0.toNat,some (cap' - (l1.getD 0).toNat)):=by
       grind [bounds,ziV]
      cases hx with
      | sl _ _ _ _ _ b s sz cap' hι k1 k2 k3 k4 k5 k6=>
       have q1':some (b,s,sz)=some (b0,s0,sz0):=hι.symm.trans q1;simp only[qae,qan]at q1';obtain⟨rfl,rfl,rfl⟩:=q1';have g4:=k6 rfl;have hx0:x0.toNat<=cap':=by
        refine qcr ?_ k4<;>grind
       obtain⟨m,r1,r2,r3,r4,r5,r6⟩:=zdP (P:=P) (isSl:=true) (cap:=some cap') (λc hc=>by cases hc; rfl) k2 g1 g2 g3 (hlen cap' k2 hx0);have r7:=r5 _ rfl;exact⟨_,λw' _=>hrun _ _ _ _ _ _ rfl r1 w',zuM hι k1 k3 k4 r2 r3 r4 (λy hy=>by cases hy) λ_=>⟨by omega,g4⟩⟩
      | sl0 _ _ _ _ ad k4 k5 k6=>
       obtain⟨b,s,sz,g5,g6⟩:=k6 rfl;have q1':some (b,s,sz)=some (b0,s0,sz0):=g5.symm.trans q1;simp only[qae,qan]at q1';obtain⟨rfl,rfl,rfl⟩:=q1';have hx0:x0.toNat<=0:=by
        refine qcr ?_ k4<;>grind
       obtain⟨m,r1,r2,r3,r4,r5,r6⟩:=zdP (P:=P) (isSl:=true) (cap:=some 0) (λc hc=>by cases hc; rfl) (qap 0) g1 g2 g3 (hlen 0 (qap 0) hx0);refine⟨_,λw' _=>hrun _ _ _ _ _ _ rfl r1 w',?_⟩;have e0:m=(l1.getD 0).toNat:=by omega
       have e1:x0.toNat - (l1.getD 0).toNat=0:=by omega
       have e2:m - (l1.getD 0).toNat=0:=by omega
       rw[if_pos e0,e1,e2];exact .sl0 _ _ _ _ _ k4 (λy hy=>by cases hy) λ_=>⟨b,s,sz,g5,by omega⟩
    cases hq
   cases hq
 cases hq
theorem zFQ(hS:Sim P B w1 ι h w)(hE:zcq ι N env a){cnt:Nat}{x:Operand}{lo hi mx:Option Operand}(ho:o.op=.slice t x lo hi mx)(hs:P.underlying t=some (.array cnt el))(ht:zdM P el=true)(hq:q h env (.slcA (P.cellsOf el) cnt (opX x) (lo.map opX) (hi.map opX) (mx.map opX))=some v):QOk P ι a w o v:=by
 simp only[zdM,qai]at ht;simp only[q]at hq;split at hq
 .rename_i β off l1 hh1 m1 hx1 hl1 hh2 hm1;cases hb:Nat.blt 0 (P.cellsOf el) && Nat.blt cnt (2 ^ 63) && zGX h β (off+cnt * P.cellsOf el)with
  | false=>simp_all
  | true=>
   simp only[hb,qdt,qal,qdp]at hq;obtain⟨l,hh,c,hbd,rfl⟩:=hq;simp only[qai]at hb;obtain⟨⟨hb1,hb2⟩,hb3⟩:=hb;have hn:0<P.cellsOf el:=qbU.mp hb1;have hc63:cnt<2 ^ 63:=qbU.mp hb2;have hx:=zae hE hx1;have g1:=zua hE hl1;have g2:=zua hE hh2;have g3:=zua hE hm1;unfold zGX at hb3;split at hb3
   .rename_i cs hcs;have hle:=qad hb3;obtain⟨b',s',sz',arr,T,fr,k1,k2,k3,k4,_⟩:=hS.cells hcs;generalize hu0:a.eval x=u0 at hx;cases hx with
    | ptr _ _ b s sz hι=>
     rw[hι]at k1; cases k1;obtain⟨m,r1,r2,r3,r4,r5,r6⟩:=zdP (P:=P) (isSl:=false) (cap:=some cnt) (cap':=cnt) (by simp) (qap cnt) g1 g2 g3 hbd;refine⟨_,λw' _=>?_,zuM hι (by omega) hc63 hn r2 r3 r4 r5 λhcn=>by cases(r6 hcn).2⟩;simp only[execOp,ho,Instr.sliceAt,Sem.run_bind,zag hs,Result.andThen_ok,Instr.sureAddr,hu0,Sem.run_pure,r1,zaY ht.1]
     grind
   cases hb3
 cases hq
theorem zfR{x:V}{u:Value}{l:List V}(hr:VRel ι x u)(hc:x.cells=some l):zfj ι l u.cells:=by
 cases hr with
 | lit v=>
  simp only[V.cells]at hc;cases ho:zhm u with
  | false=>simp_all
  | true=>
   simp only[ho,qdt,qae]at hc;subst hc;have h1:u.cells = #[u]/\u.oneCell'=true:=by cases u<;>first | exact⟨rfl,rfl⟩| (simp[zhm]at ho)
   rw[h1.1];refine⟨rfl,λi y v hy hv=>?_⟩
   grind [Go.Mx.VRel]
 | agg vs arr h1 h2 h3=>
  simp only[V.cells,qae]at hc;subst hc;exact⟨h1,λi y v hy hv=>⟨h2 i y v hy hv,h3 i v hv⟩⟩
 | tup=>simp[V.cells]at hc
 | ptr β o b s sz h1=>
  simp only[V.cells,qae]at hc; subst hc;refine⟨rfl,λi y v hy hv=>?_⟩;cases i with
  | zero=>simp[Value.cells]at hy hv; subst hy; subst hv; exact⟨.ptr β o b s sz h1,rfl⟩
  | succ i=>simp at hy
 | sl β o n len cap b s sz cap' h1 h2 h3 h4 h5 h6 h7=>
  simp only[V.cells,qae]at hc; subst hc;refine⟨rfl,λi y v hy hv=>?_⟩;cases i with
  | zero=>simp[Value.cells]at hy hv; subst hy; subst hv; exact⟨.sl β o n len cap b s sz cap' h1 h2 h3 h4 h5 h6 h7,rfl⟩
  | succ i=>simp at hy
 | sl0 β o n cap ad h1 h2 h3=>
  simp only[V.cells,qae]at hc; subst hc;refine⟨rfl,λi y v hy hv=>?_⟩;cases i with
  | zero=>simp[Value.cells]at hy hv; subst hy; subst hv; exact⟨.sl0 β o n cap ad h1 h2 h3,rfl⟩
  | succ i=>simp at hy
 | clo f first cap xs ys h1 h2 h3 h4=>
  simp only[V.cells,qae]at hc; subst hc;refine⟨rfl,λi y v hy hv=>?_⟩;cases i with
  | zero=>simp[Value.cells]at hy hv; subst hy; subst hv; exact⟨.clo f first cap xs ys h1 h2 h3 h4,rfl⟩
  | succ i=>simp at hy
 | yld l b s sz h1=>
  simp only[V.cells,qae]at hc; subst hc;refine⟨rfl,λi y v hy hv=>?_⟩;cases i with
  | zero=>simp[Value.cells]at hy hv; subst hy; subst hv; exact⟨.yld l b s sz h1,rfl⟩
  | succ i=>simp at hy
 | ifc t v0 u0 h1=>
  simp only[V.cells,qae]at hc; subst hc;refine⟨rfl,λi y v hy hv=>?_⟩;cases i with
  | zero=>simp[Value.cells]at hy hv; subst hy; subst hv; exact⟨.ifc t v0 u0 h1,rfl⟩
  | succ i=>simp at hy
theorem zkf(off:Nat):∀(l:List Value) (k:Nat) (arr:Array Value),off+k+l.length<=arr.size ->
  ((l.zipIdx k).foldl (λcs x=>cs.setIfInBounds (off+x.2) x.1) arr).size=arr.size /\
  ∀ i,((l.zipIdx k).foldl (λcs x=>cs.setIfInBounds (off+x.2) x.1) arr)[i]? = if off+k<=i/\i<off+k+l.length then l[i - (off+k)]? else arr[i]?
 | [],k,arr,_=>by
  grind [List.zipIdx_nil]
 | v :: l,k,arr,h=>by
  simp only[qaB]at h;obtain⟨h1,h2⟩:=zkf off l (k+1) (arr.setIfInBounds (off+k) v) (by simp; omega)
  grind [List.zipIdx_cons]
theorem zgU(cs ns:List V)(off:Nat)(h:off+ns.length<=cs.length):(zbT cs off ns).length=cs.length /\
  ∀ i,(zbT cs off ns)[i]? = if off<=i/\i<off+ns.length then ns[i - off]? else cs[i]?:=by
 grind [zbT,qbW]
variable{arr:Array Value}
theorem zfj.put{cs ns:List V}{narr:Array Value}{off:Nat}(hc:zfj ι cs arr)(hn:zfj ι ns narr)(hle:off+ns.length<=cs.length):
  zfj ι (zbT cs off ns) (narr.zipIdx.foldl (λcs x=>cs.setIfInBounds (off+x.2) x.1) arr):=by
 obtain⟨h1,h2⟩:=zgU cs ns off hle;have hl:(narr.zipIdx.foldl (λcs x=>cs.setIfInBounds (off+x.2) x.1) arr)=((narr.toList.zipIdx 0).foldl (λcs x=>cs.setIfInBounds (off+x.2) x.1) arr):=by
  rw[<- Array.foldl_toList]; simp
 obtain⟨h3,h4⟩:=zkf off narr.toList 0 arr (by have:=hc.1; have:=hn.1; simp; omega)
 grind [Go.Mx.zfj]
theorem zjQ(z:List Value)(hz:z.all zhm=true):zfj ι (z.map .lit) z.toArray:=by
 refine⟨by simp,λi x v hx hv=>?_⟩;simp only[qa6,qal]at hx;obtain⟨u,hu,rfl⟩:=hx;have:v=u:=by simp[hu]at hv; exact hv.symm
 subst this;have hone:=qcs.1 hz v (qaC hu);exact⟨.lit _,by cases v<;>first | rfl | (simp[zhm]at hone)⟩
theorem zdI(hE:zcq ι N env a){place:Nat->Option (Nat×Nat)}{off size:Nat->Nat}:
  ∀(parts:List (Nat×Operand)) (cs cs':List V) (arr:Array Value),(∀ ix∈parts,place ix.1=some (off ix.1,size ix.1))->zfj ι cs arr ->
   zgN env cs (parts.map λix=>(off ix.1,size ix.1,opX ix.2))=some cs' ->
   ∃ arr',Instr.fill place arr (parts.map λix=>(ix.1,a.eval ix.2))=some arr'/\zfj ι cs' arr'
 | [],cs,cs',arr,_,hL,hf=>by
  simp only[qdq,zgN,qae]at hf;subst hf;exact⟨arr,rfl,hL⟩
 |(i,x):: parts,cs,cs',arr,hpl,hL,hf=>by
  simp only[qaL,zgN]at hf;split at hf
  .rename_i l hl;obtain⟨v1,h1,h2⟩:=qaY.1 hl;cases hb:(l.length == size i) && Nat.ble (off i+size i) cs.length with
   | false=>simp_all
   | true=>
    simp only[hb,qdt]at hf;simp only[qai,qdz]at hb;have hle:=qad hb.2;have hk:zfj ι l (a.eval x).cells:=zfR (zae hE h1) h2;have hput:=zfj.put (off:=off i) hL hk (by omega);obtain⟨arr',h3,h4⟩:=zdI hE (place:=place) (off:=off) (size:=size) parts _ _ _ (λix hix=>hpl ix (qah _ hix)) hput hf
    grind [Instr.fill,qaj,Go.Mx.zfj]
  cases hf
theorem zhL{α β:Type}(f:α->Sem β)(g:α->β):∀(l:List α),(∀ x∈l,∀ w,(f x).run P w=.ok (g x) w)->∀ w:World,(l.mapM f).run P w=.ok (l.map g) w
 | [],_,w=>by simp
 | x :: r,h,w=>by
  simp[qcZ,h x qaj,zhL f g r (λy hy=>h y (qah _ hy))]
theorem zll{α β:Type}(f:α->Sem β)(g:α->β)(arr:Array α)(h:∀ x∈arr,∀ w,(f x).run P w=.ok (g x) w)(w:World):(arr.mapM f).run P w=.ok (arr.map g) w:=by
 obtain⟨l⟩:=arr;rw[List.mapM_toArray];simp[zhL f g l (λx hx=>h x (by simpa using hx))]
variable{z:List Value}
theorem zdu(hz:zgY P t=some z):∃ v,(P.info? t).bind (·.zero)=some v/\v.cells.toList=z:=by
 grind [zgY,qal]
theorem zkm{cs:List V}(hL:zfj ι cs arr):VRel ι (.agg cs) (.agg arr):=
 .agg _ _ hL.1 (λi x v h1 h2=>(hL.2 i x v h1 h2).1) (λi v hv=>by
  have hi:i<cs.length:=by rw[<- hL.1]; exact(qbg.1 hv).1
  exact(hL.2 i cs[i] v (qac hi) hv).2)
variable{parts:Array (Nat×Operand)}
theorem zlj(hE:zcq ι N env a)(ho:o.op=.build t parts)(hz:zgY P t=some z)(hone:z.all zhm=true){fs:Array Field}(hs:P.underlying t=some (.struct fs))(hf:fs.all (λf=>zdM P f.type)=true)(hpt:parts.all (λix=>Nat.blt ix.1 fs.size)=true)(hq:q h env (.build z (parts.toList.map λix=>((fs.getD ix.1 default).offset,P.cellsOf (fs.getD ix.1 default).type,opX ix.2)))=some v):QOk P ι a w o v:=by
 simp only[q,qal]at hq;obtain⟨cs',hfill,rfl⟩:=hq;obtain⟨zv,hzv,rfl⟩:=zdu hz;have hplaces:∀ w':World,(fs.mapM λ(f:Field)=>(do pure (f.offset,<- sizeOf f.type):Sem (Nat×Nat))).run P w'=.ok (fs.map λ(f:Field)=>(f.offset,P.cellsOf f.type)) w':=λw'=>
  zll (P:=P) (λ(f:Field)=>(do pure (f.offset,<- sizeOf f.type):Sem (Nat×Nat))) (λ(f:Field)=>(f.offset,P.cellsOf f.type)) fs (λf hf' w''=>by
   have:=Array.all_eq_true_iff_forall_mem.1 hf f hf';simp only[zdM,qai]at this
   simp[zaY this.1]) w'
 obtain⟨arr',h1,h2⟩:=zdI hE (place:=λi=>(fs.map λf=>(f.offset,P.cellsOf f.type))[i]?) (off:=λi=>(fs.getD i default).offset) (size:=λi=>P.cellsOf (fs.getD i default).type)
  parts.toList _ cs' zv.cells (λix hix=>by
   have:=Array.all_eq_true_iff_forall_mem.1 hpt ix (by simpa using hix);have hlt:ix.1<fs.size:=qbU.mp this
   simp[hlt]) (by simpa using zjQ (ι:=ι) _ hone) hfill
 refine⟨_,λw' _=>?_,zkm h2⟩
 simp_all [execOp,Instr.build,zbz,zag]
theorem zm1(hE:zcq ι N env a){n:Nat}(ho:o.op=.build t parts)(hz:zgY P t=some z)(hone:z.all zhm=true)(hs:P.underlying t=some (.array n el))(hf:zdM P el=true)(hq:q h env (.build z (parts.toList.map λix=>(ix.1 * P.cellsOf el,P.cellsOf el,opX ix.2)))=some v):QOk P ι a w o v:=by
 simp only[q,qal]at hq;obtain⟨cs',hfill,rfl⟩:=hq;obtain⟨zv,hzv,rfl⟩:=zdu hz;simp only[zdM,qai]at hf;obtain⟨arr',h1,h2⟩:=zdI hE (place:=λi=>some (i * P.cellsOf el,P.cellsOf el)) (off:=λi=>i * P.cellsOf el) (size:=λ_=>P.cellsOf el)
  parts.toList _ cs' zv.cells (λix _=>rfl) (by simpa using zjQ (ι:=ι) _ hone) hfill
 refine⟨_,λw' _=>?_,zkm h2⟩
 simp_all [execOp,Instr.build,zbz,zag,zaY]
theorem zeX{b:Bool}{i:I}{r:V}(hq:q h env (bif b then i else .bad)=some r):b=true/\q h env i=some r:=by
 grind [Go.Mx.q]
theorem zvX(hS:Sim P B w1 ι h w)(hE:zcq ι N env a)(o:Oper)(hq:q h env (za1 P o)=some v):QOk P ι a w o v:=by
 obtain⟨dst,op,type,pos,after,guard⟩:=o;cases op with
 | move x=>exact⟨_,λw' _=>by simp[execOp],zae hE hq⟩
 | assign x=>exact⟨_,λw' _=>by simp[execOp],zae hE hq⟩
 | pick c x y=>
  simp only[za1,q]at hq;split at hq
  .rename_i h1;exact⟨_,λw' _=>by simp[execOp,zfd hE h1,asBool],zae hE hq⟩
  .rename_i h1;exact⟨_,λw' _=>by simp[execOp,zfd hE h1,asBool],zae hE hq⟩
  .cases hq
 | alloc t=>
  simp only[za1]at hq;split at hq
  .obtain⟨_,hq⟩:=zeX hq; simp[q]at hq
  .simp[q]at hq
 | build t parts=>
  simp only[za1]at hq;split at hq
  .rename_i z hz;obtain⟨hone,hq⟩:=zeX hq;split at hq
   .rename_i fs hs;obtain⟨hb,hq⟩:=zeX hq;simp only[qai]at hb;exact zlj hE rfl hz hone hs hb.1 hb.2 hq
   .rename_i n el hs;obtain⟨hb,hq⟩:=zeX hq;exact zm1 hE rfl hz hone hs hb hq
   simp[q]at hq
  .simp[q]at hq
 | buildSlice t len parts=>
  simp only[za1]at hq;split at hq
  .obtain⟨_,hq⟩:=zeX hq;split at hq
   .obtain⟨_,hq⟩:=zeX hq; simp[q]at hq
   simp[q]at hq
  .simp[q]at hq
 | load t x=>
  simp only[za1]at hq;obtain⟨ht,hq⟩:=zeX hq;exact zFY hS hE rfl ht hq
 | store t x y=>
  simp only[za1]at hq;obtain⟨ht,hq⟩:=zeX hq;simp[q]at hq
 | fieldAddr s x f=>
  simp only[za1]at hq;split at hq
  .rename_i fs hs;split at hq
   .rename_i fd hf;obtain⟨hb,hq⟩:=zeX hq;simp only[qai,qbh]at hb;exact zHu hE rfl hs hf hb.1 hb.2 hq
   simp[q]at hq
  .simp[q]at hq
 | field s x f=>
  simp only[za1]at hq;split at hq
  .rename_i fs hs;split at hq
   .rename_i fd hf;obtain⟨hb,hq⟩:=zeX hq;exact zEb hE rfl hs hf hb hq
   simp[q]at hq
  .simp[q]at hq
 | indexAddr t x i=>
  simp only[za1]at hq;split at hq
  .rename_i el hs;obtain⟨hb,hq⟩:=zeX hq;exact zEf hE rfl hs hb hq
  .rename_i cnt el hs;obtain⟨hb,hq⟩:=zeX hq;simp only[qai]at hb;exact zEi hE rfl hs hb.1 hq
  .simp[q]at hq
 | index t x i=>
  simp only[za1]at hq;split at hq
  .rename_i cnt el hs;obtain⟨hb,hq⟩:=zeX hq;simp only[qai,qbt,qdz]at hb;exact zFq hE rfl hs hb.1.1 (λhg=>by rcases hb.2 with h0 | h0; (rw[hg]at h0; cases h0); exact h0) hq
  .rename_i hs;split at hq
   .exact zGy hE rfl hs hq
   simp[q]at hq
  .simp[q]at hq
 | makeFunc fn first cap=>
  cases fn with
  | func f=>exact zGT hE rfl hq
  | _=>simp[za1,q]at hq
 | makeInterface t x=>
  simp only[za1]at hq;split at hq
  .rename_i fs hs;exact zGV hE rfl hs hq
  .simp[q]at hq
 | binOp op t x y ty=>
  simp only[za1]at hq;split at hq
  .exact zHE hE rfl hq
  .rename_i ht;split at hq
   .exact zEI (neg:=false) hE rfl ht hq
   .exact zEI (neg:=true) hE rfl ht hq
   simp[q]at hq
  .rename_i fs ht;obtain⟨hf,hq⟩:=zeX hq;split at hq
   .exact zD8 (neg:=false) hE rfl ht hf hq
   .exact zD8 (neg:=true) hE rfl ht hf hq
   simp[q]at hq
  .rename_i el ht;split at hq
   .exact zFm (neg:=false) hE rfl ht hq
   .exact zFm (neg:=true) hE rfl ht hq
   simp[q]at hq
  .rename_i el ht;split at hq
   .exact zEW (neg:=false) hE rfl ht hq
   .exact zEW (neg:=true) hE rfl ht hq
   simp[q]at hq
  .rename_i el ht;split at hq
   .exact zFP (neg:=false) hE rfl ht hq
   .exact zFP (neg:=true) hE rfl ht hq
   simp[q]at hq
  .simp[q]at hq
 | unOp op t x=>exact zIi hE rfl hq
 | convert s d x=>
  simp only[za1]at hq;split at hq
  .rename_i h1 h2;exact zEe hE rfl h1 h2 hq
  .simp[q]at hq
 | extract x i=>exact zHz hE rfl hq
 | makeSlice t l c=>
  simp only[za1]at hq;split at hq
  .obtain⟨_,hq⟩:=zeX hq;split at hq
   .obtain⟨_,hq⟩:=zeX hq; simp[q]at hq
   simp[q]at hq
  .simp[q]at hq
 | slice t x lo hi mx=>
  simp only[za1]at hq;split at hq
  .rename_i el hs;obtain⟨hb,hq⟩:=zeX hq;exact zGw hS hE rfl hs hb hq
  .rename_i cnt el hs;obtain⟨hb,hq⟩:=zeX hq;exact zFQ hS hE rfl hs hb hq
  .simp[q]at hq
 | nilCheck x=>exact zBS hE rfl hq
 | call c=>
  simp only[za1,zj3]at hq;split at hq
  .obtain⟨_,hq⟩:=zeX hq;simp[q]at hq
  .simp[q]at hq
  .rename_i b hc;split at hq
   .rename_i t x h1 h2;split at hq
    .rename_i el hs;exact zGJ hE rfl hc h1 h2 hs hq
    simp[q]at hq
   .exact zH0 (isMax:=false) hE rfl hc hq
   .exact zH0 (isMax:=true) hE rfl hc hq
   .split at hq
    .obtain⟨_,hq⟩:=zeX hq;split at hq
     .obtain⟨_,hq⟩:=zeX hq; simp[q]at hq
     simp[q]at hq
    simp[q]at hq
   .split at hq
    .obtain⟨_,hq⟩:=zeX hq; simp[q]at hq
    simp[q]at hq
   .split at hq
    .obtain⟨_,hq⟩:=zeX hq;split at hq
     .obtain⟨_,hq⟩:=zeX hq; simp[q]at hq
     simp[q]at hq
    simp[q]at hq
   .simp[q]at hq
   simp[q]at hq
  .simp[q]at hq
 | defer c=>
  simp only[za1]at hq;split at hq<;>simp[q]at hq
 | _=>simp[za1,q]at hq
end
end Go.Mx
